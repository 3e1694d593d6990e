/- Texts of this claim, one behind the other. No condition but those that each states. -/
import Derived.Test.YtbopooanmpcepaaGreatDoorCodeE
import Derived.Test.YtbopooanmpcepaaGreatDoorCodeTd
import Derived.Test.YtbopooanmpcepaaGreatDoorCodeEn
import Derived.Test.YtbopooanmpcepaaGreatDoorCodePt
import Derived.Deep.RegionWith
import Derived.RegionTactic
import Derived.Test.YtbopooanmpcepaaGreatDoorRows
import Derived.LaidLaws
import Derived.LaidHandle
import Derived.LaidSub
import Derived.LaidMore
import Derived.Lib.LaidTab
import Derived.Handed

namespace Go.Proofs.YtbopooanmpcepaaGreatDoor
open Go.RowKit Go.Bus Go.Bus.cellK Go.Bus.codeK Go.Joins Go.ChangeShapes Go.WideShapes
set_option linter.unusedVariables false
namespace inssA
section
variable {H : Type} {enc : TypeId × Value → H} {w : World} {r : Reach} {b0 : Nat} {n : Nat} {cs : List Value} {z : DataW H × List MemPlace}
set_option maxRecDepth 100000 in
theorem ins_el (hl : cs.length = 5) (h : DataW.trod enc Tryz.prog w 0 (fun _ => true) true n 24 cs = some z) (hw : ∀ q ∈ z.1.weights Tryz.prog 24, q ≤ reachBytes) : ∃ x, codeW.insE w (Old w.heap.size) cs x ∧ x.Ok := by
  clear hl
  obtain ⟨hl, hf⟩ := field_of Tryz.underlying24 h hw
  rw [show Tryz.prog.cellsOf 24 = 5 from by kernel_rfl] at hl
  match cs, hl with
  | [c0, c1, c2, c3, c4], _ =>
    obtain ⟨y0, m0, g0, _⟩ := hf 0 3 0 1 rfl (by kernel_rfl)
    obtain ⟨op, e0, _, o0⟩ := DataW.trod_int Tryz.underlying3 g0
    obtain rfl : c0 = .int .i64 op := by simpa using e0
    obtain ⟨y1, m1, g1, _⟩ := hf 1 3 1 1 rfl (by kernel_rfl)
    obtain ⟨a, e1, _, o1⟩ := DataW.trod_int Tryz.underlying3 g1
    obtain rfl : c1 = .int .i64 a := by simpa using e1
    obtain ⟨y2, m2, g2, _⟩ := hf 2 3 2 1 rfl (by kernel_rfl)
    obtain ⟨b, e2, _, o2⟩ := DataW.trod_int Tryz.underlying3 g2
    obtain rfl : c2 = .int .i64 b := by simpa using e2
    obtain ⟨y3, m3, g3, _⟩ := hf 3 3 3 1 rfl (by kernel_rfl)
    obtain ⟨n', e3, _, o3⟩ := DataW.trod_int Tryz.underlying3 g3
    obtain rfl : c3 = .int .i64 n' := by simpa using e3
    obtain ⟨y4, m4, g4, _⟩ := hf 4 22 4 1 rfl (by kernel_rfl)
    obtain ⟨imm, e4, _, o4⟩ := DataW.trod_int Tryz.underlying22 g4
    obtain rfl : c4 = .int .u64 imm := by simpa using e4
    exact ⟨⟨op, a, b, n', imm⟩, rfl, ⟨wf_i64 o0, wf_i64 o1, wf_i64 o2, wf_i64 o3, wf_u64 o4⟩⟩
end
set_option maxRecDepth 100000 in
theorem open_inss {H : Type} {enc : TypeId × Value → H} {w : World} {r : Reach} {b0 : Nat} {v : Value} {d : DataW H} {p : List MemPlace} (hv : Value.okWide Tryz.prog w r b0 41 v)
    (h : DataW.Trod enc Tryz.prog w 0 (fun _ => true) true 41 v d p) (hw : ∀ m ∈ d.weights Tryz.prog 41, m ≤ reachBytes) :
    ∃ l : List Ins, SlK 5 codeW.insE w (Old w.heap.size) v l ∧ (∀ x ∈ l, x.Ok) ∧ l.length * 40 ≤ 140737488351232 := by
  obtain ⟨a0, n0, c0, rfl⟩ := Go.WideShapes.okWide_slice Tryz.underlying41 hv
  obtain ⟨m, hm⟩ := h
  obtain ⟨l, h1, h2, h3⟩ := open_slk (y := (d, p)) (R := codeW.insE) (Q := Ins.Ok) Tryz.underlying41 (show Tryz.prog.cellsOf 24 = 5 from by kernel_rfl) (by decide) hm hw (fun m cs z hl h hw => ins_el hl h hw)
  rw [show Tryz.prog.bytesOf 24 = 40 from by kernel_rfl] at h3
  exact ⟨l, h1, h2, h3⟩
end inssA
end Go.Proofs.YtbopooanmpcepaaGreatDoor

namespace Go.Proofs.YtbopooanmpcepaaGreatDoor
open Go.RowKit Go.Bus Go.Bus.cellK Go.Bus.codeK Go.Joins Go.ChangeShapes Go.WideShapes
set_option linter.unusedVariables false
namespace inssA
set_option maxRecDepth 100000 in
theorem open_ins {H : Type} {enc : TypeId × Value → H} {w : World} {r : Reach} {b0 : Nat} {v : Value} {d : DataW H} {p : List MemPlace} (hv : Value.okWide Tryz.prog w r b0 24 v)
    (h : DataW.Trod enc Tryz.prog w 0 (fun _ => true) true 24 v d p) (hw : ∀ m ∈ d.weights Tryz.prog 24, m ≤ reachBytes) :
    ∃ x : Ins, v = .agg (codeW.insC x).toArray ∧ x.Ok := by
  obtain ⟨cs, rfl, hsz⟩ := okWide_struct Tryz.underlying24 hv
  obtain ⟨fuel, hf⟩ := h
  have hc : cs.toList.length = 5 := by rw [Array.length_toList, hsz]; kernel_rfl
  obtain ⟨x, hx, hok⟩ := ins_el (z := (d, p)) hc hf hw
  refine ⟨x, ?_, hok⟩
  have hx' : cs.toList = codeW.insC x := hx
  rw [← hx']
end inssA
end Go.Proofs.YtbopooanmpcepaaGreatDoor

namespace Go.Proofs.YtbopooanmpcepaaGreatDoor
open Go.RowKit Go.Bus Go.Bus.cellK Go.Bus.codeK Go.Bus.hexK
set_option linter.unusedVariables false
set_option linter.unusedSimpArgs false
namespace codeW
/-- The table of blanks, as it is laid. -/
def Sp (w : World) : Prop := Lib.TabIs Tryz.prog w "strings.asciiSpace" .u8 Lib.asciiSpaceTab
theorem gSp : Tryz.prog.globalNamed "strings.asciiSpace" = some 0 := by kernel_rfl
theorem Sp.at_below {w w' : World} (h : Sp w) (hb : Below w.heap.size w w') : Sp w' :=
  var_below h hb (fun g hg => by rw [gSp] at hg; obtain rfl := Option.some.inj hg; exact World.block_lt_of_cell? w ⟨0, 0, none⟩ (Lib.TabIs.cell h gSp 0 (by rw [Lib.asciiSpaceTab_length]; omega)))
theorem strConsP (c : UInt8) (t : List UInt8) : (⟨#[c]⟩ : ByteArray) ++ ⟨t.toArray⟩ = ⟨(c :: t).toArray⟩ := by
  apply ByteArray.ext
  simp
theorem fields_any (w : World) (h : Sp w) : Calls Tryz.prog 17 #[.string namesB] w fun e w' => e = .returned (.slice (some ⟨w.heap.size, 0, none⟩) 20 20) ∧ (∀ k, k < 20 → w'.cell? ⟨w.heap.size, k, none⟩ = some (.string ⟨(nameN k).toArray⟩)) ∧ w.heap.size < w'.heap.size ∧ Below w.heap.size w w' := by
  refine (Tryz.strings_Fields_laid namesB w (by decide) names_ascii h).mono ?_
  rintro e w' ⟨rfl, rfl⟩
  have hl : (Lib.fields namesB.data.toList).length = 20 := by rw [fields_names]; simp
  rw [hl]
  refine ⟨rfl, fun k hk => ?_, by simp, (Below.refl _ _).alloc (Nat.le_refl _) _⟩
  rw [(Has.new w _ _).cell k, fields_names]
  simp [hk]
set_option maxRecDepth 100000 in
set_option maxHeartbeats 4000000 in
theorem print_good {x : Ins} (w : World) (hx : x.Ok) (hr : rightB x = true) (hT : Tabs w) (hS : Sp w) : Calls Tryz.prog 7 #[.agg (insC x).toArray] w fun e w' => e = .returned (.tuple #[.string ⟨(lineI x).toArray⟩, .nilIface]) ∧ Below w.heap.size w w' := by
  have HRT := Lib.hid (fun (W : World) (mv : Value) (hM : MadeE W (Old W.heap.size) mv) => (right_any W hM hx).mono (R' := fun e w' => e = .returned (.bool true) ∧ Below W.heap.size W w') (fun e w' h => ⟨h.1.trans (by rw [hr]), h.2⟩))
  obtain ⟨fs, hfs, hok, _⟩ := right_some hr
  have HFS := Lib.hid hfs
  have HT := Lib.hid hT
  have HS := Lib.hid hS
  have HX := Lib.hid hx
  have hfl := fields_len hfs
  have HFO := Lib.hid (fields_ok hfs)
  obtain ⟨T, hTL⟩ : ∃ T, T = lineI x := ⟨_, rfl⟩
  rw [← hTL]
  obtain ⟨k, hk, hk20, _⟩ := fields_cases hfs
  have HTL : Hid (T = nameN k ++ lineF fs x) := Lib.hid (by rw [hTL]; unfold lineI; rw [hfs, hk]; rfl)
  have hnl : (nameN k).length ≤ 8 := by
    have key : ∀ k : Fin 20, (nameN k.val).length ≤ 8 := by decide
    exact key ⟨k, hk20⟩
  have HLN : Hid (∀ j, (lineF (fs.take j) x).length ≤ 31 * 4) := Lib.hid (fun j => by
    have key : ∀ gs : List Fk, (∀ g ∈ gs, g.ok) → (lineF gs x).length ≤ 31 * gs.length := by
      intro gs
      induction gs with
      | nil => intro _; simp [lineF]
      | cons g gs ih =>
        intro hg
        have h1 := txt_len (hg g (List.mem_cons_self ..)) hx
        have h2 := ih (fun f hf => hg f (List.mem_cons_of_mem _ hf))
        unfold lineF at h2 ⊢
        rw [List.flatMap_cons, List.length_append, List.length_cons, List.length_cons]
        omega
    have h1 := key (fs.take j) (fun g hg => fields_ok hfs g (List.mem_of_mem_take hg))
    have h2 : (fs.take j).length ≤ 4 := by rw [List.length_take]; omega
    omega)
  obtain ⟨op, a, b, n, imm⟩ := x
  obtain rfl : op = (k : Int) := hk
  clear hx hr hfs hok hT hS hTL
  show Calls Tryz.prog 7 #[.agg #[.int .i64 (k : Int), .int .i64 a, .int .i64 b, .int .i64 n, .int .u64 imm]] w _
  go_enter Tryz.func7, Tryz.ntmps7
  go_wp2_with (first
    | (go_at_call 14; refine (made_any _).mono ?_; rintro e w1 ⟨mv, rfl, hM, hB⟩; have HM := Lib.hid (hM.keep (F' := Old w1.heap.size) (fun b hb => hb.2) (fun _ _ => rfl)); have HJ : Hid (Has w1 w.heap.size 24 #[.int .i64 (k : Int), .int .i64 a, .int .i64 b, .int .i64 n, .int .u64 imm]) := Lib.hid ((Has.new w _ _).below hB (by simp)); have x0 : w1.cell? ⟨w.heap.size, 0, none⟩ = some (.int .i64 (k : Int)) := HJ.out.cell 0; have x1 : w1.cell? ⟨w.heap.size, 1, none⟩ = some (.int .i64 a) := HJ.out.cell 1; have x2 : w1.cell? ⟨w.heap.size, 2, none⟩ = some (.int .i64 b) := HJ.out.cell 2; have x3 : w1.cell? ⟨w.heap.size, 3, none⟩ = some (.int .i64 n) := HJ.out.cell 3; have x4 : w1.cell? ⟨w.heap.size, 4, none⟩ = some (.int .u64 imm) := HJ.out.cell 4; have zj : w.heap.size < w1.heap.size := HJ.out.lt; have HB : Hid (Below w.heap.size w w1) := Lib.hid (((Below.refl _ _).alloc (Nat.le_refl _) _).trans (hB.mono (by simp))); clear hM hB)
    | (go_at_call 15; refine (HRT.out _ _ HM.out).mono ?_; rintro e w2 ⟨rfl, hB2⟩; have HJ2 := Lib.hid (HJ.out.below hB2 HJ.out.lt); have y0 : w2.cell? ⟨w.heap.size, 0, none⟩ = some (.int .i64 (k : Int)) := HJ2.out.cell 0; have zj2 : w.heap.size < w2.heap.size := HJ2.out.lt; have HM2 := Lib.hid (HM.out.old hB2); have HB2 := Lib.hid (HB.out.trans (hB2.mono (Nat.le_of_lt zj))); clear hB2)
    | (go_at_call 16; refine (of_yes _ HM2.out HFS.out).mono ?_; rintro e w4 ⟨v4, rfl, hS4, hB4, hO4⟩; obtain ⟨A4, cap4, rfl, hc4, hm4⟩ := hS4.form; have HJ4 := Lib.hid (HJ2.out.below hB4 HJ2.out.lt); have zj4 : w.heap.size < w4.heap.size := HJ4.out.lt; have HS4 := Lib.hid hS4; have HB4 := Lib.hid (HB2.out.trans (hB4.mono (Nat.le_of_lt zj2))); clear hS4 hB4 hO4 hm4))
  have hk20i : (k : Int) < 20 := by omega
  have y4 : w4.cell? ⟨w.heap.size, 0, none⟩ = some (.int .i64 (k : Int)) := HJ4.out.cell 0
  go_region_law (go_simp; go_at_call 17; refine (fields_any _ (HS.out.at_below (by have hB := HB4.out; exact (by repeat' (first | (with_reducible assumption) | (with_reducible refine Below.setCell ?_ ?_ _) | (with_reducible refine Below.alloc ?_ ?_ _) | (with_reducible refine Below.drew ?_) | (with_reducible refine below_drewN ?_ _) | (with_reducible exact Below.refl _ _) | (show _ ≤ _; (try simp); (try omega); done) | exact Below.refl _ _ | assumption))))).mono ?_; rintro e w5 ⟨rfl, hcl, hz5, hb5⟩; have hB5 : Below w4.heap.size w4 w5 := Below.trans (by repeat' (first | (with_reducible assumption) | (with_reducible refine Below.setCell ?_ ?_ _) | (with_reducible refine Below.alloc ?_ ?_ _) | (with_reducible refine Below.drew ?_) | (with_reducible refine below_drewN ?_ _) | (with_reducible exact Below.refl _ _) | (show _ ≤ _; (try simp); (try omega); done) | exact Below.refl _ _ | assumption)) (hb5.mono (by (try simp); (try omega))); have y5 : w5.cell? ⟨w.heap.size, 0, none⟩ = some (.int .i64 (k : Int)) := (HJ4.out.below hB5 zj4).cell 0; have zj5 : w.heap.size < w5.heap.size := Nat.lt_of_lt_of_le zj4 hB5.size; have n5 : w5.cell? ⟨w4.heap.size, k, none⟩ = some (.string ⟨(nameN k).toArray⟩) := hcl k hk20; have zn5 : w4.heap.size < w5.heap.size := hz5; have HB5 := Lib.hid hB5; clear hcl hb5 hB5 hz5)
  all_goals
    go_wp2_with fail
    go_loopw [7, 30] (fun sv i wr => ∃ j : Nat, j ≤ fs.length ∧ i = .int .i64 (j : Nat) ∧ sv = .string ⟨(nameN k ++ lineF (fs.take j) ⟨(k : Int), a, b, n, imm⟩).toArray⟩ ∧ Hid (Below w4.heap.size w4 wr)) (fun _ i _ => fs.length - (intOf i).toNat)
  all_goals first
    | exact ⟨0, Nat.zero_le _, rfl, by simp [lineF], HB5⟩
    | skip
  all_goals
    obtain ⟨j, hj, rfl, rfl, HBr⟩ := hrel
    have HJr := Lib.hid (HJ4.out.below HBr.out zj4)
    have HSr := Lib.hid (HS4.out.below FieldE_mono HBr.out)
    have zjr : w.heap.size < wr.heap.size := HJr.out.lt
    have hzr := HBr.out.size
    have HBw := Lib.hid (HB4.out.trans (HBr.out.mono (Nat.le_of_lt zj4)))
    have HTr := Lib.hid (HT.out.at_below HBw.out)
    have hPl : (nameN k ++ lineF (fs.take j) ⟨(k : Int), a, b, n, imm⟩).length ≤ 132 := by
      have h2 := HLN.out j
      rw [List.length_append]; omega
    clear y4 y5 n5 HB5
    by_cases hlt : j < fs.length
    · obtain ⟨fb, foff, c0, c1, c2, c3, c4, rfl, hbG, hE, g0, g1, g2, g3, g4⟩ := slk_get HSr.out hlt
      obtain ⟨f, hfk⟩ : ∃ f, f = fs[j] := ⟨_, rfl⟩
      rw [← hfk] at hE
      have hfok : f.ok := HFO.out f (by rw [hfk]; exact List.getElem_mem hlt)
      have HLT : Hid (nameN k ++ lineF (fs.take (j + 1)) ⟨(k : Int), a, b, n, imm⟩ = (nameN k ++ lineF (fs.take j) ⟨(k : Int), a, b, n, imm⟩) ++ (32 :: txtF f ⟨(k : Int), a, b, n, imm⟩)) := Lib.hid (by rw [lineF_take fs _ hlt, ← hfk, List.append_assoc])
      have hQl := txt_len hfok HX.out
      obtain ⟨fn0, cap0, fn1, cap1, fn2, cap2, fn3, cap3, fn4, cap4', rfl, rfl, rfl, rfl, rfl, hcf3, hcf4⟩ := tx_shape hE
      have zb : fb < wr.heap.size := Nat.lt_of_lt_of_le hbG hzr
      have hbl : Below w4.heap.size wr (wr.alloc (.cells #[.func (.func fn0) #[] cap0, .func (.func fn1) #[] cap1, .func (.func fn2) #[] cap2, .func (.func fn3) #[] cap3, .func (.func fn4) #[] cap4'] 57)) := (Below.refl _ _).alloc hzr _
      have HC3 := Lib.hid (Do.calls (tx_do (x := ⟨(k : Int), a, b, n, imm⟩) (hE.below hbl) hfok HX.out (HTr.out.at_below ((Below.refl _ _).alloc (Nat.le_refl _) _))))
      have j0 : wr.cell? ⟨w.heap.size, 0, none⟩ = some (.int .i64 (k : Int)) := HJr.out.cell 0
      have j1 : wr.cell? ⟨w.heap.size, 1, none⟩ = some (.int .i64 a) := HJr.out.cell 1
      have j2 : wr.cell? ⟨w.heap.size, 2, none⟩ = some (.int .i64 b) := HJr.out.cell 2
      have j3 : wr.cell? ⟨w.heap.size, 3, none⟩ = some (.int .i64 n) := HJr.out.cell 3
      have j4 : wr.cell? ⟨w.heap.size, 4, none⟩ = some (.int .u64 imm) := HJr.out.cell 4
      unfold Txt insC at HC3
      clear hE hfk hfok hbl hbG
      generalize nameN k ++ lineF (fs.take j) ⟨(k : Int), a, b, n, imm⟩ = P at *
      generalize txtF f ⟨(k : Int), a, b, n, imm⟩ = Q at *
      have hn1 : ¬ 9223372036854775807 < 1 + Q.length := by omega
      have hn2 : ¬ 9223372036854775807 < P.length + (1 + Q.length) := by omega
      go_wp2_with (refine HC3.out.mono ?_; rintro e w6 ⟨rfl, hB6⟩; have hb6 : Below w4.heap.size wr w6 := Below.trans ((Below.refl _ _).alloc hzr _) (hB6.mono (by simp; omega)); have HB6 := Lib.hid (HBr.out.trans hb6); clear hB6 hb6)
      go_roundw
      case rel => exact ⟨j + 1, by omega, by go_num, by rw [HLT.out, ← strApp, ← strConsP]; rfl, HB6⟩
      case measure => simp [intOf]; omega
    · obtain rfl : j = fs.length := by omega
      have hft : fs.take fs.length = fs := List.take_of_length_le (Nat.le_refl _)
      go_wp2
      go_ret2
      rw [hft, ← HTL.out]
      exact ⟨rfl, HBw.out⟩
end codeW
end Go.Proofs.YtbopooanmpcepaaGreatDoor

namespace Go.Proofs.YtbopooanmpcepaaGreatDoor
open Go.RowKit Go.Bus Go.Extern.Stop Go.Stop Go.Extern
set_option linter.unusedVariables false
namespace laidC
theorem tab_of_laid {l : List (String × DataW Unit)} {W : World} (h : laidMetH Tryz.prog l W) (hl : l.filter (fun x => x.1 == "internal/strconv.uint64pow10") = [("internal/strconv.uint64pow10", Rows.laid_internal_strconv_uint64pow10)]) : Lib.TabIs Tryz.prog W "internal/strconv.uint64pow10" .u64 Lib.pow10Tab := by
  have h1 := h.filter (fun x => x.1 == "internal/strconv.uint64pow10")
  rw [hl] at h1
  have h' : laidMet Tryz.prog [("internal/strconv.uint64pow10", Lib.tabData .u64 Lib.pow10Tab)] W := h1
  exact Lib.tabIs_of_head codeW.gPow (t := 182) (e := 22) (n := 20) (by kernel_rfl) Tryz.underlying182 Tryz.underlying22 (by kernel_rfl) (by kernel_rfl) h'
set_option maxRecDepth 100000 in
theorem sp_of_laid {l : List (String × DataW Unit)} {W : World} (h : laidMetH Tryz.prog l W) (hl : l.filter (fun x => x.1 == "strings.asciiSpace") = [("strings.asciiSpace", Rows.laid_strings_asciiSpace)]) : codeW.Sp W := by
  have h1 := h.filter (fun x => x.1 == "strings.asciiSpace")
  rw [hl] at h1
  have h' : laidMet Tryz.prog [("strings.asciiSpace", Lib.tabData .u8 Lib.asciiSpaceTab)] W := h1
  exact Lib.tabIs_of_head codeW.gSp (t := 84) (e := 5) (n := 256) (by kernel_rfl) Tryz.underlying84 Tryz.underlying5 (by kernel_rfl) (by kernel_rfl) h'
def tzTab : List Int := [0, 1, 56, 2, 57, 49, 28, 3, 61, 58, 42, 50, 38, 29, 17, 4, 62, 47, 59, 36, 45, 43, 51, 22, 53, 39, 33, 30, 24, 18, 12, 5, 63, 55, 48, 27, 60, 41, 37, 16, 46, 35, 44, 21, 52, 32, 23, 11, 54, 26, 40, 15, 34, 20, 31, 10, 25, 14, 19, 9, 13, 8, 7, 6]
theorem gTz : Tryz.prog.globalNamed "math/bits.deBruijn64tab" = some 10 := by kernel_rfl
theorem tz_of_laid {l : List (String × DataW Unit)} {W : World} (h : laidMetH Tryz.prog l W) (hl : l.filter (fun x => x.1 == "math/bits.deBruijn64tab") = [("math/bits.deBruijn64tab", Rows.laid_math_bits_deBruijn64tab)]) : hexW.Tz W := by
  have h1 := h.filter (fun x => x.1 == "math/bits.deBruijn64tab")
  rw [hl] at h1
  have h' : laidMet Tryz.prog [("math/bits.deBruijn64tab", Lib.tabData .u8 tzTab)] W := h1
  have h2 := Lib.tabIs_of_head gTz (t := 197) (e := 5) (n := 64) (by kernel_rfl) Tryz.underlying197 Tryz.underlying5 (by kernel_rfl) (by kernel_rfl) h'
  exact h2.cell gTz 15 (by decide)
theorem tabs_of_laid {l : List (String × DataW Unit)} {W : World} (h : laidMetH Tryz.prog l W) (hl : l.filter (fun x => x.1 == "internal/strconv.uint64pow10") = [("internal/strconv.uint64pow10", Rows.laid_internal_strconv_uint64pow10)]) (hl2 : l.filter (fun x => x.1 == "math/bits.deBruijn64tab") = [("math/bits.deBruijn64tab", Rows.laid_math_bits_deBruijn64tab)]) : codeW.Tabs W := ⟨tab_of_laid h hl, tz_of_laid h hl2⟩
end laidC
end Go.Proofs.YtbopooanmpcepaaGreatDoor

namespace Go.Bus
open Go
variable {H : Type} {enc : TypeId × Value → H}
theorem handed_and_shaped {a : Assume} {C : Checked} {os : Os} {f : FuncId} {fn : Func} {s : ChangeSpec} {conds : List PathCond} {apart fresh handsOn again : Bool} {X : World → Array Value → Prop}
    (hX : ∀ (w w' : World) (args : Array Value), w.heap = w'.heap → X w args → X w' args)
    (own : ownKnob C.prog.godebug = none) (started : os.Started) (noInit : C.prog.inits.idxOf? f = none) (hfn : C.prog.funcs[f]? = some fn)
    (witness : ∃ (w : World) (tape : Tape) (i : Input), w.os = os ∧ (w.forCall tape i).Shaped C.prog ∧ i.vars = [] ∧ Input.okWide C.prog (w.forCall tape i) .any w.heap.size f i ∧
      ((s.pre enc C.prog fn conds apart (w.forCall tape i).memory i.args ∧ X (w.forCall tape i).memory i.args) ∧ sizedMet enc C.prog fn (OpenSpec.ofChange s) apart (w.forCall tape i).memory i.args) ∧ a.holds C.prog (lone (Frame.enter C.prog f i.args .normal) [] (w.forCall tape i)))
    (walk : ∀ (W : World) (base : Nat) (args : Array Value) (ds gs : List (DataW H)) (before : List MemPlace),
      (∀ (j : Nat) t v, fn.params[j]? = some t → args[j]? = some v → Value.okWide C.prog W .any base t v) →
      DataW.Whole enc C.prog fn.params.toList s.vars apart W args.toList ds gs before →
      conds.all (PathCond.test C.prog ⟨fn.params.toList, ds, s.plain.varTypes C.prog, gs⟩) = true →
      (DataW.weightsEach C.prog (fn.params.toList ++ s.plain.varTypes C.prog) (ds ++ gs)).all (· ≤ reachBytes) = true → X W args → W.ShapedOpen C.prog →
      a.holds C.prog (lone (Frame.enter C.prog f args .normal) [] W) →
      Calls C.prog f args W fun e W' => ∃ v, e = .returned v ∧ s.post enc C.prog fn apart fresh handsOn again W args v W') :
    ReturnsInHanded a C os f .any (fun w args => (s.pre enc C.prog fn conds apart w args ∧ X w args) ∧ sizedMet enc C.prog fn (OpenSpec.ofChange s) apart w args) (s.post enc C.prog fn apart fresh handsOn again) := by
  refine returnsInHanded_of_calls own started noInit witness fun w tape i _ hsh _ hok hpre hh => ?_
  obtain ⟨_, _, _, g, hg, _, _, _, _, hval⟩ := hok
  cases Option.some.inj (hg.symm.trans hfn)
  obtain ⟨⟨⟨ds, gs, before, hw, hc⟩, hx⟩, hz⟩ := hpre
  refine (walk (w.forCall tape i) w.heap.size i.args ds gs before hval (DataW.Whole.of_heap (by rfl) hw) hc (hz.weights hw) (hX _ _ _ (by rfl) hx) hsh hh).mono ?_
  rintro e W' ⟨v, rfl, hp⟩
  exact ChangeSpec.post_blind hp
end Go.Bus
