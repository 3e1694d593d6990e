/- code.Print of a right instruction: its line. Condition: the library's three tables are laid. -/
import Derived.Test.YtbbfpbmogklomaaGreatDoorZKs
import Derived.Test.YtbbfpbmogklomaaGreatDoorZKl
import Derived.Test.YtbbfpbmogklomaaGreatDoorZKm
import Derived.Deep.RegionWith
import Derived.RegionTactic
namespace Go.Proofs.YtbbfpbmogklomaaGreatDoor
open Go.RowKit Go.Bus Go.Bus.cellK Go.Bus.codeK Go.Bus.hexK
set_option linter.unusedVariables false
set_option linter.unusedSimpArgs false
namespace codeW
/-- The table of blanks, as it is laid. -/
def Sp (w : World) : Prop := Lib.TabIs Tryz.prog w "strings.asciiSpace" .u8 Lib.asciiSpaceTab
theorem gSp : Tryz.prog.globalNamed "strings.asciiSpace" = some 0 := by kernel_rfl
theorem Sp.at_below {w w' : World} (h : Sp w) (hb : Below w.heap.size w w') : Sp w' :=
  var_below h hb (fun g hg => by rw [gSp] at hg; obtain rfl := Option.some.inj hg; exact World.block_lt_of_cell? w ⟨0, 0, none⟩ (Lib.TabIs.cell h gSp 0 (by rw [Lib.asciiSpaceTab_length]; omega)))
theorem strConsP (c : UInt8) (t : List UInt8) : (⟨#[c]⟩ : ByteArray) ++ ⟨t.toArray⟩ = ⟨(c :: t).toArray⟩ := by
  apply ByteArray.ext
  simp
theorem fields_any (w : World) (h : Sp w) : Calls Tryz.prog 28 #[.string namesB] w fun e w' => e = .returned (.slice (some ⟨w.heap.size, 0, none⟩) 20 20) ∧ (∀ k, k < 20 → w'.cell? ⟨w.heap.size, k, none⟩ = some (.string ⟨(nameN k).toArray⟩)) ∧ w.heap.size < w'.heap.size ∧ Below w.heap.size w w' := by
  refine (Tryz.strings_Fields_laid namesB w (by decide) names_ascii h).mono ?_
  rintro e w' ⟨rfl, rfl⟩
  have hl : (Lib.fields namesB.data.toList).length = 20 := by rw [fields_names]; simp
  rw [hl]
  refine ⟨rfl, fun k hk => ?_, by simp, (Below.refl _ _).alloc (Nat.le_refl _) _⟩
  rw [(Has.new w _ _).cell k, fields_names]
  simp [hk]
set_option maxRecDepth 100000 in
set_option maxHeartbeats 4000000 in
theorem print_good {x : Ins} (w : World) (hx : x.Ok) (hr : rightB x = true) (hT : Tabs w) (hS : Sp w) : Calls Tryz.prog 9 #[.agg (insC x).toArray] w fun e w' => e = .returned (.tuple #[.string ⟨(lineI x).toArray⟩, .nilIface]) ∧ Below w.heap.size w w' := by
  have HRT := Lib.hid (fun (W : World) (mv : Value) (hM : MadeE W (Old W.heap.size) mv) => (right_any W hM hx).mono (R' := fun e w' => e = .returned (.bool true) ∧ Below W.heap.size W w') (fun e w' h => ⟨h.1.trans (by rw [hr]), h.2⟩))
  obtain ⟨fs, hfs, hok, _⟩ := right_some hr
  have HFS := Lib.hid hfs
  have HT := Lib.hid hT
  have HS := Lib.hid hS
  have HX := Lib.hid hx
  have hfl := fields_len hfs
  have HFO := Lib.hid (fields_ok hfs)
  obtain ⟨T, hTL⟩ : ∃ T, T = lineI x := ⟨_, rfl⟩
  rw [← hTL]
  obtain ⟨k, hk, hk20, _⟩ := fields_cases hfs
  have HTL : Hid (T = nameN k ++ lineF fs x) := Lib.hid (by rw [hTL]; unfold lineI; rw [hfs, hk]; rfl)
  have hnl : (nameN k).length ≤ 8 := by
    have key : ∀ k : Fin 20, (nameN k.val).length ≤ 8 := by decide
    exact key ⟨k, hk20⟩
  have HLN : Hid (∀ j, (lineF (fs.take j) x).length ≤ 31 * 4) := Lib.hid (fun j => by
    have key : ∀ gs : List Fk, (∀ g ∈ gs, g.ok) → (lineF gs x).length ≤ 31 * gs.length := by
      intro gs
      induction gs with
      | nil => intro _; simp [lineF]
      | cons g gs ih =>
        intro hg
        have h1 := txt_len (hg g (List.mem_cons_self ..)) hx
        have h2 := ih (fun f hf => hg f (List.mem_cons_of_mem _ hf))
        unfold lineF at h2 ⊢
        rw [List.flatMap_cons, List.length_append, List.length_cons, List.length_cons]
        omega
    have h1 := key (fs.take j) (fun g hg => fields_ok hfs g (List.mem_of_mem_take hg))
    have h2 : (fs.take j).length ≤ 4 := by rw [List.length_take]; omega
    omega)
  obtain ⟨op, a, b, n, imm⟩ := x
  obtain rfl : op = (k : Int) := hk
  clear hx hr hfs hok hT hS hTL
  show Calls Tryz.prog 9 #[.agg #[.int .i64 (k : Int), .int .i64 a, .int .i64 b, .int .i64 n, .int .u64 imm]] w _
  go_enter Tryz.func9, Tryz.ntmps9
  go_wp2_with (first
    | (go_at_call 25; refine (made_any _).mono ?_; rintro e w1 ⟨mv, rfl, hM, hB⟩; have HM := Lib.hid (hM.keep (F' := Old w1.heap.size) (fun b hb => hb.2) (fun _ _ => rfl)); have HJ : Hid (Has w1 w.heap.size 25 #[.int .i64 (k : Int), .int .i64 a, .int .i64 b, .int .i64 n, .int .u64 imm]) := Lib.hid ((Has.new w _ _).below hB (by simp)); have x0 : w1.cell? ⟨w.heap.size, 0, none⟩ = some (.int .i64 (k : Int)) := HJ.out.cell 0; have x1 : w1.cell? ⟨w.heap.size, 1, none⟩ = some (.int .i64 a) := HJ.out.cell 1; have x2 : w1.cell? ⟨w.heap.size, 2, none⟩ = some (.int .i64 b) := HJ.out.cell 2; have x3 : w1.cell? ⟨w.heap.size, 3, none⟩ = some (.int .i64 n) := HJ.out.cell 3; have x4 : w1.cell? ⟨w.heap.size, 4, none⟩ = some (.int .u64 imm) := HJ.out.cell 4; have zj : w.heap.size < w1.heap.size := HJ.out.lt; have HB : Hid (Below w.heap.size w w1) := Lib.hid (((Below.refl _ _).alloc (Nat.le_refl _) _).trans (hB.mono (by simp))); clear hM hB)
    | (go_at_call 26; refine (HRT.out _ _ HM.out).mono ?_; rintro e w2 ⟨rfl, hB2⟩; have HJ2 := Lib.hid (HJ.out.below hB2 HJ.out.lt); have y0 : w2.cell? ⟨w.heap.size, 0, none⟩ = some (.int .i64 (k : Int)) := HJ2.out.cell 0; have zj2 : w.heap.size < w2.heap.size := HJ2.out.lt; have HM2 := Lib.hid (HM.out.old hB2); have HB2 := Lib.hid (HB.out.trans (hB2.mono (Nat.le_of_lt zj))); clear hB2)
    | (go_at_call 27; refine (of_yes _ HM2.out HFS.out).mono ?_; rintro e w4 ⟨v4, rfl, hS4, hB4, hO4⟩; obtain ⟨A4, cap4, rfl, hc4, hm4⟩ := hS4.form; have HJ4 := Lib.hid (HJ2.out.below hB4 HJ2.out.lt); have zj4 : w.heap.size < w4.heap.size := HJ4.out.lt; have HS4 := Lib.hid hS4; have HB4 := Lib.hid (HB2.out.trans (hB4.mono (Nat.le_of_lt zj2))); clear hS4 hB4 hO4 hm4))
  have hk20i : (k : Int) < 20 := by omega
  have y4 : w4.cell? ⟨w.heap.size, 0, none⟩ = some (.int .i64 (k : Int)) := HJ4.out.cell 0
  go_region_law (go_simp; go_at_call 28; refine (fields_any _ (HS.out.at_below (by have hB := HB4.out; exact (by repeat' (first | (with_reducible assumption) | (with_reducible refine Below.setCell ?_ ?_ _) | (with_reducible refine Below.alloc ?_ ?_ _) | (with_reducible refine Below.drew ?_) | (with_reducible refine below_drewN ?_ _) | (with_reducible exact Below.refl _ _) | (show _ ≤ _; (try simp); (try omega); done) | exact Below.refl _ _ | assumption))))).mono ?_; rintro e w5 ⟨rfl, hcl, hz5, hb5⟩; have hB5 : Below w4.heap.size w4 w5 := Below.trans (by repeat' (first | (with_reducible assumption) | (with_reducible refine Below.setCell ?_ ?_ _) | (with_reducible refine Below.alloc ?_ ?_ _) | (with_reducible refine Below.drew ?_) | (with_reducible refine below_drewN ?_ _) | (with_reducible exact Below.refl _ _) | (show _ ≤ _; (try simp); (try omega); done) | exact Below.refl _ _ | assumption)) (hb5.mono (by (try simp); (try omega))); have y5 : w5.cell? ⟨w.heap.size, 0, none⟩ = some (.int .i64 (k : Int)) := (HJ4.out.below hB5 zj4).cell 0; have zj5 : w.heap.size < w5.heap.size := Nat.lt_of_lt_of_le zj4 hB5.size; have n5 : w5.cell? ⟨w4.heap.size, k, none⟩ = some (.string ⟨(nameN k).toArray⟩) := hcl k hk20; have zn5 : w4.heap.size < w5.heap.size := hz5; have HB5 := Lib.hid hB5; clear hcl hb5 hB5 hz5)
  all_goals
    go_wp2_with fail
    go_loopw [7, 30] (fun sv i wr => ∃ j : Nat, j ≤ fs.length ∧ i = .int .i64 (j : Nat) ∧ sv = .string ⟨(nameN k ++ lineF (fs.take j) ⟨(k : Int), a, b, n, imm⟩).toArray⟩ ∧ Hid (Below w4.heap.size w4 wr)) (fun _ i _ => fs.length - (intOf i).toNat)
  all_goals first
    | exact ⟨0, Nat.zero_le _, rfl, by simp [lineF], HB5⟩
    | skip
  all_goals
    obtain ⟨j, hj, rfl, rfl, HBr⟩ := hrel
    have HJr := Lib.hid (HJ4.out.below HBr.out zj4)
    have HSr := Lib.hid (HS4.out.below FieldE_mono HBr.out)
    have zjr : w.heap.size < wr.heap.size := HJr.out.lt
    have hzr := HBr.out.size
    have HBw := Lib.hid (HB4.out.trans (HBr.out.mono (Nat.le_of_lt zj4)))
    have HTr := Lib.hid (HT.out.at_below HBw.out)
    have hPl : (nameN k ++ lineF (fs.take j) ⟨(k : Int), a, b, n, imm⟩).length ≤ 132 := by
      have h2 := HLN.out j
      rw [List.length_append]; omega
    clear y4 y5 n5 HB5
    by_cases hlt : j < fs.length
    · obtain ⟨fb, foff, c0, c1, c2, c3, c4, rfl, hbG, hE, g0, g1, g2, g3, g4⟩ := slk_get HSr.out hlt
      obtain ⟨f, hfk⟩ : ∃ f, f = fs[j] := ⟨_, rfl⟩
      rw [← hfk] at hE
      have hfok : f.ok := HFO.out f (by rw [hfk]; exact List.getElem_mem hlt)
      have HLT : Hid (nameN k ++ lineF (fs.take (j + 1)) ⟨(k : Int), a, b, n, imm⟩ = (nameN k ++ lineF (fs.take j) ⟨(k : Int), a, b, n, imm⟩) ++ (32 :: txtF f ⟨(k : Int), a, b, n, imm⟩)) := Lib.hid (by rw [lineF_take fs _ hlt, ← hfk, List.append_assoc])
      have hQl := txt_len hfok HX.out
      obtain ⟨fn0, cap0, fn1, cap1, fn2, cap2, fn3, cap3, fn4, cap4', rfl, rfl, rfl, rfl, rfl, hcf3, hcf4⟩ := tx_shape hE
      have zb : fb < wr.heap.size := Nat.lt_of_lt_of_le hbG hzr
      have hbl : Below w4.heap.size wr (wr.alloc (.cells #[.func (.func fn0) #[] cap0, .func (.func fn1) #[] cap1, .func (.func fn2) #[] cap2, .func (.func fn3) #[] cap3, .func (.func fn4) #[] cap4'] 60)) := (Below.refl _ _).alloc hzr _
      have HC3 := Lib.hid (Do.calls (tx_do (x := ⟨(k : Int), a, b, n, imm⟩) (hE.below hbl) hfok HX.out (HTr.out.at_below ((Below.refl _ _).alloc (Nat.le_refl _) _))))
      have j0 : wr.cell? ⟨w.heap.size, 0, none⟩ = some (.int .i64 (k : Int)) := HJr.out.cell 0
      have j1 : wr.cell? ⟨w.heap.size, 1, none⟩ = some (.int .i64 a) := HJr.out.cell 1
      have j2 : wr.cell? ⟨w.heap.size, 2, none⟩ = some (.int .i64 b) := HJr.out.cell 2
      have j3 : wr.cell? ⟨w.heap.size, 3, none⟩ = some (.int .i64 n) := HJr.out.cell 3
      have j4 : wr.cell? ⟨w.heap.size, 4, none⟩ = some (.int .u64 imm) := HJr.out.cell 4
      unfold Txt insC at HC3
      clear hE hfk hfok hbl hbG
      generalize nameN k ++ lineF (fs.take j) ⟨(k : Int), a, b, n, imm⟩ = P at *
      generalize txtF f ⟨(k : Int), a, b, n, imm⟩ = Q at *
      have hn1 : ¬ 9223372036854775807 < 1 + Q.length := by omega
      have hn2 : ¬ 9223372036854775807 < P.length + (1 + Q.length) := by omega
      go_wp2_with (refine HC3.out.mono ?_; rintro e w6 ⟨rfl, hB6⟩; have hb6 : Below w4.heap.size wr w6 := Below.trans ((Below.refl _ _).alloc hzr _) (hB6.mono (by simp; omega)); have HB6 := Lib.hid (HBr.out.trans hb6); clear hB6 hb6)
      go_roundw
      case rel => exact ⟨j + 1, by omega, by go_num, by rw [HLT.out, ← strAppT, ← strConsP]; rfl, HB6⟩
      case measure => simp [intOf]; omega
    · obtain rfl : j = fs.length := by omega
      have hft : fs.take fs.length = fs := List.take_of_length_le (Nat.le_refl _)
      go_wp2
      go_ret2
      rw [hft, ← HTL.out]
      exact ⟨rfl, HBw.out⟩
end codeW
end Go.Proofs.YtbbfpbmogklomaaGreatDoor
