/- Texts of this claim, one behind the other. No condition but those that each states. -/
import Derived.Test.YtbbfpbmogklomaaGreatDoorZCodePc
import Derived.Test.YtbbfpbmogklomaaGreatDoorShelf3
import Derived.RegionTactic
import Derived.Deep.RegionWith
import Derived.Deep.RegionHeld3
import Derived.Deep.QuietTactic
import Derived.BigQuiet
import Derived.Test.YtbbfpbmogklomaaGreatDoorRows
import Derived.LaidLaws
import Derived.LaidHandle
import Derived.LaidSub
import Derived.LaidMore
import Derived.Stop.LaidErr
import Derived.Stop.Joined

namespace Go.Proofs.YtbbfpbmogklomaaGreatDoor
open Go.RowKit Go.Bus Go.Bus.cellK Go.Bus.codeK Go.Bus.hexK
set_option linter.unusedVariables false
set_option linter.unusedSimpArgs false
namespace codeW
/-- The library's two errors, as they are laid. -/
structure Errs (w : World) : Prop where
  syn : ∃ tp p, w.var? Tryz.prog "strconv.ErrSyntax" = some #[.iface tp p]
  rng : ∃ tp p, w.var? Tryz.prog "strconv.ErrRange" = some #[.iface tp p]
theorem gSyn : Tryz.prog.globalNamed "strconv.ErrSyntax" = some 3 := by kernel_rfl
theorem gRng : Tryz.prog.globalNamed "strconv.ErrRange" = some 4 := by kernel_rfl
theorem Errs.at_below {w w' : World} (h : Errs w) (hb : Below w.heap.size w w') : Errs w' := by
  obtain ⟨⟨t1, p1, h1⟩, ⟨t2, p2, h2⟩⟩ := h
  refine ⟨⟨t1, p1, var_below h1 hb fun g hg => ?_⟩, ⟨t2, p2, var_below h2 hb fun g hg => ?_⟩⟩
  · rw [gSyn] at hg; obtain rfl := Option.some.inj hg
    exact World.block_lt_of_cell? w ⟨3, 0, none⟩ (World.var?_cell gSyn h1 0)
  · rw [gRng] at hg; obtain rfl := Option.some.inj hg
    exact World.block_lt_of_cell? w ⟨4, 0, none⟩ (World.var?_cell gRng h2 0)
/-- An error: none, or one of the library's number errors. -/
def NumE (en : Bool) (E : Value) : Prop := (en = true → E = .nilIface) ∧ (en = false → ∃ p, E = .iface 191 p)
theorem atoi_gen (S : List UInt8) (hl : S.length ≤ 4194304) : ∃ (v : Int) (en : Bool), (-9223372036854775808 ≤ v ∧ v ≤ 9223372036854775807) ∧ ∀ W, Errs W → Calls Tryz.prog 91 #[.string ⟨S.toArray⟩] W fun e w' => ∃ E, e = .returned (.tuple #[.int .i64 v, E]) ∧ NumE en E ∧ Below W.heap.size W w' := by
  have hsz : (⟨S.toArray⟩ : ByteArray).size = S.length := by show S.toArray.size = _; simp
  have hdl : (⟨S.toArray⟩ : ByteArray).data.toList = S := by simp
  cases h : Lib.atoiAll S with
  | ok v =>
    refine ⟨v, true, Lib.atoiAll_bounds h, fun W _ => (Tryz.strconv_Atoi_ok ⟨S.toArray⟩ (by rw [hsz]; omega) v (by rw [hdl]; exact h) W).mono ?_⟩
    rintro e w' ⟨rfl, hw⟩
    refine ⟨_, rfl, ⟨fun _ => rfl, fun e => by cases e⟩, ?_⟩
    rcases hw with rfl | ⟨t, rfl⟩
    · exact Below.refl _ _
    · exact Lib.bytesWorld_below _ _ _
  | «syntax» =>
    refine ⟨0, false, by omega, fun W hE => ?_⟩
    obtain ⟨tp, p, hv⟩ := hE.syn
    refine (Tryz.strconv_Atoi_syntax_var ⟨S.toArray⟩ (by rw [hsz]; omega) (by rw [hdl]; exact h) tp p W hv).mono ?_
    rintro e w' ⟨N, rfl, _, _, hb⟩
    exact ⟨_, rfl, ⟨(fun e => by cases e), fun _ => ⟨_, rfl⟩⟩, hb⟩
  | range =>
    refine ⟨Lib.atoiSat S, false, Lib.atoiSat_bounds S, fun W hE => ?_⟩
    obtain ⟨tp, p, hv⟩ := hE.rng
    refine (Tryz.strconv_Atoi_range_var ⟨S.toArray⟩ (by rw [hsz]; omega) (by rw [hdl]; exact h) tp p W hv).mono ?_
    rw [hdl]
    rintro e w' ⟨N, rfl, _, _, hb⟩
    exact ⟨_, rfl, ⟨(fun e => by cases e), fun _ => ⟨_, rfl⟩⟩, hb⟩
theorem toError_gen (fn s : ByteArray) (k : Int) (hk : k = 1 ∨ k = 2) (hl : s.size ≤ 4194304) (W : World) (hE : Errs W) : Calls Tryz.prog 120 #[.string fn, .string s, .int .i64 16, .int .i64 64, .iface 188 (.int .i64 k)] W fun e w' => ∃ p, e = .returned (.iface 191 p) ∧ Below W.heap.size W w' := by
  rcases hk with rfl | rfl
  · obtain ⟨tp, p, hv⟩ := hE.rng
    refine (Tryz.strconv_toError_range fn s 16 64 (.iface tp p) W (by omega) (World.var?_cell gRng hv 0) (.inr ⟨tp, p, rfl⟩)).mono ?_
    rintro e w' ⟨N, rfl, _, _, hb⟩
    exact ⟨_, rfl, hb⟩
  · obtain ⟨tp, p, hv⟩ := hE.syn
    refine (Tryz.strconv_toError_syntax fn s 16 64 (.iface tp p) W (by omega) (World.var?_cell gSyn hv 0) (.inr ⟨tp, p, rfl⟩)).mono ?_
    rintro e w' ⟨N, rfl, _, _, hb⟩
    exact ⟨_, rfl, hb⟩
/-- What ParseUint answers: the number and no error, or some number and one. -/
def PuG (S : List UInt8) (w : World) (e : Ending) (w' : World) : Prop := ∃ (n : Int) (en : Bool) (E : Value), e = .returned (.tuple #[.int .u64 n, E]) ∧ NumE en E ∧ (en = true → 0 ≤ n ∧ n < 18446744073709551616) ∧ Below w.heap.size w w'
set_option maxRecDepth 100000 in
set_option maxHeartbeats 1000000 in
theorem ipu16_nil (W : World) : Calls Tryz.prog 123 #[.string ⟨([] : List UInt8).toArray⟩, .int .i64 16, .int .i64 64] W fun e w' => e = .returned (.tuple #[.int .u64 0, .iface 188 (.int .i64 2)]) ∧ Below W.heap.size W w' := by
  go_enter Tryz.func123, Tryz.ntmps123
  go_wp2
  go_ret2
  exact ⟨rfl, (by repeat' (first | (with_reducible assumption) | (with_reducible refine Below.setCell ?_ ?_ _) | (with_reducible refine Below.alloc ?_ ?_ _) | (with_reducible refine Below.drew ?_) | (with_reducible refine below_drewN ?_ _) | (with_reducible exact Below.refl _ _) | (show _ ≤ _; (try simp); (try omega); done) | exact Below.refl _ _ | assumption))⟩
theorem hexRd_lt : ∀ {l : List UInt8} {n v : Nat}, n < 18446744073709551616 → hexRd l n = some v → v < 18446744073709551616
  | [], n, v, hn, h => by simp only [hexRd, Option.some.injEq] at h; omega
  | c :: r, n, v, hn, h => by
    simp only [hexRd] at h
    cases hd : hexdig c with
    | none => rw [hd] at h; cases h
    | some d =>
      rw [hd] at h
      simp only [] at h
      have := hexdig_lt hd
      split at h
      · exact hexRd_lt (by omega) h
      · cases h
theorem ipu_gen (S : List UInt8) (hl : S.length ≤ 4194304) (W : World) : Calls Tryz.prog 123 #[.string ⟨S.toArray⟩, .int .i64 16, .int .i64 64] W fun e w' => ((∃ n : Nat, n < 18446744073709551616 ∧ e = .returned (.tuple #[.int .u64 n, .nilIface])) ∨ ∃ n k : Int, e = .returned (.tuple #[.int .u64 n, .iface 188 (.int .i64 k)]) ∧ (k = 1 ∨ k = 2)) ∧ Below W.heap.size W w' := by
  by_cases hs : S = []
  · subst hs
    exact (ipu16_nil W).mono fun e w' h => ⟨.inr ⟨0, 2, h.1, .inr rfl⟩, h.2⟩
  · refine (hexW.ipu16_any S hs (by omega) W).mono fun e w' h => ?_
    unfold hexW.PuPost at h
    refine ⟨?_, h.2⟩
    cases hx : hexRd S 0 with
    | some v => rw [hx] at h; exact .inl ⟨v, hexRd_lt (by decide) hx, h.1⟩
    | none => rw [hx] at h; exact .inr h.1
set_option maxRecDepth 100000 in
set_option maxHeartbeats 1000000 in
theorem pu_gen (S : List UInt8) (hl : S.length ≤ 4194304) (w : World) (hE : Errs w) : Calls Tryz.prog 100 #[.string ⟨S.toArray⟩, .int .i64 16, .int .i64 64] w (PuG S w) := by
  have HP := Lib.hid (fun (W : World) => ipu_gen S hl W)
  have hsz : (⟨S.toArray⟩ : ByteArray).size = S.length := by show S.toArray.size = _; simp
  have HT := Lib.hid (fun (fn : ByteArray) (k : Int) (hk : k = 1 ∨ k = 2) (W : World) (hb : Below w.heap.size w W) => toError_gen fn ⟨S.toArray⟩ k hk (by rw [hsz]; exact hl) W (hE.at_below hb))
  unfold PuG
  obtain ⟨T, hT⟩ : ∃ T : ByteArray, T = ⟨S.toArray⟩ := ⟨_, rfl⟩
  rw [← hT] at HP HT ⊢
  clear hl hT hsz hE
  go_enter Tryz.func100, Tryz.ntmps100
  go_wp2_with fail
  refine (HP.out _).mono ?_
  rintro e w1 ⟨h, hb⟩
  have HB := Lib.hid hb
  clear hb
  rcases h with ⟨n, hn, rfl⟩ | ⟨n, k, rfl, hk⟩
  · have HN := Lib.hid hn
    clear hn
    go_wp2
    go_ret2
    exact ⟨(n : Nat), true, _, rfl, ⟨fun _ => rfl, fun e => by cases e⟩, fun _ => ⟨by omega, by have := HN.out; omega⟩, HB.out⟩
  · have HK := Lib.hid hk
    clear hk
    go_wp2_with (go_at_call 120; refine (HT.out _ _ HK.out _ HB.out).mono ?_; rintro e w2 ⟨q, rfl, hb2⟩; have HB2 := Lib.hid hb2; clear hb2)
    go_ret2
    exact ⟨n, false, _, rfl, ⟨(fun e => by cases e), fun _ => ⟨_, rfl⟩⟩, (fun e => by cases e), HB.out.trans (HB2.out.mono HB.out.size)⟩
end codeW
end Go.Proofs.YtbbfpbmogklomaaGreatDoor

namespace Go.Proofs.YtbbfpbmogklomaaGreatDoor
open Go.RowKit Go.Bus Go.Bus.cellK Go.Bus.codeK Go.Bus.hexK
set_option linter.unusedVariables false
set_option linter.unusedSimpArgs false
namespace codeW
set_option maxRecDepth 100000 in
set_option maxHeartbeats 1000000 in
theorem paSmallG_w (fn : FuncId) (o : Nat) (s S T T2 : ByteArray) (okb en D : Bool) (b0 b3 g : Nat) (cs : Array Value) (z v : Int) (w : World)
    (hcf : ∀ xs w, (callFunc fn xs).run Tryz.prog w = .ok (.enter fn xs) w)
    (hC : ∀ W, Calls Tryz.prog fn #[.pointer (some ⟨g, 0, none⟩)] W fun e w' => e = .returned (.pointer (some ⟨g, o, none⟩)) ∧ W = w')
    (hCut : ∀ W, Calls Tryz.prog 90 #[.string S, .string s] W fun e w' => e = .returned (.tuple #[.string T, .bool okb]) ∧ W = w')
    (hAt : ∀ W, Below w.heap.size w W → Calls Tryz.prog 91 #[.string T] W fun e w' => ∃ E, e = .returned (.tuple #[.int .i64 v, E]) ∧ NumE en E ∧ Below W.heap.size W w')
    (hIt : ∀ W, Only g w W → Calls Tryz.prog 88 #[.int .i64 v] W fun e w' => e = .returned (.string T2) ∧ Below W.heap.size W w')
    (hnot : ¬ 9223372036854775807 < s.size + T2.size) (heq : ((s ++ T2).toList == S.toList) = D)
    (c0 : w.cell? ⟨b0, 0, none⟩ = some (.func (.func fn) #[] #[])) (c3 : w.cell? ⟨b3, 0, none⟩ = some (.string s)) (z0 : b0 < w.heap.size) (z3 : b3 < w.heap.size) (hn3 : b3 ≠ g)
    (hg : Has w g 25 cs) (ho : cs[o]? = some (.int .i64 z)) :
    Calls Tryz.prog 89 #[ptr g, .string S, ptr b3, ptr b0] w fun e w' => e = .returned (.bool (okb && en && D)) ∧ Only g w w' ∧ Has w' g 25 (cs.setIfInBounds o (.int .i64 v)) := by
  have HC := Lib.hid hC
  have HCut := Lib.hid hCut
  have HAt := Lib.hid hAt
  have HIt := Lib.hid hIt
  have HG := Lib.hid hg
  have HO := Lib.hid ho
  have HN := Lib.hid hn3
  have zg := hg.lt
  clear hC hCut hAt hIt hg ho hn3
  go_enter Tryz.func89, Tryz.ntmps89
  go_wp2_with (first
    | (go_at_call 90; refine (HCut.out _).mono ?_; rintro e w1 ⟨rfl, rfl⟩)
    | (go_at_call 91; refine (HAt.out _ (Below.refl _ _)).mono ?_; rintro e w2 ⟨E, rfl, hNE, hb⟩; have HNE := Lib.hid hNE; clear hNE; have c02 : w2.cell? ⟨b0, 0, none⟩ = some (.func (.func fn) #[] #[]) := (hb.cell (p := ⟨b0, 0, none⟩) z0).trans c0; have c32 : w2.cell? ⟨b3, 0, none⟩ = some (.string s) := (hb.cell (p := ⟨b3, 0, none⟩) z3).trans c3; have hg2 := HG.out.below hb zg; have hz2 : w.heap.size ≤ w2.heap.size := hb.size; have zg2 : g < w2.heap.size := hg2.lt; have z32 : b3 < w2.heap.size := Nat.lt_of_lt_of_le z3 hz2; have co2 : w2.cell? ⟨g, o, none⟩ = some (.int .i64 z) := (hg2.cell o).trans HO.out; have fo2 : w2.frozen? ⟨g, o, none⟩ = false := hg2.frozen o; have HG2 := Lib.hid hg2; have HB2 := Lib.hid hb; clear hb hg2)
    | (refine (HC.out _).mono ?_; rintro e w4 ⟨rfl, rfl⟩))
  obtain ⟨W3, hW3⟩ : ∃ W3, W3 = w2.setCell ⟨g, o, none⟩ (.int .i64 v) := ⟨_, rfl⟩
  rw [← hW3]
  have hO3 : Only g w W3 := by rw [hW3]; exact (Only.of_below HB2.out (Nat.le_of_lt zg)).set o _
  have hG3 : Has W3 g 25 (cs.setIfInBounds o (.int .i64 v)) := by rw [hW3]; exact HG2.out.set o _
  have c33 : W3.cell? ⟨b3, 0, none⟩ = some (.string s) := by rw [hW3, World.cell?_setCell_other _ _ _ _ (fun e => HN.out (by injection e with e1 _ _; exact e1.symm))]; exact c32
  have z33 : b3 < W3.heap.size := Nat.lt_of_lt_of_le z3 hO3.size
  have zg3 : g < W3.heap.size := hG3.lt
  have HO3 := Lib.hid hO3
  have HG3 := Lib.hid hG3
  clear hW3 hO3 hG3 c02 c32 co2 fo2 c0 c3
  cases en with
  | true =>
    obtain rfl := HNE.out.1 rfl
    cases okb with
    | true =>
      go_region_held3 (fun W => W.cell? ⟨b3, 0, none⟩ = some (.string s) ∧ Below W3.heap.size W3 W)
        (first | exact ⟨by go_simp, Below.drew (Below.refl _ _)⟩ | exact ⟨by assumption, by assumption⟩)
        (first | (go_at_call 88; refine (HIt.out _ (HO3.out.trans (Only.of_below (‹_ ∧ Below W3.heap.size W3 _›).2 (Nat.le_of_lt zg3)))).mono ?_; rintro e w5 ⟨rfl, hb⟩; (try go_split_ands); have hB : Below W3.heap.size W3 w5 := Below.trans ‹Below W3.heap.size W3 _› (hb.mono (Below.size ‹Below W3.heap.size W3 _›)); have k3 : w5.cell? ⟨b3, 0, none⟩ = some (.string s) := (hB.cell (p := ⟨b3, 0, none⟩) z33).trans c33))
      all_goals
        go_wp2
        go_ret
        exact ⟨rfl, HO3.out.trans (Only.of_below (by assumption) (Nat.le_of_lt zg3)), HG3.out.below (by assumption) zg3⟩
    | false =>
      go_quiet (fail)
      all_goals
        go_wp2
        go_ret
        exact ⟨rfl, HO3.out.drewN _, HG3.out⟩
  | false =>
    obtain ⟨q, rfl⟩ := HNE.out.2 rfl
    cases okb with
    | true =>
      go_quiet (fail)
      all_goals
        go_wp2
        go_ret
        exact ⟨rfl, HO3.out.drewN _, HG3.out⟩
    | false =>
      go_quiet (fail)
      all_goals
        go_wp2
        go_ret
        exact ⟨rfl, HO3.out.drewN _, HG3.out⟩
/-- The text of a field's number. -/
def ptx : Fk → Int → List UInt8
  | .small _ _ _ s, v => s.data.toList ++ Lib.itoa v
  | .skip, v => Lib.itoa v
  | .bytes, v => Lib.itoa v
  | .number, v => [48, 120] ++ hexs v.toNat
  | .sign, v => if v = 1 then signedT else unsignedT
theorem txt_ptx {f : Fk} (x : Ins) : txtF f x = ptx f (x.at_ f.wh) := by cases f <;> rfl
/-- A number that fits where it stands. -/
def wok (h : Wh) (v : Int) : Prop := match h with
  | .I => 0 ≤ v ∧ v < 18446744073709551616
  | _ => -9223372036854775808 ≤ v ∧ v ≤ 9223372036854775807
/-- What reading a field of any text comes to. -/
def PaG (f : Fk) (S : List UInt8) (w : World) (g : Nat) (y : Ins) (e : Ending) (w' : World) : Prop := ∃ (b : Bool) (v : Int), e = .returned (.bool b) ∧ Only g w w' ∧ Has w' g 25 (insC (y.put f.wh v)).toArray ∧ (b = true → wok f.wh v ∧ S = ptx f v)
theorem paSmallG_any (f : Fk) (h : Wh) (hfw : f.wh = h) (hI : h ≠ .I) (s : ByteArray) (hs : s.size ≤ 1) (hptx : ∀ v, ptx f v = s.data.toList ++ Lib.itoa v) (S : List UInt8) (hl : S.length ≤ 2097152) (b0 b1 b2 b3 g : Nat) (lo hi : Int) (F : Foot) (y : Ins) (w : World) (hT : ∀ W, Only g w W → Tabs W) (hE : Errs w) (hB : Boxes w F h lo hi s b0 b1 b2 b3) (hF : ¬ F g)
    (hg : Has w g 25 (insC y).toArray) :
    Calls Tryz.prog 89 #[ptr g, .string ⟨S.toArray⟩, ptr b3, ptr b0] w (PaG f S w g y) := by
  have hlp : (Lib.trimPrefix S s.data.toList).length ≤ S.length := by
    unfold Lib.trimPrefix
    split
    · rw [List.length_drop]; omega
    · exact Nat.le_refl _
  obtain ⟨v, en, hv, hA⟩ := atoi_gen (Lib.trimPrefix S s.data.toList) (by omega)
  have hln : (Lib.itoa v).length ≤ 20 := itoa_len hv.1 hv.2
  have hts : (⟨(Lib.itoa v).toArray⟩ : ByteArray).size = (Lib.itoa v).length := by show (Lib.itoa v).toArray.size = _; simp
  have hval : ∃ z, (insC y).toArray[whO h]? = some (.int .i64 z) := by
    cases h with
    | A => exact ⟨_, rfl⟩
    | B => exact ⟨_, rfl⟩
    | N => exact ⟨_, rfl⟩
    | I => exact absurd rfl hI
  obtain ⟨z, hz⟩ := hval
  refine (paSmallG_w (whF h) (whO h) s ⟨S.toArray⟩ ⟨(Lib.trimPrefix S s.data.toList).toArray⟩ ⟨(Lib.itoa v).toArray⟩ (Lib.hasPrefix S s.data.toList) en _ b0 b3 g (insC y).toArray z v w (whF_call h) (whF_any h hI g) (fun W => ?_) (fun W hb => hA W (hE.at_below hb)) (fun W hW => itoa_any v hv.1 hv.2 W (hT W hW)) (by rw [hts]; omega) rfl (hB.h0.cell 0) (hB.h3.cell 0) hB.h0.lt hB.h3.lt (fun e => hF (e ▸ hB.f3)) hg hz).mono ?_
  · refine (Tryz.strings_CutPrefix ⟨S.toArray⟩ s W).mono ?_
    rintro e w' ⟨rfl, rfl⟩
    exact ⟨rfl, rfl⟩
  · rintro e w' ⟨rfl, hO, hH⟩
    have e2 : (insC y).toArray.setIfInBounds (whO h) (.int .i64 v) = (insC (y.put h v)).toArray := by
      cases h with
      | A => rfl
      | B => rfl
      | N => rfl
      | I => exact absurd rfl hI
    refine ⟨_, v, rfl, hO, by rw [hfw, ← e2]; exact hH, fun hb => ⟨?_, ?_⟩⟩
    · rw [hfw]
      cases h with
      | A => exact hv
      | B => exact hv
      | N => exact hv
      | I => exact absurd rfl hI
    · rw [hptx]
      simp only [Bool.and_eq_true] at hb
      have h3 := hb.2
      rw [strTxt] at h3
      have h4 : s.data.toList ++ Lib.itoa v = S := by simpa using h3
      exact h4.symm
set_option maxRecDepth 100000 in
set_option maxHeartbeats 1000000 in
theorem paNumG_any (S : List UInt8) (hl : S.length ≤ 2097152) (g : Nat) (y : Ins) (w : World) (hT : ∀ W, Only g w W → Tabs W) (hE : Errs w) (hg : Has w g 25 (insC y).toArray) :
    Calls Tryz.prog 99 #[ptr g, .string ⟨S.toArray⟩] w (PaG .number S w g y) := by
  have hlp : (Lib.trimPrefix S [48, 120]).length ≤ S.length := by
    unfold Lib.trimPrefix
    split
    · rw [List.length_drop]; omega
    · exact Nat.le_refl _
  have HF := Lib.hid (fun (q : Nat) (hq : q < 18446744073709551616) (W : World) (hb : Only g w W) => hexW.fmt16_any q hq W (hT W hb).tz)
  have HC := Lib.hid (fun (W : World) => (Tryz.strings_CutPrefix ⟨S.toArray⟩ ⟨#[48, 120]⟩ W).mono (R' := fun e w' => e = .returned (.tuple #[.string ⟨(Lib.trimPrefix S [48, 120]).toArray⟩, .bool (Lib.hasPrefix S [48, 120])]) ∧ W = w') (fun e w' h => ⟨h.1, h.2.symm⟩))
  have HP := Lib.hid (fun (W : World) (hb : Below w.heap.size w W) => pu_gen (Lib.trimPrefix S [48, 120]) (by omega) W (hE.at_below hb))
  have HD : Hid (∀ q : Nat, (hexs q == (⟨(Lib.trimPrefix S [48, 120]).toArray⟩ : ByteArray).toList) = true → Lib.hasPrefix S [48, 120] = true → S = [48, 120] ++ hexs q) := Lib.hid (fun q h1 h2 => by
    have h3 : hexs q = Lib.trimPrefix S [48, 120] := by simpa using h1
    rw [h3]
    unfold Lib.trimPrefix
    rw [if_pos h2]
    unfold Lib.hasPrefix at h2
    obtain ⟨t, ht⟩ := List.isPrefixOf_iff_prefix.1 h2
    rw [← ht]; simp)
  obtain ⟨T, hT2⟩ : ∃ T : ByteArray, T = ⟨(Lib.trimPrefix S [48, 120]).toArray⟩ := ⟨_, rfl⟩
  obtain ⟨okb, hok⟩ : ∃ okb, okb = Lib.hasPrefix S [48, 120] := ⟨_, rfl⟩
  rw [← hT2, ← hok] at HC
  rw [← hT2] at HP HD
  rw [← hok] at HD
  obtain ⟨SB, hSB⟩ : ∃ SB : ByteArray, SB = ⟨S.toArray⟩ := ⟨_, rfl⟩
  rw [← hSB] at HC ⊢
  have HG := Lib.hid hg
  have zg := hg.lt
  obtain ⟨op, a, b, n0, imm⟩ := y
  unfold insC at HG
  clear hT hg hT2 hl hlp hok hSB hE
  go_enter Tryz.func99, Tryz.ntmps99
  go_wp2_with (go_at_call 90; refine (HC.out _).mono ?_; rintro e w1 ⟨rfl, rfl⟩)
  refine (HP.out _ (Below.refl _ _)).mono ?_
  rintro e w2 ⟨n, en, E, rfl, hNE, hr, hb⟩
  have hg2 := HG.out.below hb zg
  have zg2 : g < w2.heap.size := hg2.lt
  have co2 : w2.cell? ⟨g, 4, none⟩ = some (.int .u64 imm) := hg2.cell 4
  have fo2 : w2.frozen? ⟨g, 4, none⟩ = false := hg2.frozen 4
  have HG2 := Lib.hid hg2
  have HB2 := Lib.hid hb
  have HNE := Lib.hid hNE
  have HR := Lib.hid hr
  clear hb hg2 hNE hr
  have hO3 := Lib.hid ((Only.of_below HB2.out (Nat.le_of_lt zg)).set 4 (.int .u64 n))
  have hG3 := Lib.hid (HG2.out.set 4 (.int .u64 n))
  cases okb with
  | true =>
    cases en with
    | true =>
      obtain rfl := HNE.out.1 rfl
      obtain ⟨q, rfl⟩ : ∃ q : Nat, n = (q : Int) := ⟨n.toNat, by have := HR.out rfl; omega⟩
      have hq : q < 18446744073709551616 := by have := HR.out rfl; omega
      have HQ := Lib.hid hq
      clear hq
      obtain ⟨D, hD⟩ : ∃ D, (hexs q == T.toList) = D := ⟨_, rfl⟩
      go_wp2_with (go_at_call 98; refine (HF.out q HQ.out _ (by exact hO3.out)).mono ?_; rintro e w5 ⟨rfl, hb⟩; have HB5 := Lib.hid hb; clear hb)
      go_ret
      exact ⟨D, (q : Nat), rfl, hO3.out.trans (Only.of_below HB5.out (Nat.le_of_lt hG3.out.lt)), hG3.out.below HB5.out hG3.out.lt, fun h => ⟨⟨by omega, by have := HQ.out; omega⟩, HD.out q (hD.trans h) (by simp)⟩⟩
    | false =>
      obtain ⟨p, rfl⟩ := HNE.out.2 rfl
      go_wp2
      go_ret
      exact ⟨false, n, rfl, hO3.out, hG3.out, fun h => by cases h⟩
  | false =>
    go_wp2
    go_ret
    exact ⟨false, n, rfl, hO3.out, hG3.out, fun h => by cases h⟩
set_option maxRecDepth 100000 in
set_option maxHeartbeats 1000000 in
theorem paSignG_any (S : List UInt8) (g : Nat) (y : Ins) (w : World) (hy : y.imm = 0) (hg : Has w g 25 (insC y).toArray) :
    Calls Tryz.prog 127 #[ptr g, .string ⟨S.toArray⟩] w (PaG .sign S w g y) := by
  have HG := Lib.hid hg
  have zg := hg.lt
  have co2 : w.cell? ⟨g, 4, none⟩ = some (.int .u64 y.imm) := hg.cell 4
  have fo2 : w.frozen? ⟨g, 4, none⟩ = false := hg.frozen 4
  clear hg
  obtain ⟨op, a, b, n, imm⟩ := y
  obtain rfl : imm = 0 := hy
  have hO0 := Lib.hid (Only.refl (Nat.le_of_lt zg) : Only g w w)
  obtain ⟨SB, hSB⟩ : ∃ SB : ByteArray, SB = ⟨S.toArray⟩ := ⟨_, rfl⟩
  rw [← hSB]
  by_cases h1 : S = signedT
  · have d1 : (SB.toList == [115, 105, 103, 110, 101, 100]) = true := by rw [hSB, h1]; simp [signedT]
    have H1 := Lib.hid h1
    clear hSB h1
    go_enter Tryz.func127, Tryz.ntmps127
    go_wp2
    go_ret
    exact ⟨true, 1, rfl, hO0.out.set 4 _, HG.out.set 4 _, fun _ => ⟨⟨by decide, by decide⟩, H1.out⟩⟩
  · have d1 : (SB.toList == [115, 105, 103, 110, 101, 100]) = false := by
      rw [hSB]
      have : ¬ S = [115, 105, 103, 110, 101, 100] := h1
      simpa using this
    obtain ⟨D, hD⟩ : ∃ D, (SB.toList == [117, 110, 115, 105, 103, 110, 101, 100]) = D := ⟨_, rfl⟩
    have H2 : Hid (D = true → S = unsignedT) := Lib.hid (fun h => by
      rw [← hD, hSB] at h
      have h2 : S = [117, 110, 115, 105, 103, 110, 101, 100] := by simpa using h
      exact h2)
    clear hSB h1
    go_enter Tryz.func127, Tryz.ntmps127
    go_wp2
    go_ret
    exact ⟨D, 0, rfl, hO0.out, HG.out, fun h => ⟨⟨by decide, by decide⟩, H2.out h⟩⟩
theorem pag_does {f : Fk} {cs : List Value} {F : Foot} {S : List UInt8} {y : Ins} {w : World} {g : Nat} (hE : FieldE w F cs f) (hf : f.ok) (hl : S.length ≤ 2097152) (hF : ¬ F g) (hT : ∀ W, Only g w W → Tabs W) (hR : Errs w) (hy : f = .sign → y.imm = 0) (hg : Has w g 25 (insC y).toArray) :
    ∃ c0 c1 c2 c3 c4, cs = [c0, c1, c2, c3, c4] ∧ Does Tryz.prog c4 #[ptr g, .string ⟨S.toArray⟩] w (PaG f S w g y) := by
  obtain ⟨b0, b1, b2, b3, rfl, hB⟩ := hE
  refine ⟨_, _, _, _, _, rfl, ?_⟩
  cases f with
  | small h lo hi s =>
    obtain ⟨hI, hlo, hhi, hs⟩ := hf
    exact callFunc_of _ (fun _ _ => by kernel_rfl) _ _ _ _ (paSmallG_any (.small h lo hi s) h rfl hI s hs (fun _ => rfl) S hl b0 b1 b2 b3 g lo hi F y w hT hR (hB _ _ _ _ rfl) hF hg)
  | skip => exact callFunc_of _ (fun _ _ => by kernel_rfl) _ _ _ _ (paSmallG_any .skip .N rfl (by decide) eS (by decide) (fun _ => rfl) S hl b0 b1 b2 b3 g 0 16384 F y w hT hR (hB _ _ _ _ rfl) hF hg)
  | bytes => exact callFunc_of _ (fun _ _ => by kernel_rfl) _ _ _ _ (paSmallG_any .bytes .N rfl (by decide) eS (by decide) (fun _ => rfl) S hl b0 b1 b2 b3 g 1 8 F y w hT hR (hB _ _ _ _ rfl) hF hg)
  | number => exact callFunc_of _ (fun _ _ => by kernel_rfl) _ _ _ _ (paNumG_any S hl g y w hT hR hg)
  | sign => exact callFunc_of _ (fun _ _ => by kernel_rfl) _ _ _ _ (paSignG_any S g y w (hy rfl) hg)
theorem pag_do {f : Fk} {c0 c1 c2 c3 c4 : Value} {F : Foot} {S : List UInt8} {y : Ins} {w : World} {g : Nat} (hE : FieldE w F [c0, c1, c2, c3, c4] f) (hf : f.ok) (hl : S.length ≤ 2097152) (hF : ¬ F g) (hT : ∀ W, Only g w W → Tabs W) (hR : Errs w) (hy : f = .sign → y.imm = 0) (hg : Has w g 25 (insC y).toArray) :
    Do c4 #[ptr g, .string ⟨S.toArray⟩] w (PaG f S w g y) := by
  obtain ⟨d0, d1, d2, d3, d4, hcs, hD⟩ := pag_does hE hf hl hF hT hR hy hg
  cases hcs
  obtain ⟨b0, b1, b2, b3, hc, _⟩ := hE
  obtain ⟨fn, cap, h⟩ := cPa_clos f b3 b0
  have hc4 : c4 = cPa f b3 b0 := by injection hc with _ hc; injection hc with _ hc; injection hc with _ hc; injection hc with _ hc; injection hc
  exact do_of (hc4.trans h) hD
end codeW
end Go.Proofs.YtbbfpbmogklomaaGreatDoor

namespace Go.Proofs.YtbbfpbmogklomaaGreatDoor
open Go.RowKit Go.Bus Go.Extern.Stop Go.Stop Go.Extern
set_option linter.unusedVariables false
namespace laidE
theorem star : "*" ++ "errors.errorString" = "*errors.errorString" := by decide
theorem rowES (u : TypeId) (h : Tryz.prog.typeName? 3 u = some "*errors.errorString") : u = 216 :=
  typeName_ptr_named (nm := "errors.errorString") (by rw [star]; kernel_rfl) (by kernel_rfl) (by decide) u (by rw [star]; exact h)
theorem errs_of_laid {l : List (String × DataW Unit)} {W : World} (h : laidMetH Tryz.prog l W) (hl : l.filter (fun x => x.1 == "strconv.ErrRange") = [("strconv.ErrRange", Rows.laid_strconv_ErrRange)]) (hl2 : l.filter (fun x => x.1 == "strconv.ErrSyntax") = [("strconv.ErrSyntax", Rows.laid_strconv_ErrSyntax)]) : codeW.Errs W := by
  have h1 := h.filter (fun x => x.1 == "strconv.ErrRange")
  rw [hl] at h1
  have h' : laidMet Tryz.prog [("strconv.ErrRange", Rows.laid_strconv_ErrRange)] W := h1
  have h2 := h.filter (fun x => x.1 == "strconv.ErrSyntax")
  rw [hl2] at h2
  have h2' : laidMet Tryz.prog [("strconv.ErrSyntax", Rows.laid_strconv_ErrSyntax)] W := h2
  obtain ⟨a0, s0, hv0, -, -, -⟩ := laid_sentinel h' codeW.gRng (ti := 30) (by kernel_rfl) Tryz.underlying30 rowES Tryz.underlying216 Tryz.underlying218 rfl rfl Tryz.underlying9 (by kernel_rfl) (by kernel_rfl)
  obtain ⟨a1, s1, hv1, -, -, -⟩ := laid_sentinel h2' codeW.gSyn (ti := 30) (by kernel_rfl) Tryz.underlying30 rowES Tryz.underlying216 Tryz.underlying218 rfl rfl Tryz.underlying9 (by kernel_rfl) (by kernel_rfl)
  exact ⟨⟨_, _, hv1⟩, ⟨_, _, hv0⟩⟩
end laidE
end Go.Proofs.YtbbfpbmogklomaaGreatDoor
