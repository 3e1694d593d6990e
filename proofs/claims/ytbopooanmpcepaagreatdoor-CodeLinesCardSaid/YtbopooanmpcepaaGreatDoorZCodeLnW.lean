/- CodeLines' walk: of every instruction. Conditions: the library's tables are laid, one variable of the library's holds some int. -/
import Derived.Test.YtbopooanmpcepaaGreatDoorZCodePa
import Derived.Test.YtbopooanmpcepaaGreatDoorCodePt
import Derived.Test.YtbopooanmpcepaaGreatDoorCodeWs
import Derived.Deep.RegionWith
import Derived.Deep.RegionHeld3
namespace Go.Proofs.YtbopooanmpcepaaGreatDoor
open Go.RowKit Go.Bus Go.Bus.cellK Go.Bus.codeK Go.Bus.hexK
set_option linter.unusedVariables false
set_option linter.unusedSimpArgs false
namespace codeW
theorem one_ins {W : World} {b : Nat} {x : Ins} (h : Has W b 24 (insC x).toArray) : SlK 5 insE W (Old W.heap.size) (.slice (some ⟨b, 0, none⟩) 1 1) [x] :=
  SlK.whole (l := [x]) (cs := insC x) h rfl h.lt (by simp [maxLen]) fun i y hi => by
    match i, hi with
    | 0, hi => cases hi; rfl
    | n + 1, hi => simp at hi
theorem enc_one_good {W : World} {b : Nat} {x : Ins} (hx : x.Ok) (hr : rightB x = true) (h : Has W b 24 (insC x).toArray) : Calls Tryz.prog 12 #[.slice (some ⟨b, 0, none⟩) 1 1] W fun e w' => ∃ u, e = .returned (.tuple #[u, .nilIface]) ∧ Below W.heap.size W w' := by
  refine (encode_any W (one_ins h) (fun y hy => by simp at hy; subst hy; exact hx) (by simp)).mono fun e w' he => ?_
  obtain ⟨u, rfl, _, hB⟩ := he.yes (bad_none (fun y hy => by simp at hy; subst hy; exact hr))
  exact ⟨u, rfl, hB⟩
theorem enc_one_bad {W : World} {b : Nat} {x : Ins} (hx : x.Ok) (hr : rightB x = false) (h : Has W b 24 (insC x).toArray) : Calls Tryz.prog 12 #[.slice (some ⟨b, 0, none⟩) 1 1] W fun e w' => e = .returned (.tuple #[.slice none 0 0, faultV 20 0]) ∧ Below W.heap.size W w' := by
  refine (encode_any W (one_ins h) (fun y hy => by simp at hy; subst hy; exact hx) (by simp)).mono fun e w' he => ?_
  have hb : firstBad [x] = some 0 := bad_at (p := [x]) (k := 0) (by simp) (fun y hy => by simp at hy) (by simpa using hr)
  unfold EncPost at he
  rw [hb] at he
  exact he
theorem line_len {x : Ins} (hx : x.Ok) (hr : rightB x = true) : (lineI x).length ≤ 132 := by
  obtain ⟨fs, hfs, hok, _⟩ := right_some hr
  have hfl := fields_len hfs
  obtain ⟨k, hk, hk20, _⟩ := fields_cases hfs
  have hnl : (nameN k).length ≤ 8 := by
    have key : ∀ k : Fin 20, (nameN k.val).length ≤ 8 := by decide
    exact key ⟨k, hk20⟩
  have key : ∀ gs : List Fk, (∀ g ∈ gs, g.ok) → (lineF gs x).length ≤ 31 * gs.length := by
    intro gs
    induction gs with
    | nil => intro _; simp [lineF]
    | cons g gs ih =>
      intro hg
      have h1 := txt_len (hg g (List.mem_cons_self ..)) hx
      have h2 := ih (fun f hf => hg f (List.mem_cons_of_mem _ hf))
      unfold lineF at h2 ⊢
      rw [List.flatMap_cons, List.length_append, List.length_cons, List.length_cons]
      omega
  have h1 := key fs (fields_ok hfs)
  have h2 : lineI x = nameN k ++ lineF fs x := by unfold lineI; rw [hfs, hk]; rfl
  rw [h2, List.length_append]; omega
set_option maxRecDepth 100000 in
set_option maxHeartbeats 1000000 in
theorem lines_w {x : Ins} (w : World) (S : ByteArray)
    (hD : ∀ W, Below w.heap.size w W → Calls Tryz.prog 7 #[.agg (insC x).toArray] W fun e w' => e = .returned (.tuple #[.string S, .nilIface]) ∧ Below W.heap.size W w')
    (hE : ∀ W b, Has W b 24 (insC x).toArray → Calls Tryz.prog 12 #[.slice (some ⟨b, 0, none⟩) 1 1] W fun e w' => ∃ u, e = .returned (.tuple #[u, .nilIface]) ∧ Below W.heap.size W w')
    (hP : ∀ W, Below w.heap.size w W → Calls Tryz.prog 10 #[.string S] W fun e w' => e = .returned (.tuple #[.agg (insC x).toArray, .nilIface]) ∧ Below W.heap.size W w') :
    Calls Tryz.prog 5 #[.agg (insC x).toArray] w fun e w' => e = .returned (.bool true) ∧ Below w.heap.size w w' := by
  have HD := Lib.hid hD
  have HE := Lib.hid hE
  have HP := Lib.hid hP
  clear hD hE hP
  have HQ : ∀ W, (binOp .eql 24 (.agg (insC x).toArray) (.agg (insC x).toArray)).run Tryz.prog W = .ok (.bool true) W := fun W => by rw [eql_ins, decide_eq_true rfl]
  obtain ⟨op, a, b, n, imm⟩ := x
  unfold insC at HD HE HP HQ ⊢
  have HJ0 := Lib.hid (Has.new w 24 #[.int .i64 op, .int .i64 a, .int .i64 b, .int .i64 n, .int .u64 imm])
  go_enter Tryz.func5, Tryz.ntmps5
  go_wp2_with (first
    | (go_at_call 7; refine (HD.out _ ((Below.refl _ _).alloc (Nat.le_refl _) _)).mono ?_; rintro e w1 ⟨rfl, hb⟩; have hj := HJ0.out.below hb HJ0.out.lt; have w10 : w1.cell? ⟨w.heap.size, 0, none⟩ = some (.int .i64 op) := hj.cell 0; have w11 : w1.cell? ⟨w.heap.size, 1, none⟩ = some (.int .i64 a) := hj.cell 1; have w12 : w1.cell? ⟨w.heap.size, 2, none⟩ = some (.int .i64 b) := hj.cell 2; have w13 : w1.cell? ⟨w.heap.size, 3, none⟩ = some (.int .i64 n) := hj.cell 3; have w14 : w1.cell? ⟨w.heap.size, 4, none⟩ = some (.int .u64 imm) := hj.cell 4; have z1 : w.heap.size < w1.heap.size := hj.lt; have HJ := Lib.hid hj; have HB : Hid (Below w.heap.size w w1) := Lib.hid (((Below.refl _ _).alloc (Nat.le_refl _) _).trans (hb.mono (by simp))); clear hb hj)
    | (go_at_call 12; refine (HE.out _ _ (by exact Has.new w1 _ _)).mono ?_; rintro e w2 ⟨u, rfl, hb⟩; have hB2 : Below w1.heap.size w1 w2 := Below.trans ((Below.refl _ _).alloc (Nat.le_refl _) _) (hb.mono (by simp)); have HJ2 := Lib.hid (HJ.out.below hB2 z1); have HB2 := Lib.hid (HB.out.trans (hB2.mono HB.out.size)); clear hb hB2))
  go_region_held3 (fun W => Below w2.heap.size w2 W)
    (first | exact Below.drew (Below.refl _ _) | assumption)
    (first | (go_at_call 13; refine (works_any _).mono ?_; rintro e w3 ⟨rfl, hb⟩; have hB3 : Below w2.heap.size w2 w3 := Below.trans ‹Below w2.heap.size w2 _› (hb.mono (Below.size ‹Below w2.heap.size w2 _›))))
  have HJ3 := Lib.hid (HJ2.out.below hB3 HJ2.out.lt)
  have HB3 := Lib.hid (HB2.out.trans (hB3.mono HB2.out.size))
  clear hB3
  all_goals
    have v0 : w3.cell? ⟨w.heap.size, 0, none⟩ = some (.int .i64 op) := HJ3.out.cell 0
    go_wp2_with (first
      | (go_at_call 10; refine (HP.out _ HB3.out).mono ?_; rintro e w4 ⟨rfl, hb⟩; have hj := HJ3.out.below hb HJ3.out.lt; have w40 : w4.cell? ⟨w.heap.size, 0, none⟩ = some (.int .i64 op) := hj.cell 0; have w41 : w4.cell? ⟨w.heap.size, 1, none⟩ = some (.int .i64 a) := hj.cell 1; have w42 : w4.cell? ⟨w.heap.size, 2, none⟩ = some (.int .i64 b) := hj.cell 2; have w43 : w4.cell? ⟨w.heap.size, 3, none⟩ = some (.int .i64 n) := hj.cell 3; have w44 : w4.cell? ⟨w.heap.size, 4, none⟩ = some (.int .u64 imm) := hj.cell 4; have z4 : w.heap.size < w4.heap.size := hj.lt; have HB4 := Lib.hid (HB3.out.trans (hb.mono HB3.out.size)); clear hb hj)
      | simp only [HQ])
    go_ret
    exact ⟨rfl, by have := HB4.out; exact (by repeat' (first | (with_reducible assumption) | (with_reducible refine Below.setCell ?_ ?_ _) | (with_reducible refine Below.alloc ?_ ?_ _) | (with_reducible refine Below.drew ?_) | (with_reducible refine below_drewN ?_ _) | (with_reducible exact Below.refl _ _) | (show _ ≤ _; (try simp); (try omega); done) | exact Below.refl _ _ | assumption))⟩
set_option maxRecDepth 100000 in
set_option maxHeartbeats 1000000 in
theorem lines_bad {x : Ins} (w : World) (hx : x.Ok) (hr : rightB x = false) :
    Calls Tryz.prog 5 #[.agg (insC x).toArray] w fun e w' => e = .returned (.bool true) ∧ Below w.heap.size w w' := by
  have HD := Lib.hid (fun (W : World) => print_bad W hx hr)
  have HE := Lib.hid (fun (W : World) (b : Nat) (h : Has W b 24 (insC x).toArray) => enc_one_bad hx hr h)
  clear hx hr
  obtain ⟨op, a, b, n, imm⟩ := x
  unfold insC at HD HE ⊢
  unfold faultV at HE
  have HJ0 := Lib.hid (Has.new w 24 #[.int .i64 op, .int .i64 a, .int .i64 b, .int .i64 n, .int .u64 imm])
  go_enter Tryz.func5, Tryz.ntmps5
  go_wp2_with (first
    | (go_at_call 7; refine (HD.out _).mono ?_; rintro e w1 ⟨rfl, hb⟩; have hj := HJ0.out.below hb HJ0.out.lt; have w10 : w1.cell? ⟨w.heap.size, 0, none⟩ = some (.int .i64 op) := hj.cell 0; have w11 : w1.cell? ⟨w.heap.size, 1, none⟩ = some (.int .i64 a) := hj.cell 1; have w12 : w1.cell? ⟨w.heap.size, 2, none⟩ = some (.int .i64 b) := hj.cell 2; have w13 : w1.cell? ⟨w.heap.size, 3, none⟩ = some (.int .i64 n) := hj.cell 3; have w14 : w1.cell? ⟨w.heap.size, 4, none⟩ = some (.int .u64 imm) := hj.cell 4; have z1 : w.heap.size < w1.heap.size := hj.lt; have HB : Hid (Below w.heap.size w w1) := Lib.hid (((Below.refl _ _).alloc (Nat.le_refl _) _).trans (hb.mono (by simp))); clear hb hj)
    | (go_at_call 12; refine (HE.out _ _ (by exact Has.new w1 _ _)).mono ?_; rintro e w2 ⟨rfl, hb⟩; have hB2 : Below w1.heap.size w1 w2 := Below.trans ((Below.refl _ _).alloc (Nat.le_refl _) _) (hb.mono (by simp)); have HB2 := Lib.hid (HB.out.trans (hB2.mono HB.out.size)); clear hb hB2))
  go_region_held3 (fun W => Below w2.heap.size w2 W)
    (first | exact Below.drew (Below.refl _ _) | assumption)
    (first | (go_at_call 13; refine (works_any _).mono ?_; rintro e w3 ⟨rfl, hb⟩; have hB3 : Below w2.heap.size w2 w3 := Below.trans ‹Below w2.heap.size w2 _› (hb.mono (Below.size ‹Below w2.heap.size w2 _›))))
  have HB3 := Lib.hid (HB2.out.trans (hB3.mono HB2.out.size))
  clear hB3
  all_goals
    go_wp2
    go_ret
    exact ⟨rfl, HB3.out⟩
theorem lines_any {x : Ins} (w : World) (hx : x.Ok) (hT : Tabs w) (hS : Sp w) (hM : Mx w) : Calls Tryz.prog 5 #[.agg (insC x).toArray] w fun e w' => e = .returned (.bool true) ∧ Below w.heap.size w w' := by
  cases hr : rightB x with
  | true => exact lines_w w _ (fun W hb => print_good W hx hr (hT.at_below hb) (hS.at_below hb)) (fun W b h => enc_one_good hx hr h) (fun W hb => parse_good W hx hr (line_len hx hr) (hT.at_below hb) (hS.at_below hb) (hM.at_below hb))
  | false => exact lines_bad w hx hr
end codeW
end Go.Proofs.YtbopooanmpcepaaGreatDoor
