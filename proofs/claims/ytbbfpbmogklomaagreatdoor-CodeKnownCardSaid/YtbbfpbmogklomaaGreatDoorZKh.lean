/- Texts of this claim, one behind the other. No condition but those that each states. -/
import Derived.Test.YtbbfpbmogklomaaGreatDoorZCodeF
import Derived.Test.YtbbfpbmogklomaaGreatDoorZKf
import Derived.Deep.RegionLaw
import Derived.Deep.AppendLies
import Derived.Deep.RegionWith
import Derived.Outline

namespace Go.Proofs.YtbbfpbmogklomaaGreatDoor
open Go.RowKit Go.Bus Go.Bus.cellK Go.Bus.codeK
set_option linter.unusedVariables false
set_option linter.unusedSimpArgs false
namespace codeW
theorem Tryz.infoF : (Tryz.prog.info? 60).map (fun i => (i.zero, i.size, i.bytes)) = some (some (.agg #[.nilFunc, .nilFunc, .nilFunc, .nilFunc, .nilFunc]), 5, 40) := by kernel_rfl
theorem slk2 {w : World} {g : Nat} {F : Foot} {x0_0 x0_1 x0_2 x0_3 x0_4 x1_0 x1_1 x1_2 x1_3 x1_4 : Value} {f0 f1 : Fk} (h : Has w g 60 #[x0_0, x0_1, x0_2, x0_3, x0_4, x1_0, x1_1, x1_2, x1_3, x1_4]) (hF : F g) (h0 : FieldE w F [x0_0, x0_1, x0_2, x0_3, x0_4] f0) (h1 : FieldE w F [x1_0, x1_1, x1_2, x1_3, x1_4] f1) : SlK 5 FieldE w F (.slice (some ⟨g, 0, none⟩) 2 2) [f0, f1] :=
  SlK.whole (l := [f0, f1]) (cs := [x0_0, x0_1, x0_2, x0_3, x0_4, x1_0, x1_1, x1_2, x1_3, x1_4]) h rfl hF (by simp [maxLen]) fun i x hi => by
    match i, hi with
    | 0, hi => cases hi; exact h0
    | 1, hi => cases hi; exact h1
    | n + 2, hi => simp at hi
theorem slk3 {w : World} {g : Nat} {F : Foot} {x0_0 x0_1 x0_2 x0_3 x0_4 x1_0 x1_1 x1_2 x1_3 x1_4 x2_0 x2_1 x2_2 x2_3 x2_4 : Value} {f0 f1 f2 : Fk} (h : Has w g 60 #[x0_0, x0_1, x0_2, x0_3, x0_4, x1_0, x1_1, x1_2, x1_3, x1_4, x2_0, x2_1, x2_2, x2_3, x2_4]) (hF : F g) (h0 : FieldE w F [x0_0, x0_1, x0_2, x0_3, x0_4] f0) (h1 : FieldE w F [x1_0, x1_1, x1_2, x1_3, x1_4] f1) (h2 : FieldE w F [x2_0, x2_1, x2_2, x2_3, x2_4] f2) : SlK 5 FieldE w F (.slice (some ⟨g, 0, none⟩) 3 3) [f0, f1, f2] :=
  SlK.whole (l := [f0, f1, f2]) (cs := [x0_0, x0_1, x0_2, x0_3, x0_4, x1_0, x1_1, x1_2, x1_3, x1_4, x2_0, x2_1, x2_2, x2_3, x2_4]) h rfl hF (by simp [maxLen]) fun i x hi => by
    match i, hi with
    | 0, hi => cases hi; exact h0
    | 1, hi => cases hi; exact h1
    | 2, hi => cases hi; exact h2
    | n + 3, hi => simp at hi
theorem slk4 {w : World} {g : Nat} {F : Foot} {x0_0 x0_1 x0_2 x0_3 x0_4 x1_0 x1_1 x1_2 x1_3 x1_4 x2_0 x2_1 x2_2 x2_3 x2_4 x3_0 x3_1 x3_2 x3_3 x3_4 : Value} {f0 f1 f2 f3 : Fk} (h : Has w g 60 #[x0_0, x0_1, x0_2, x0_3, x0_4, x1_0, x1_1, x1_2, x1_3, x1_4, x2_0, x2_1, x2_2, x2_3, x2_4, x3_0, x3_1, x3_2, x3_3, x3_4]) (hF : F g) (h0 : FieldE w F [x0_0, x0_1, x0_2, x0_3, x0_4] f0) (h1 : FieldE w F [x1_0, x1_1, x1_2, x1_3, x1_4] f1) (h2 : FieldE w F [x2_0, x2_1, x2_2, x2_3, x2_4] f2) (h3 : FieldE w F [x3_0, x3_1, x3_2, x3_3, x3_4] f3) : SlK 5 FieldE w F (.slice (some ⟨g, 0, none⟩) 4 4) [f0, f1, f2, f3] :=
  SlK.whole (l := [f0, f1, f2, f3]) (cs := [x0_0, x0_1, x0_2, x0_3, x0_4, x1_0, x1_1, x1_2, x1_3, x1_4, x2_0, x2_1, x2_2, x2_3, x2_4, x3_0, x3_1, x3_2, x3_3, x3_4]) h rfl hF (by simp [maxLen]) fun i x hi => by
    match i, hi with
    | 0, hi => cases hi; exact h0
    | 1, hi => cases hi; exact h1
    | 2, hi => cases hi; exact h2
    | 3, hi => cases hi; exact h3
    | n + 4, hi => simp at hi
/-- The table's fields, in a method's own box. -/
structure TabE (w : World) (F : Foot) (c0 c1 c2 c3 c4 c5 c6 c7 c8 c9 c10 c11 c12 c13 c14 c15 c16 c17 c18 c19 : Value) : Prop where
  r : FieldE w F [c0, c1, c2, c3, c4] reg
  o : FieldE w F [c5, c6, c7, c8, c9] other
  s : FieldE w F [c10, c11, c12, c13, c14] slot
  i : FieldE w F [c15, c16, c17, c18, c19] .number
/-- What a method comes to. -/
def MPost (fs : List Fk) (w : World) (e : Ending) (w' : World) : Prop := ∃ v, e = .returned v ∧ SlK 5 FieldE w' (Old w'.heap.size) v fs ∧ Below w.heap.size w w' ∧ ∀ k, v.ownBlock = some k → w.heap.size ≤ k
theorem FieldE.later {w w' : World} {F F' : Foot} {cs : List Value} {f : Fk} (h : FieldE w F cs f) (hF : ∀ b, F b → F' b) {B : Nat} (hB : ∀ b, F b → b < B) (hb : Below B w w') : FieldE w' F' cs f := FieldE_mono w w' F F' cs f hF (fun b hb' => hb.block b (hB b hb')) h
theorem FieldE.old {w w' : World} {cs : List Value} {f : Fk} (h : FieldE w (Old w.heap.size) cs f) (hb : Below w.heap.size w w') : FieldE w' (Old w'.heap.size) cs f := FieldE.later h (fun b hb' => Nat.lt_of_lt_of_le hb' hb.size) (fun b hb' => hb') hb
theorem FieldE.iv {w w' : World} {lo : Nat} {cs : List Value} {f : Fk} (h : FieldE w (Iv lo w.heap.size) cs f) (hb : Below w.heap.size w w') : FieldE w' (Old w'.heap.size) cs f := FieldE.later h (fun b hb' => Nat.lt_of_lt_of_le hb'.2 hb.size) (fun b hb' => hb'.2) hb
set_option maxRecDepth 100000 in
set_option maxHeartbeats 1000000 in
theorem none_any {c0 c1 c2 c3 c4 c5 c6 c7 c8 c9 c10 c11 c12 c13 c14 c15 c16 c17 c18 c19 : Value} (w : World) : Calls Tryz.prog 50 #[.agg #[c0, c1, c2, c3, c4, c5, c6, c7, c8, c9, c10, c11, c12, c13, c14, c15, c16, c17, c18, c19]] w (MPost [] w) := by
  go_enter Tryz.func50, Tryz.ntmps50
  go_wp2
  go_ret
  exact ⟨_, rfl, SlK.nil_ _ _ _ _, (by repeat' (first | (with_reducible assumption) | (with_reducible refine Below.setCell ?_ ?_ _) | (with_reducible refine Below.alloc ?_ ?_ _) | (with_reducible refine Below.drew ?_) | (with_reducible refine below_drewN ?_ _) | (with_reducible exact Below.refl _ _) | (show _ ≤ _; (try simp); (try omega); done) | exact Below.refl _ _ | assumption)), fun k hk => by simp [Value.ownBlock] at hk⟩
set_option maxRecDepth 100000 in
set_option maxHeartbeats 1000000 in
theorem constant_any {c0 c1 c2 c3 c4 c5 c6 c7 c8 c9 c10 c11 c12 c13 c14 c15 c16 c17 c18 c19 : Value} (w : World) (hT : TabE w (Old w.heap.size) c0 c1 c2 c3 c4 c5 c6 c7 c8 c9 c10 c11 c12 c13 c14 c15 c16 c17 c18 c19) : Calls Tryz.prog 51 #[.agg #[c0, c1, c2, c3, c4, c5, c6, c7, c8, c9, c10, c11, c12, c13, c14, c15, c16, c17, c18, c19]] w (MPost [reg, .number] w) := by
  have HT := Lib.hid hT; clear hT
  go_enter Tryz.func51, Tryz.ntmps51
  go_wp2
  go_ret
  have hb : Below w.heap.size w ((w.alloc (.cells #[c0, c1, c2, c3, c4, c5, c6, c7, c8, c9, c10, c11, c12, c13, c14, c15, c16, c17, c18, c19] 96)).alloc (.cells #[c0, c1, c2, c3, c4, c15, c16, c17, c18, c19] 60)) := (by repeat' (first | (with_reducible assumption) | (with_reducible refine Below.setCell ?_ ?_ _) | (with_reducible refine Below.alloc ?_ ?_ _) | (with_reducible refine Below.drew ?_) | (with_reducible refine below_drewN ?_ _) | (with_reducible exact Below.refl _ _) | (show _ ≤ _; (try simp); (try omega); done) | exact Below.refl _ _ | assumption))
  exact ⟨_, rfl, slk2 (has_new _ _ _ _ (by simp)) (by simp) (FieldE.old HT.out.r hb) (FieldE.old HT.out.i hb), hb, fun k hk => by simp [Value.ownBlock] at hk; omega⟩
set_option maxRecDepth 100000 in
set_option maxHeartbeats 1000000 in
theorem both_any {c0 c1 c2 c3 c4 c5 c6 c7 c8 c9 c10 c11 c12 c13 c14 c15 c16 c17 c18 c19 : Value} (w : World) (hT : TabE w (Old w.heap.size) c0 c1 c2 c3 c4 c5 c6 c7 c8 c9 c10 c11 c12 c13 c14 c15 c16 c17 c18 c19) : Calls Tryz.prog 52 #[.agg #[c0, c1, c2, c3, c4, c5, c6, c7, c8, c9, c10, c11, c12, c13, c14, c15, c16, c17, c18, c19]] w (MPost [reg, other] w) := by
  have HT := Lib.hid hT; clear hT
  go_enter Tryz.func52, Tryz.ntmps52
  go_wp2
  go_ret
  have hb : Below w.heap.size w ((w.alloc (.cells #[c0, c1, c2, c3, c4, c5, c6, c7, c8, c9, c10, c11, c12, c13, c14, c15, c16, c17, c18, c19] 96)).alloc (.cells #[c0, c1, c2, c3, c4, c5, c6, c7, c8, c9] 60)) := (by repeat' (first | (with_reducible assumption) | (with_reducible refine Below.setCell ?_ ?_ _) | (with_reducible refine Below.alloc ?_ ?_ _) | (with_reducible refine Below.drew ?_) | (with_reducible refine below_drewN ?_ _) | (with_reducible exact Below.refl _ _) | (show _ ≤ _; (try simp); (try omega); done) | exact Below.refl _ _ | assumption))
  exact ⟨_, rfl, slk2 (has_new _ _ _ _ (by simp)) (by simp) (FieldE.old HT.out.r hb) (FieldE.old HT.out.o hb), hb, fun k hk => by simp [Value.ownBlock] at hk; omega⟩
set_option maxRecDepth 100000 in
set_option maxHeartbeats 1000000 in
theorem hand_any {c0 c1 c2 c3 c4 c5 c6 c7 c8 c9 c10 c11 c12 c13 c14 c15 c16 c17 c18 c19 : Value} (w : World) (hT : TabE w (Old w.heap.size) c0 c1 c2 c3 c4 c5 c6 c7 c8 c9 c10 c11 c12 c13 c14 c15 c16 c17 c18 c19) : Calls Tryz.prog 57 #[.agg #[c0, c1, c2, c3, c4, c5, c6, c7, c8, c9, c10, c11, c12, c13, c14, c15, c16, c17, c18, c19]] w (MPost [reg, slot] w) := by
  have HT := Lib.hid hT; clear hT
  go_enter Tryz.func57, Tryz.ntmps57
  go_wp2
  go_ret
  have hb : Below w.heap.size w ((w.alloc (.cells #[c0, c1, c2, c3, c4, c5, c6, c7, c8, c9, c10, c11, c12, c13, c14, c15, c16, c17, c18, c19] 96)).alloc (.cells #[c0, c1, c2, c3, c4, c10, c11, c12, c13, c14] 60)) := (by repeat' (first | (with_reducible assumption) | (with_reducible refine Below.setCell ?_ ?_ _) | (with_reducible refine Below.alloc ?_ ?_ _) | (with_reducible refine Below.drew ?_) | (with_reducible refine below_drewN ?_ _) | (with_reducible exact Below.refl _ _) | (show _ ≤ _; (try simp); (try omega); done) | exact Below.refl _ _ | assumption))
  exact ⟨_, rfl, slk2 (has_new _ _ _ _ (by simp)) (by simp) (FieldE.old HT.out.r hb) (FieldE.old HT.out.s hb), hb, fun k hk => by simp [Value.ownBlock] at hk; omega⟩
end codeW
end Go.Proofs.YtbbfpbmogklomaaGreatDoor

namespace Go.Proofs.YtbbfpbmogklomaaGreatDoor
open Go.RowKit Go.Bus Go.Bus.cellK Go.Bus.codeK
set_option linter.unusedVariables false
set_option linter.unusedSimpArgs false
namespace codeW
set_option maxRecDepth 100000 in
set_option maxHeartbeats 1000000 in
theorem shift_any {c0 c1 c2 c3 c4 c5 c6 c7 c8 c9 c10 c11 c12 c13 c14 c15 c16 c17 c18 c19 : Value} (w : World) (hT : TabE w (Old w.heap.size) c0 c1 c2 c3 c4 c5 c6 c7 c8 c9 c10 c11 c12 c13 c14 c15 c16 c17 c18 c19) : Calls Tryz.prog 53 #[.agg #[c0, c1, c2, c3, c4, c5, c6, c7, c8, c9, c10, c11, c12, c13, c14, c15, c16, c17, c18, c19]] w (MPost [reg, shift] w) := by
  have HT := Lib.hid hT; clear hT
  go_enter Tryz.func53, Tryz.ntmps53
  go_wp2
  go_region_law (first
    | (go_simp; go_at_call 46; refine (small_any .N 0 63 eS _).mono ?_; rintro e W1 ⟨d0, d1, d2, d3, d4, rfl, hfW1, hbW1⟩; have HTW1 : Hid (Has W1 w.heap.size 96 #[c0, c1, c2, c3, c4, c5, c6, c7, c8, c9, c10, c11, c12, c13, c14, c15, c16, c17, c18, c19]) := Lib.hid (Has.below (by exact Has.new w _ _) hbW1 (by first | (simp; done) | (simp; omega) | omega)); have kW1_0 : W1.cell? ⟨w.heap.size, 0, none⟩ = some c0 := HTW1.out.cell 0; have kW1_1 : W1.cell? ⟨w.heap.size, 1, none⟩ = some c1 := HTW1.out.cell 1; have kW1_2 : W1.cell? ⟨w.heap.size, 2, none⟩ = some c2 := HTW1.out.cell 2; have kW1_3 : W1.cell? ⟨w.heap.size, 3, none⟩ = some c3 := HTW1.out.cell 3; have kW1_4 : W1.cell? ⟨w.heap.size, 4, none⟩ = some c4 := HTW1.out.cell 4; have zzW1 : w.heap.size < W1.heap.size := HTW1.out.lt; have HBW1 : Hid (Below w.heap.size w W1) := Lib.hid (Below.trans (by repeat' (first | (with_reducible assumption) | (with_reducible refine Below.setCell ?_ ?_ _) | (with_reducible refine Below.alloc ?_ ?_ _) | (with_reducible refine Below.drew ?_) | (with_reducible refine below_drewN ?_ _) | (with_reducible exact Below.refl _ _) | (show _ ≤ _; (try simp); (try omega); done) | exact Below.refl _ _ | assumption)) (hbW1.mono (by (try simp); (try omega)))); have HFW1 := Lib.hid hfW1; have HBBW1 := Lib.hid hbW1; clear hfW1 hbW1))
  all_goals
    go_wp2
    go_ret
    have hbl : Below w.heap.size w (W1.alloc (.cells #[c0, c1, c2, c3, c4, d0, d1, d2, d3, d4] 60)) := HBW1.out.alloc (Nat.le_of_lt zzW1) _
    exact ⟨_, rfl, slk2 (has_new _ _ _ _ rfl) (by simp) (FieldE.old HT.out.r hbl) (FieldE.iv HFW1.out ((Below.refl _ _).alloc (Nat.le_refl _) _)), ⟨hbl.os, hbl.tape, hbl.output, hbl.size, hbl.block⟩, fun k hk => by cases hk; exact Nat.le_of_lt zzW1⟩
set_option maxRecDepth 100000 in
set_option maxHeartbeats 1000000 in
theorem width_any {c0 c1 c2 c3 c4 c5 c6 c7 c8 c9 c10 c11 c12 c13 c14 c15 c16 c17 c18 c19 : Value} (w : World) (hT : TabE w (Old w.heap.size) c0 c1 c2 c3 c4 c5 c6 c7 c8 c9 c10 c11 c12 c13 c14 c15 c16 c17 c18 c19) : Calls Tryz.prog 56 #[.agg #[c0, c1, c2, c3, c4, c5, c6, c7, c8, c9, c10, c11, c12, c13, c14, c15, c16, c17, c18, c19]] w (MPost [reg, width] w) := by
  have HT := Lib.hid hT; clear hT
  go_enter Tryz.func56, Tryz.ntmps56
  go_wp2
  go_region_law (first
    | (go_simp; go_at_call 46; refine (small_any .N 1 64 eS _).mono ?_; rintro e W1 ⟨d0, d1, d2, d3, d4, rfl, hfW1, hbW1⟩; have HTW1 : Hid (Has W1 w.heap.size 96 #[c0, c1, c2, c3, c4, c5, c6, c7, c8, c9, c10, c11, c12, c13, c14, c15, c16, c17, c18, c19]) := Lib.hid (Has.below (by exact Has.new w _ _) hbW1 (by first | (simp; done) | (simp; omega) | omega)); have kW1_0 : W1.cell? ⟨w.heap.size, 0, none⟩ = some c0 := HTW1.out.cell 0; have kW1_1 : W1.cell? ⟨w.heap.size, 1, none⟩ = some c1 := HTW1.out.cell 1; have kW1_2 : W1.cell? ⟨w.heap.size, 2, none⟩ = some c2 := HTW1.out.cell 2; have kW1_3 : W1.cell? ⟨w.heap.size, 3, none⟩ = some c3 := HTW1.out.cell 3; have kW1_4 : W1.cell? ⟨w.heap.size, 4, none⟩ = some c4 := HTW1.out.cell 4; have zzW1 : w.heap.size < W1.heap.size := HTW1.out.lt; have HBW1 : Hid (Below w.heap.size w W1) := Lib.hid (Below.trans (by repeat' (first | (with_reducible assumption) | (with_reducible refine Below.setCell ?_ ?_ _) | (with_reducible refine Below.alloc ?_ ?_ _) | (with_reducible refine Below.drew ?_) | (with_reducible refine below_drewN ?_ _) | (with_reducible exact Below.refl _ _) | (show _ ≤ _; (try simp); (try omega); done) | exact Below.refl _ _ | assumption)) (hbW1.mono (by (try simp); (try omega)))); have HFW1 := Lib.hid hfW1; have HBBW1 := Lib.hid hbW1; clear hfW1 hbW1))
  all_goals
    go_wp2
    go_ret
    have hbl : Below w.heap.size w (W1.alloc (.cells #[c0, c1, c2, c3, c4, d0, d1, d2, d3, d4] 60)) := HBW1.out.alloc (Nat.le_of_lt zzW1) _
    exact ⟨_, rfl, slk2 (has_new _ _ _ _ rfl) (by simp) (FieldE.old HT.out.r hbl) (FieldE.iv HFW1.out ((Below.refl _ _).alloc (Nat.le_refl _) _)), ⟨hbl.os, hbl.tape, hbl.output, hbl.size, hbl.block⟩, fun k hk => by cases hk; exact Nat.le_of_lt zzW1⟩
set_option maxRecDepth 100000 in
set_option maxHeartbeats 1000000 in
theorem unless_any {c0 c1 c2 c3 c4 c5 c6 c7 c8 c9 c10 c11 c12 c13 c14 c15 c16 c17 c18 c19 : Value} (w : World) (hT : TabE w (Old w.heap.size) c0 c1 c2 c3 c4 c5 c6 c7 c8 c9 c10 c11 c12 c13 c14 c15 c16 c17 c18 c19) : Calls Tryz.prog 60 #[.agg #[c0, c1, c2, c3, c4, c5, c6, c7, c8, c9, c10, c11, c12, c13, c14, c15, c16, c17, c18, c19]] w (MPost [reg, .skip, .number] w) := by
  have HT := Lib.hid hT; clear hT
  go_enter Tryz.func60, Tryz.ntmps60
  go_wp2
  go_region_law (first
    | (go_simp; go_at_call 104; refine (skip_any _).mono ?_; rintro e W1 ⟨d0, d1, d2, d3, d4, rfl, hfW1, hbW1⟩; have HTW1 : Hid (Has W1 w.heap.size 96 #[c0, c1, c2, c3, c4, c5, c6, c7, c8, c9, c10, c11, c12, c13, c14, c15, c16, c17, c18, c19]) := Lib.hid (Has.below (by exact Has.new w _ _) hbW1 (by first | (simp; done) | (simp; omega) | omega)); have kW1_0 : W1.cell? ⟨w.heap.size, 0, none⟩ = some c0 := HTW1.out.cell 0; have kW1_1 : W1.cell? ⟨w.heap.size, 1, none⟩ = some c1 := HTW1.out.cell 1; have kW1_2 : W1.cell? ⟨w.heap.size, 2, none⟩ = some c2 := HTW1.out.cell 2; have kW1_3 : W1.cell? ⟨w.heap.size, 3, none⟩ = some c3 := HTW1.out.cell 3; have kW1_4 : W1.cell? ⟨w.heap.size, 4, none⟩ = some c4 := HTW1.out.cell 4; have kW1_15 : W1.cell? ⟨w.heap.size, 15, none⟩ = some c15 := HTW1.out.cell 15; have kW1_16 : W1.cell? ⟨w.heap.size, 16, none⟩ = some c16 := HTW1.out.cell 16; have kW1_17 : W1.cell? ⟨w.heap.size, 17, none⟩ = some c17 := HTW1.out.cell 17; have kW1_18 : W1.cell? ⟨w.heap.size, 18, none⟩ = some c18 := HTW1.out.cell 18; have kW1_19 : W1.cell? ⟨w.heap.size, 19, none⟩ = some c19 := HTW1.out.cell 19; have zzW1 : w.heap.size < W1.heap.size := HTW1.out.lt; have HBW1 : Hid (Below w.heap.size w W1) := Lib.hid (Below.trans (by repeat' (first | (with_reducible assumption) | (with_reducible refine Below.setCell ?_ ?_ _) | (with_reducible refine Below.alloc ?_ ?_ _) | (with_reducible refine Below.drew ?_) | (with_reducible refine below_drewN ?_ _) | (with_reducible exact Below.refl _ _) | (show _ ≤ _; (try simp); (try omega); done) | exact Below.refl _ _ | assumption)) (hbW1.mono (by (try simp); (try omega)))); have HFW1 := Lib.hid hfW1; have HBBW1 := Lib.hid hbW1; clear hfW1 hbW1))
  all_goals
    go_wp2
    go_ret
    have hbl : Below w.heap.size w (W1.alloc (.cells #[c0, c1, c2, c3, c4, d0, d1, d2, d3, d4, c15, c16, c17, c18, c19] 60)) := HBW1.out.alloc (Nat.le_of_lt zzW1) _
    exact ⟨_, rfl, slk3 (has_new _ _ _ _ rfl) (by simp) (FieldE.old HT.out.r hbl) (FieldE.iv HFW1.out ((Below.refl _ _).alloc (Nat.le_refl _) _)) (FieldE.old HT.out.i hbl), ⟨hbl.os, hbl.tape, hbl.output, hbl.size, hbl.block⟩, fun k hk => by cases hk; exact Nat.le_of_lt zzW1⟩
end codeW
end Go.Proofs.YtbbfpbmogklomaaGreatDoor

namespace Go.Proofs.YtbbfpbmogklomaaGreatDoor
open Go.RowKit Go.Bus Go.Bus.cellK Go.Bus.codeK
set_option linter.unusedVariables false
set_option linter.unusedSimpArgs false
namespace codeW
set_option maxRecDepth 100000 in
set_option maxHeartbeats 1000000 in
theorem fits_any {c0 c1 c2 c3 c4 c5 c6 c7 c8 c9 c10 c11 c12 c13 c14 c15 c16 c17 c18 c19 : Value} (w : World) (hT : TabE w (Old w.heap.size) c0 c1 c2 c3 c4 c5 c6 c7 c8 c9 c10 c11 c12 c13 c14 c15 c16 c17 c18 c19) : Calls Tryz.prog 58 #[.agg #[c0, c1, c2, c3, c4, c5, c6, c7, c8, c9, c10, c11, c12, c13, c14, c15, c16, c17, c18, c19]] w (MPost [reg, slot, width, .sign] w) := by
  have HT := Lib.hid hT; clear hT
  go_enter Tryz.func58, Tryz.ntmps58
  go_wp2
  go_region_law (first
    | (go_simp; go_at_call 46; refine (small_any .N 1 64 eS _).mono ?_; rintro e W1 ⟨d0, d1, d2, d3, d4, rfl, hfW1, hbW1⟩; have HTW1 : Hid (Has W1 w.heap.size 96 #[c0, c1, c2, c3, c4, c5, c6, c7, c8, c9, c10, c11, c12, c13, c14, c15, c16, c17, c18, c19]) := Lib.hid (Has.below (by exact Has.new w _ _) hbW1 (by first | (simp; done) | (simp; omega) | omega)); have kW1_0 : W1.cell? ⟨w.heap.size, 0, none⟩ = some c0 := HTW1.out.cell 0; have kW1_1 : W1.cell? ⟨w.heap.size, 1, none⟩ = some c1 := HTW1.out.cell 1; have kW1_2 : W1.cell? ⟨w.heap.size, 2, none⟩ = some c2 := HTW1.out.cell 2; have kW1_3 : W1.cell? ⟨w.heap.size, 3, none⟩ = some c3 := HTW1.out.cell 3; have kW1_4 : W1.cell? ⟨w.heap.size, 4, none⟩ = some c4 := HTW1.out.cell 4; have kW1_10 : W1.cell? ⟨w.heap.size, 10, none⟩ = some c10 := HTW1.out.cell 10; have kW1_11 : W1.cell? ⟨w.heap.size, 11, none⟩ = some c11 := HTW1.out.cell 11; have kW1_12 : W1.cell? ⟨w.heap.size, 12, none⟩ = some c12 := HTW1.out.cell 12; have kW1_13 : W1.cell? ⟨w.heap.size, 13, none⟩ = some c13 := HTW1.out.cell 13; have kW1_14 : W1.cell? ⟨w.heap.size, 14, none⟩ = some c14 := HTW1.out.cell 14; have zzW1 : w.heap.size < W1.heap.size := HTW1.out.lt; have HBW1 : Hid (Below w.heap.size w W1) := Lib.hid (Below.trans (by repeat' (first | (with_reducible assumption) | (with_reducible refine Below.setCell ?_ ?_ _) | (with_reducible refine Below.alloc ?_ ?_ _) | (with_reducible refine Below.drew ?_) | (with_reducible refine below_drewN ?_ _) | (with_reducible exact Below.refl _ _) | (show _ ≤ _; (try simp); (try omega); done) | exact Below.refl _ _ | assumption)) (hbW1.mono (by (try simp); (try omega)))); have HFW1 := Lib.hid hfW1; have HBBW1 := Lib.hid hbW1; clear hfW1 hbW1)
    | (go_simp; go_at_call 103; refine (sign_any _).mono ?_; rintro e W2 ⟨g0, g1, g2, g3, g4, rfl, hfW2, hbW2⟩; have HTW2 : Hid (Has W2 w.heap.size 96 #[c0, c1, c2, c3, c4, c5, c6, c7, c8, c9, c10, c11, c12, c13, c14, c15, c16, c17, c18, c19]) := Lib.hid (Has.below (by exact HTW1.out) hbW2 (by first | (simp; done) | (simp; omega) | omega)); have kW2_0 : W2.cell? ⟨w.heap.size, 0, none⟩ = some c0 := HTW2.out.cell 0; have kW2_1 : W2.cell? ⟨w.heap.size, 1, none⟩ = some c1 := HTW2.out.cell 1; have kW2_2 : W2.cell? ⟨w.heap.size, 2, none⟩ = some c2 := HTW2.out.cell 2; have kW2_3 : W2.cell? ⟨w.heap.size, 3, none⟩ = some c3 := HTW2.out.cell 3; have kW2_4 : W2.cell? ⟨w.heap.size, 4, none⟩ = some c4 := HTW2.out.cell 4; have kW2_10 : W2.cell? ⟨w.heap.size, 10, none⟩ = some c10 := HTW2.out.cell 10; have kW2_11 : W2.cell? ⟨w.heap.size, 11, none⟩ = some c11 := HTW2.out.cell 11; have kW2_12 : W2.cell? ⟨w.heap.size, 12, none⟩ = some c12 := HTW2.out.cell 12; have kW2_13 : W2.cell? ⟨w.heap.size, 13, none⟩ = some c13 := HTW2.out.cell 13; have kW2_14 : W2.cell? ⟨w.heap.size, 14, none⟩ = some c14 := HTW2.out.cell 14; have zzW2 : w.heap.size < W2.heap.size := HTW2.out.lt; have HBW2 : Hid (Below w.heap.size w W2) := Lib.hid (Below.trans HBW1.out ((by exact hbW2 : Below W1.heap.size W1 W2).mono (Nat.le_of_lt zzW1))); have HFW2 := Lib.hid hfW2; have HBBW2 := Lib.hid hbW2; clear hfW2 hbW2))
  all_goals
    go_wp2
    go_ret
    have hbl : Below w.heap.size w (W2.alloc (.cells #[c0, c1, c2, c3, c4, c10, c11, c12, c13, c14, d0, d1, d2, d3, d4, g0, g1, g2, g3, g4] 60)) := HBW2.out.alloc (Nat.le_of_lt zzW2) _
    exact ⟨_, rfl, slk4 (has_new _ _ _ _ rfl) (by simp) (FieldE.old HT.out.r hbl) (FieldE.old HT.out.s hbl) (FieldE.iv HFW1.out ((by exact HBBW2.out : Below W1.heap.size W1 W2).alloc (by exact HBBW2.out.size) _)) (FieldE.iv HFW2.out ((Below.refl _ _).alloc (Nat.le_refl _) _)), ⟨hbl.os, hbl.tape, hbl.output, hbl.size, hbl.block⟩, fun k hk => by cases hk; exact Nat.le_of_lt zzW2⟩
end codeW
end Go.Proofs.YtbbfpbmogklomaaGreatDoor

namespace Go.Proofs.YtbbfpbmogklomaaGreatDoor
open Go.RowKit Go.Bus Go.Bus.cellK Go.Bus.codeK
set_option linter.unusedVariables false
set_option linter.unusedSimpArgs false
namespace codeW
theorem own_of_has {w : World} {g T base size n : Nat} {cs : List Value} (h : Has w g T cs.toArray) (hl : cs.length = n * size) (hb : base ≤ g) (hn : n ≤ maxLen) : w.ownsRow base T size (.slice (some ⟨g, 0, none⟩) n n) n cs :=
  ⟨hl, .inr ⟨g, n, cs.toArray, rfl, hb, h, Nat.le_refl _, hn, by simp [hl], by rw [← hl]; simp⟩⟩
theorem has_news {w : World} {g t : Nat} {cs : List Value} (h : Has w g t cs.toArray) : ∀ (j : Nat) (u : Value), cs[j]? = some u → w.cell? ((⟨g, 0, none⟩ : Addr).add j) = some u := by
  intro j u hj
  have h2 : ((⟨g, 0, none⟩ : Addr).add j) = ⟨g, j, none⟩ := by unfold Addr.add; split <;> simp_all
  rw [h2, h.cell j]
  simpa using hj
theorem news_new (w : World) (cs : List Value) (t : TypeId) : ∀ (j : Nat) (u : Value), cs[j]? = some u → (w.alloc (.cells cs.toArray t)).cell? ((⟨w.heap.size, 0, none⟩ : Addr).add j) = some u := by
  intro j u hj
  have h2 : ((⟨w.heap.size, 0, none⟩ : Addr).add j) = ⟨w.heap.size, j, none⟩ := by unfold Addr.add; split <;> simp_all
  rw [h2, (Has.new w t cs.toArray).cell j]
  simpa using hj
theorem src_of_own {k : Nat} {w : World} {F : Foot} {base : Nat} {e : TypeId} {v : Value} {n : Nat} {xs : List Value} (h : w.ownsRow base e k v n xs) (hF : ∀ g, v.ownBlock = some g → F g) : Src k w F v n xs := by
  have h' := h
  obtain ⟨hl, h2⟩ := h
  rcases h2 with ⟨rfl, h0⟩ | ⟨g, cap, cur, rfl, hb, hg, hn, hm, hs, ht⟩
  · subst h0
    exact ⟨none, 0, rfl, Nat.le_refl _, Nat.zero_le _, hl, fun h => absurd h (by simp)⟩
  · refine ⟨_, cap, rfl, hn, hm, hl, fun _ => ⟨g, 0, rfl, hF g rfl, fun j u hj => ?_⟩⟩
    have h1 := h'.cells (g := g) rfl j u hj
    rw [Addr.add_mid] at h1
    exact h1
/-- What move comes to: a row of three fields of its own. -/
def MovePost (w : World) (c0 c1 c2 c3 c4 : Value) (e : Ending) (w' : World) : Prop := ∃ g d0 d1 d2 d3 d4 g0 g1 g2 g3 g4, e = .returned (.slice (some ⟨g, 0, none⟩) 3 3) ∧ Has w' g 60 #[c0, c1, c2, c3, c4, d0, d1, d2, d3, d4, g0, g1, g2, g3, g4] ∧ w.heap.size ≤ g ∧ FieldE w' (Iv w.heap.size g) [d0, d1, d2, d3, d4] codeK.start ∧ FieldE w' (Iv w.heap.size g) [g0, g1, g2, g3, g4] .bytes ∧ Below w.heap.size w w'
set_option maxRecDepth 100000 in
set_option maxHeartbeats 1000000 in
theorem move_own {c0 c1 c2 c3 c4 c5 c6 c7 c8 c9 c10 c11 c12 c13 c14 c15 c16 c17 c18 c19 : Value} (w : World) : Calls Tryz.prog 54 #[.agg #[c0, c1, c2, c3, c4, c5, c6, c7, c8, c9, c10, c11, c12, c13, c14, c15, c16, c17, c18, c19]] w (MovePost w c0 c1 c2 c3 c4) := by
  go_enter Tryz.func54, Tryz.ntmps54
  go_wp2
  go_region_law (first
    | (go_simp; go_at_call 46; refine (small_any .B 0 7 eS _).mono ?_; rintro e W1 ⟨d0, d1, d2, d3, d4, rfl, hfW1, hbW1⟩; have HTW1 : Hid (Has W1 w.heap.size 96 #[c0, c1, c2, c3, c4, c5, c6, c7, c8, c9, c10, c11, c12, c13, c14, c15, c16, c17, c18, c19]) := Lib.hid (Has.below (by exact Has.new w _ _) hbW1 (by first | (simp; done) | (simp; omega) | omega)); have kW1_0 : W1.cell? ⟨w.heap.size, 0, none⟩ = some c0 := HTW1.out.cell 0; have kW1_1 : W1.cell? ⟨w.heap.size, 1, none⟩ = some c1 := HTW1.out.cell 1; have kW1_2 : W1.cell? ⟨w.heap.size, 2, none⟩ = some c2 := HTW1.out.cell 2; have kW1_3 : W1.cell? ⟨w.heap.size, 3, none⟩ = some c3 := HTW1.out.cell 3; have kW1_4 : W1.cell? ⟨w.heap.size, 4, none⟩ = some c4 := HTW1.out.cell 4; have zzW1 : w.heap.size < W1.heap.size := HTW1.out.lt; have HBW1 : Hid (Below w.heap.size w W1) := Lib.hid (Below.trans (by repeat' (first | (with_reducible assumption) | (with_reducible refine Below.setCell ?_ ?_ _) | (with_reducible refine Below.alloc ?_ ?_ _) | (with_reducible refine Below.drew ?_) | (with_reducible refine below_drewN ?_ _) | (with_reducible exact Below.refl _ _) | (show _ ≤ _; (try simp); (try omega); done) | exact Below.refl _ _ | assumption)) (hbW1.mono (by (try simp); (try omega)))); have HFW1 := Lib.hid hfW1; have HBBW1 := Lib.hid hbW1; clear hfW1 hbW1)
    | (go_simp; go_at_call 102; refine (bytes_any _).mono ?_; rintro e W2 ⟨g0, g1, g2, g3, g4, rfl, hfW2, hbW2⟩; have HTW2 : Hid (Has W2 w.heap.size 96 #[c0, c1, c2, c3, c4, c5, c6, c7, c8, c9, c10, c11, c12, c13, c14, c15, c16, c17, c18, c19]) := Lib.hid (Has.below (by exact HTW1.out) hbW2 (by first | (simp; done) | (simp; omega) | omega)); have kW2_0 : W2.cell? ⟨w.heap.size, 0, none⟩ = some c0 := HTW2.out.cell 0; have kW2_1 : W2.cell? ⟨w.heap.size, 1, none⟩ = some c1 := HTW2.out.cell 1; have kW2_2 : W2.cell? ⟨w.heap.size, 2, none⟩ = some c2 := HTW2.out.cell 2; have kW2_3 : W2.cell? ⟨w.heap.size, 3, none⟩ = some c3 := HTW2.out.cell 3; have kW2_4 : W2.cell? ⟨w.heap.size, 4, none⟩ = some c4 := HTW2.out.cell 4; have zzW2 : w.heap.size < W2.heap.size := HTW2.out.lt; have HBW2 : Hid (Below w.heap.size w W2) := Lib.hid (Below.trans HBW1.out ((by exact hbW2 : Below W1.heap.size W1 W2).mono (Nat.le_of_lt zzW1))); have HFW2 := Lib.hid hfW2; have HBBW2 := Lib.hid hbW2; clear hfW2 hbW2))
  all_goals
    go_wp2
    go_ret
    have hbl : Below w.heap.size w (W2.alloc (.cells #[c0, c1, c2, c3, c4, d0, d1, d2, d3, d4, g0, g1, g2, g3, g4] 60)) := HBW2.out.alloc (Nat.le_of_lt zzW2) _
    have hb1 : Below W1.heap.size W1 (W2.alloc (.cells #[c0, c1, c2, c3, c4, d0, d1, d2, d3, d4, g0, g1, g2, g3, g4] 60)) := (by exact HBBW2.out : Below W1.heap.size W1 W2).alloc (by exact HBBW2.out.size) _
    have hb2 : Below W2.heap.size W2 (W2.alloc (.cells #[c0, c1, c2, c3, c4, d0, d1, d2, d3, d4, g0, g1, g2, g3, g4] 60)) := (Below.refl _ _).alloc (Nat.le_refl _) _
    refine ⟨_, _, _, _, _, _, _, _, _, _, _, rfl, has_new _ _ _ _ rfl, Nat.le_of_lt zzW2, ?_, ?_, ⟨hbl.os, hbl.tape, hbl.output, hbl.size, hbl.block⟩⟩
    · exact FieldE.later HFW1.out (fun b hb => ⟨by have := hb.1; simp at this; omega, Nat.lt_of_lt_of_le hb.2 HBBW2.out.size⟩) (fun b hb => hb.2) ⟨hb1.os, hb1.tape, hb1.output, hb1.size, hb1.block⟩
    · exact FieldE.later HFW2.out (fun b hb => ⟨Nat.le_trans (Nat.le_of_lt zzW1) hb.1, hb.2⟩) (fun b hb => hb.2) ⟨hb2.os, hb2.tape, hb2.output, hb2.size, hb2.block⟩
theorem move_any {c0 c1 c2 c3 c4 c5 c6 c7 c8 c9 c10 c11 c12 c13 c14 c15 c16 c17 c18 c19 : Value} (w : World) (hT : TabE w (Old w.heap.size) c0 c1 c2 c3 c4 c5 c6 c7 c8 c9 c10 c11 c12 c13 c14 c15 c16 c17 c18 c19) : Calls Tryz.prog 54 #[.agg #[c0, c1, c2, c3, c4, c5, c6, c7, c8, c9, c10, c11, c12, c13, c14, c15, c16, c17, c18, c19]] w (MPost [reg, codeK.start, .bytes] w) := by
  refine (move_own w).mono ?_
  rintro e w' ⟨g, d0, d1, d2, d3, d4, g0, g1, g2, g3, g4, rfl, hH, hg, h1, h2, hb⟩
  exact ⟨_, rfl, slk3 hH hH.lt (FieldE.old hT.r hb) (FieldE.later h1 (fun b hb' => Nat.lt_trans hb'.2 hH.lt) (fun b hb' => hb'.2) (Below.refl g _)) (FieldE.later h2 (fun b hb' => Nat.lt_trans hb'.2 hH.lt) (fun b hb' => hb'.2) (Below.refl g _)), hb, fun k hk => by simp [Value.ownBlock] at hk; omega⟩
set_option maxRecDepth 100000 in
set_option maxHeartbeats 1000000 in
theorem skipM_any {c0 c1 c2 c3 c4 c5 c6 c7 c8 c9 c10 c11 c12 c13 c14 c15 c16 c17 c18 c19 : Value} (w : World) : Calls Tryz.prog 59 #[.agg #[c0, c1, c2, c3, c4, c5, c6, c7, c8, c9, c10, c11, c12, c13, c14, c15, c16, c17, c18, c19]] w (MPost [.skip] w) := by
  go_enter Tryz.func59, Tryz.ntmps59
  go_wp2_with (go_at_call 104; refine (skip_any _).mono ?_; rintro e W1 ⟨d0, d1, d2, d3, d4, rfl, hf, hb⟩; have HF := Lib.hid hf; have HB := Lib.hid hb; clear hf hb)
  go_ret
  have hb1 : Below W1.heap.size W1 (W1.alloc (.cells #[d0, d1, d2, d3, d4] 60)) := (Below.refl _ _).alloc (Nat.le_refl _) _
  have hb := HB.out
  have hz := hb.size
  simp at hz
  refine ⟨_, rfl, ?_, (Below.trans (by repeat' (first | (with_reducible assumption) | (with_reducible refine Below.setCell ?_ ?_ _) | (with_reducible refine Below.alloc ?_ ?_ _) | (with_reducible refine Below.drew ?_) | (with_reducible refine below_drewN ?_ _) | (with_reducible exact Below.refl _ _) | (show _ ≤ _; (try simp); (try omega); done) | exact Below.refl _ _ | assumption)) (hb.mono (by (try simp); (try omega)))).alloc (by omega) _, fun k hk => by simp [Value.ownBlock] at hk; omega⟩
  refine SlK.whole (l := [Fk.skip]) (cs := [d0, d1, d2, d3, d4]) (has_new _ _ _ _ rfl) rfl (by simp) (by simp [maxLen]) fun i x hi => ?_
  match i, hi with
  | 0, hi => cases hi; exact FieldE.iv HF.out hb1
  | n + 1, hi => simp at hi
end codeW
end Go.Proofs.YtbbfpbmogklomaaGreatDoor
