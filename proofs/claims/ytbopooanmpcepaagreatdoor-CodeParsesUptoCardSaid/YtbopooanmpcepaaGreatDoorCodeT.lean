/- The methods of code.table: an operation's fields. No condition. -/
import Derived.Test.YtbopooanmpcepaaGreatDoorCodeF
import Derived.Test.YtbopooanmpcepaaGreatDoorSlNew
import Derived.Deep.RegionLaw
import Derived.Deep.AppendLies
import Derived.Deep.RegionWith
import Derived.Outline
namespace Go.Proofs.YtbopooanmpcepaaGreatDoor
open Go.RowKit Go.Bus Go.Bus.cellK Go.Bus.codeK
set_option linter.unusedVariables false
set_option linter.unusedSimpArgs false
namespace codeW
theorem Tryz.infoF : (Tryz.prog.info? 57).map (fun i => (i.zero, i.size, i.bytes)) = some (some (.agg #[.nilFunc, .nilFunc, .nilFunc, .nilFunc, .nilFunc]), 5, 40) := by kernel_rfl
theorem slk2 {w : World} {g : Nat} {F : Foot} {x0_0 x0_1 x0_2 x0_3 x0_4 x1_0 x1_1 x1_2 x1_3 x1_4 : Value} {f0 f1 : Fk} (h : Has w g 57 #[x0_0, x0_1, x0_2, x0_3, x0_4, x1_0, x1_1, x1_2, x1_3, x1_4]) (hF : F g) (h0 : FieldE w F [x0_0, x0_1, x0_2, x0_3, x0_4] f0) (h1 : FieldE w F [x1_0, x1_1, x1_2, x1_3, x1_4] f1) : SlK 5 FieldE w F (.slice (some ⟨g, 0, none⟩) 2 2) [f0, f1] :=
  SlK.whole (l := [f0, f1]) (cs := [x0_0, x0_1, x0_2, x0_3, x0_4, x1_0, x1_1, x1_2, x1_3, x1_4]) h rfl hF (by simp [maxLen]) fun i x hi => by
    match i, hi with
    | 0, hi => cases hi; exact h0
    | 1, hi => cases hi; exact h1
    | n + 2, hi => simp at hi
theorem slk3 {w : World} {g : Nat} {F : Foot} {x0_0 x0_1 x0_2 x0_3 x0_4 x1_0 x1_1 x1_2 x1_3 x1_4 x2_0 x2_1 x2_2 x2_3 x2_4 : Value} {f0 f1 f2 : Fk} (h : Has w g 57 #[x0_0, x0_1, x0_2, x0_3, x0_4, x1_0, x1_1, x1_2, x1_3, x1_4, x2_0, x2_1, x2_2, x2_3, x2_4]) (hF : F g) (h0 : FieldE w F [x0_0, x0_1, x0_2, x0_3, x0_4] f0) (h1 : FieldE w F [x1_0, x1_1, x1_2, x1_3, x1_4] f1) (h2 : FieldE w F [x2_0, x2_1, x2_2, x2_3, x2_4] f2) : SlK 5 FieldE w F (.slice (some ⟨g, 0, none⟩) 3 3) [f0, f1, f2] :=
  SlK.whole (l := [f0, f1, f2]) (cs := [x0_0, x0_1, x0_2, x0_3, x0_4, x1_0, x1_1, x1_2, x1_3, x1_4, x2_0, x2_1, x2_2, x2_3, x2_4]) h rfl hF (by simp [maxLen]) fun i x hi => by
    match i, hi with
    | 0, hi => cases hi; exact h0
    | 1, hi => cases hi; exact h1
    | 2, hi => cases hi; exact h2
    | n + 3, hi => simp at hi
theorem slk4 {w : World} {g : Nat} {F : Foot} {x0_0 x0_1 x0_2 x0_3 x0_4 x1_0 x1_1 x1_2 x1_3 x1_4 x2_0 x2_1 x2_2 x2_3 x2_4 x3_0 x3_1 x3_2 x3_3 x3_4 : Value} {f0 f1 f2 f3 : Fk} (h : Has w g 57 #[x0_0, x0_1, x0_2, x0_3, x0_4, x1_0, x1_1, x1_2, x1_3, x1_4, x2_0, x2_1, x2_2, x2_3, x2_4, x3_0, x3_1, x3_2, x3_3, x3_4]) (hF : F g) (h0 : FieldE w F [x0_0, x0_1, x0_2, x0_3, x0_4] f0) (h1 : FieldE w F [x1_0, x1_1, x1_2, x1_3, x1_4] f1) (h2 : FieldE w F [x2_0, x2_1, x2_2, x2_3, x2_4] f2) (h3 : FieldE w F [x3_0, x3_1, x3_2, x3_3, x3_4] f3) : SlK 5 FieldE w F (.slice (some ⟨g, 0, none⟩) 4 4) [f0, f1, f2, f3] :=
  SlK.whole (l := [f0, f1, f2, f3]) (cs := [x0_0, x0_1, x0_2, x0_3, x0_4, x1_0, x1_1, x1_2, x1_3, x1_4, x2_0, x2_1, x2_2, x2_3, x2_4, x3_0, x3_1, x3_2, x3_3, x3_4]) h rfl hF (by simp [maxLen]) fun i x hi => by
    match i, hi with
    | 0, hi => cases hi; exact h0
    | 1, hi => cases hi; exact h1
    | 2, hi => cases hi; exact h2
    | 3, hi => cases hi; exact h3
    | n + 4, hi => simp at hi
/-- The table's fields, in a method's own box. -/
structure TabE (w : World) (F : Foot) (c0 c1 c2 c3 c4 c5 c6 c7 c8 c9 c10 c11 c12 c13 c14 c15 c16 c17 c18 c19 : Value) : Prop where
  r : FieldE w F [c0, c1, c2, c3, c4] reg
  o : FieldE w F [c5, c6, c7, c8, c9] other
  s : FieldE w F [c10, c11, c12, c13, c14] slot
  i : FieldE w F [c15, c16, c17, c18, c19] .number
/-- What a method comes to. -/
def MPost (fs : List Fk) (w : World) (e : Ending) (w' : World) : Prop := ∃ v, e = .returned v ∧ SlK 5 FieldE w' (Old w'.heap.size) v fs ∧ Below w.heap.size w w' ∧ ∀ k, v.ownBlock = some k → w.heap.size ≤ k
theorem FieldE.later {w w' : World} {F F' : Foot} {cs : List Value} {f : Fk} (h : FieldE w F cs f) (hF : ∀ b, F b → F' b) {B : Nat} (hB : ∀ b, F b → b < B) (hb : Below B w w') : FieldE w' F' cs f := FieldE_mono w w' F F' cs f hF (fun b hb' => hb.block b (hB b hb')) h
theorem FieldE.old {w w' : World} {cs : List Value} {f : Fk} (h : FieldE w (Old w.heap.size) cs f) (hb : Below w.heap.size w w') : FieldE w' (Old w'.heap.size) cs f := FieldE.later h (fun b hb' => Nat.lt_of_lt_of_le hb' hb.size) (fun b hb' => hb') hb
theorem FieldE.iv {w w' : World} {lo : Nat} {cs : List Value} {f : Fk} (h : FieldE w (Iv lo w.heap.size) cs f) (hb : Below w.heap.size w w') : FieldE w' (Old w'.heap.size) cs f := FieldE.later h (fun b hb' => Nat.lt_of_lt_of_le hb'.2 hb.size) (fun b hb' => hb'.2) hb
set_option maxRecDepth 100000 in
set_option maxHeartbeats 1000000 in
theorem none_any {c0 c1 c2 c3 c4 c5 c6 c7 c8 c9 c10 c11 c12 c13 c14 c15 c16 c17 c18 c19 : Value} (w : World) : Calls Tryz.prog 33 #[.agg #[c0, c1, c2, c3, c4, c5, c6, c7, c8, c9, c10, c11, c12, c13, c14, c15, c16, c17, c18, c19]] w (MPost [] w) := by
  go_enter Tryz.func33, Tryz.ntmps33
  go_wp2
  go_ret
  exact ⟨_, rfl, SlK.nil_ _ _ _ _, (by repeat' (first | (with_reducible assumption) | (with_reducible refine Below.setCell ?_ ?_ _) | (with_reducible refine Below.alloc ?_ ?_ _) | (with_reducible refine Below.drew ?_) | (with_reducible refine below_drewN ?_ _) | (with_reducible exact Below.refl _ _) | (show _ ≤ _; (try simp); (try omega); done) | exact Below.refl _ _ | assumption)), fun k hk => by simp [Value.ownBlock] at hk⟩
set_option maxRecDepth 100000 in
set_option maxHeartbeats 1000000 in
theorem constant_any {c0 c1 c2 c3 c4 c5 c6 c7 c8 c9 c10 c11 c12 c13 c14 c15 c16 c17 c18 c19 : Value} (w : World) (hT : TabE w (Old w.heap.size) c0 c1 c2 c3 c4 c5 c6 c7 c8 c9 c10 c11 c12 c13 c14 c15 c16 c17 c18 c19) : Calls Tryz.prog 34 #[.agg #[c0, c1, c2, c3, c4, c5, c6, c7, c8, c9, c10, c11, c12, c13, c14, c15, c16, c17, c18, c19]] w (MPost [reg, .number] w) := by
  have HT := Lib.hid hT; clear hT
  go_enter Tryz.func34, Tryz.ntmps34
  go_wp2
  go_ret
  have hb : Below w.heap.size w ((w.alloc (.cells #[c0, c1, c2, c3, c4, c5, c6, c7, c8, c9, c10, c11, c12, c13, c14, c15, c16, c17, c18, c19] 78)).alloc (.cells #[c0, c1, c2, c3, c4, c15, c16, c17, c18, c19] 57)) := (by repeat' (first | (with_reducible assumption) | (with_reducible refine Below.setCell ?_ ?_ _) | (with_reducible refine Below.alloc ?_ ?_ _) | (with_reducible refine Below.drew ?_) | (with_reducible refine below_drewN ?_ _) | (with_reducible exact Below.refl _ _) | (show _ ≤ _; (try simp); (try omega); done) | exact Below.refl _ _ | assumption))
  exact ⟨_, rfl, slk2 (has_new _ _ _ _ (by simp)) (by simp) (FieldE.old HT.out.r hb) (FieldE.old HT.out.i hb), hb, fun k hk => by simp [Value.ownBlock] at hk; omega⟩
set_option maxRecDepth 100000 in
set_option maxHeartbeats 1000000 in
theorem both_any {c0 c1 c2 c3 c4 c5 c6 c7 c8 c9 c10 c11 c12 c13 c14 c15 c16 c17 c18 c19 : Value} (w : World) (hT : TabE w (Old w.heap.size) c0 c1 c2 c3 c4 c5 c6 c7 c8 c9 c10 c11 c12 c13 c14 c15 c16 c17 c18 c19) : Calls Tryz.prog 35 #[.agg #[c0, c1, c2, c3, c4, c5, c6, c7, c8, c9, c10, c11, c12, c13, c14, c15, c16, c17, c18, c19]] w (MPost [reg, other] w) := by
  have HT := Lib.hid hT; clear hT
  go_enter Tryz.func35, Tryz.ntmps35
  go_wp2
  go_ret
  have hb : Below w.heap.size w ((w.alloc (.cells #[c0, c1, c2, c3, c4, c5, c6, c7, c8, c9, c10, c11, c12, c13, c14, c15, c16, c17, c18, c19] 78)).alloc (.cells #[c0, c1, c2, c3, c4, c5, c6, c7, c8, c9] 57)) := (by repeat' (first | (with_reducible assumption) | (with_reducible refine Below.setCell ?_ ?_ _) | (with_reducible refine Below.alloc ?_ ?_ _) | (with_reducible refine Below.drew ?_) | (with_reducible refine below_drewN ?_ _) | (with_reducible exact Below.refl _ _) | (show _ ≤ _; (try simp); (try omega); done) | exact Below.refl _ _ | assumption))
  exact ⟨_, rfl, slk2 (has_new _ _ _ _ (by simp)) (by simp) (FieldE.old HT.out.r hb) (FieldE.old HT.out.o hb), hb, fun k hk => by simp [Value.ownBlock] at hk; omega⟩
set_option maxRecDepth 100000 in
set_option maxHeartbeats 1000000 in
theorem hand_any {c0 c1 c2 c3 c4 c5 c6 c7 c8 c9 c10 c11 c12 c13 c14 c15 c16 c17 c18 c19 : Value} (w : World) (hT : TabE w (Old w.heap.size) c0 c1 c2 c3 c4 c5 c6 c7 c8 c9 c10 c11 c12 c13 c14 c15 c16 c17 c18 c19) : Calls Tryz.prog 40 #[.agg #[c0, c1, c2, c3, c4, c5, c6, c7, c8, c9, c10, c11, c12, c13, c14, c15, c16, c17, c18, c19]] w (MPost [reg, slot] w) := by
  have HT := Lib.hid hT; clear hT
  go_enter Tryz.func40, Tryz.ntmps40
  go_wp2
  go_ret
  have hb : Below w.heap.size w ((w.alloc (.cells #[c0, c1, c2, c3, c4, c5, c6, c7, c8, c9, c10, c11, c12, c13, c14, c15, c16, c17, c18, c19] 78)).alloc (.cells #[c0, c1, c2, c3, c4, c10, c11, c12, c13, c14] 57)) := (by repeat' (first | (with_reducible assumption) | (with_reducible refine Below.setCell ?_ ?_ _) | (with_reducible refine Below.alloc ?_ ?_ _) | (with_reducible refine Below.drew ?_) | (with_reducible refine below_drewN ?_ _) | (with_reducible exact Below.refl _ _) | (show _ ≤ _; (try simp); (try omega); done) | exact Below.refl _ _ | assumption))
  exact ⟨_, rfl, slk2 (has_new _ _ _ _ (by simp)) (by simp) (FieldE.old HT.out.r hb) (FieldE.old HT.out.s hb), hb, fun k hk => by simp [Value.ownBlock] at hk; omega⟩
end codeW
end Go.Proofs.YtbopooanmpcepaaGreatDoor
