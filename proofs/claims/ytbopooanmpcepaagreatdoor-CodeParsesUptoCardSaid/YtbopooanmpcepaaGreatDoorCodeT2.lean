/- The methods of code.table that make fields of their own. No condition. -/
import Derived.Test.YtbopooanmpcepaaGreatDoorCodeT
namespace Go.Proofs.YtbopooanmpcepaaGreatDoor
open Go.RowKit Go.Bus Go.Bus.cellK Go.Bus.codeK
set_option linter.unusedVariables false
set_option linter.unusedSimpArgs false
namespace codeW
set_option maxRecDepth 100000 in
set_option maxHeartbeats 1000000 in
theorem shift_any {c0 c1 c2 c3 c4 c5 c6 c7 c8 c9 c10 c11 c12 c13 c14 c15 c16 c17 c18 c19 : Value} (w : World) (hT : TabE w (Old w.heap.size) c0 c1 c2 c3 c4 c5 c6 c7 c8 c9 c10 c11 c12 c13 c14 c15 c16 c17 c18 c19) : Calls Tryz.prog 36 #[.agg #[c0, c1, c2, c3, c4, c5, c6, c7, c8, c9, c10, c11, c12, c13, c14, c15, c16, c17, c18, c19]] w (MPost [reg, shift] w) := by
  have HT := Lib.hid hT; clear hT
  go_enter Tryz.func36, Tryz.ntmps36
  go_wp2
  go_region_law (first
    | (go_simp; go_at_call 29; refine (small_any .N 0 63 eS _).mono ?_; rintro e W1 ⟨d0, d1, d2, d3, d4, rfl, hfW1, hbW1⟩; have HTW1 : Hid (Has W1 w.heap.size 78 #[c0, c1, c2, c3, c4, c5, c6, c7, c8, c9, c10, c11, c12, c13, c14, c15, c16, c17, c18, c19]) := Lib.hid (Has.below (by exact Has.new w _ _) hbW1 (by first | (simp; done) | (simp; omega) | omega)); have kW1_0 : W1.cell? ⟨w.heap.size, 0, none⟩ = some c0 := HTW1.out.cell 0; have kW1_1 : W1.cell? ⟨w.heap.size, 1, none⟩ = some c1 := HTW1.out.cell 1; have kW1_2 : W1.cell? ⟨w.heap.size, 2, none⟩ = some c2 := HTW1.out.cell 2; have kW1_3 : W1.cell? ⟨w.heap.size, 3, none⟩ = some c3 := HTW1.out.cell 3; have kW1_4 : W1.cell? ⟨w.heap.size, 4, none⟩ = some c4 := HTW1.out.cell 4; have zzW1 : w.heap.size < W1.heap.size := HTW1.out.lt; have HBW1 : Hid (Below w.heap.size w W1) := Lib.hid (Below.trans (by repeat' (first | (with_reducible assumption) | (with_reducible refine Below.setCell ?_ ?_ _) | (with_reducible refine Below.alloc ?_ ?_ _) | (with_reducible refine Below.drew ?_) | (with_reducible refine below_drewN ?_ _) | (with_reducible exact Below.refl _ _) | (show _ ≤ _; (try simp); (try omega); done) | exact Below.refl _ _ | assumption)) (hbW1.mono (by (try simp); (try omega)))); have HFW1 := Lib.hid hfW1; have HBBW1 := Lib.hid hbW1; clear hfW1 hbW1))
  all_goals
    go_wp2
    go_ret
    have hbl : Below w.heap.size w (W1.alloc (.cells #[c0, c1, c2, c3, c4, d0, d1, d2, d3, d4] 57)) := HBW1.out.alloc (Nat.le_of_lt zzW1) _
    exact ⟨_, rfl, slk2 (has_new _ _ _ _ rfl) (by simp) (FieldE.old HT.out.r hbl) (FieldE.iv HFW1.out ((Below.refl _ _).alloc (Nat.le_refl _) _)), ⟨hbl.os, hbl.tape, hbl.output, hbl.size, hbl.block⟩, fun k hk => by cases hk; exact Nat.le_of_lt zzW1⟩
set_option maxRecDepth 100000 in
set_option maxHeartbeats 1000000 in
theorem width_any {c0 c1 c2 c3 c4 c5 c6 c7 c8 c9 c10 c11 c12 c13 c14 c15 c16 c17 c18 c19 : Value} (w : World) (hT : TabE w (Old w.heap.size) c0 c1 c2 c3 c4 c5 c6 c7 c8 c9 c10 c11 c12 c13 c14 c15 c16 c17 c18 c19) : Calls Tryz.prog 39 #[.agg #[c0, c1, c2, c3, c4, c5, c6, c7, c8, c9, c10, c11, c12, c13, c14, c15, c16, c17, c18, c19]] w (MPost [reg, width] w) := by
  have HT := Lib.hid hT; clear hT
  go_enter Tryz.func39, Tryz.ntmps39
  go_wp2
  go_region_law (first
    | (go_simp; go_at_call 29; refine (small_any .N 1 64 eS _).mono ?_; rintro e W1 ⟨d0, d1, d2, d3, d4, rfl, hfW1, hbW1⟩; have HTW1 : Hid (Has W1 w.heap.size 78 #[c0, c1, c2, c3, c4, c5, c6, c7, c8, c9, c10, c11, c12, c13, c14, c15, c16, c17, c18, c19]) := Lib.hid (Has.below (by exact Has.new w _ _) hbW1 (by first | (simp; done) | (simp; omega) | omega)); have kW1_0 : W1.cell? ⟨w.heap.size, 0, none⟩ = some c0 := HTW1.out.cell 0; have kW1_1 : W1.cell? ⟨w.heap.size, 1, none⟩ = some c1 := HTW1.out.cell 1; have kW1_2 : W1.cell? ⟨w.heap.size, 2, none⟩ = some c2 := HTW1.out.cell 2; have kW1_3 : W1.cell? ⟨w.heap.size, 3, none⟩ = some c3 := HTW1.out.cell 3; have kW1_4 : W1.cell? ⟨w.heap.size, 4, none⟩ = some c4 := HTW1.out.cell 4; have zzW1 : w.heap.size < W1.heap.size := HTW1.out.lt; have HBW1 : Hid (Below w.heap.size w W1) := Lib.hid (Below.trans (by repeat' (first | (with_reducible assumption) | (with_reducible refine Below.setCell ?_ ?_ _) | (with_reducible refine Below.alloc ?_ ?_ _) | (with_reducible refine Below.drew ?_) | (with_reducible refine below_drewN ?_ _) | (with_reducible exact Below.refl _ _) | (show _ ≤ _; (try simp); (try omega); done) | exact Below.refl _ _ | assumption)) (hbW1.mono (by (try simp); (try omega)))); have HFW1 := Lib.hid hfW1; have HBBW1 := Lib.hid hbW1; clear hfW1 hbW1))
  all_goals
    go_wp2
    go_ret
    have hbl : Below w.heap.size w (W1.alloc (.cells #[c0, c1, c2, c3, c4, d0, d1, d2, d3, d4] 57)) := HBW1.out.alloc (Nat.le_of_lt zzW1) _
    exact ⟨_, rfl, slk2 (has_new _ _ _ _ rfl) (by simp) (FieldE.old HT.out.r hbl) (FieldE.iv HFW1.out ((Below.refl _ _).alloc (Nat.le_refl _) _)), ⟨hbl.os, hbl.tape, hbl.output, hbl.size, hbl.block⟩, fun k hk => by cases hk; exact Nat.le_of_lt zzW1⟩
set_option maxRecDepth 100000 in
set_option maxHeartbeats 1000000 in
theorem unless_any {c0 c1 c2 c3 c4 c5 c6 c7 c8 c9 c10 c11 c12 c13 c14 c15 c16 c17 c18 c19 : Value} (w : World) (hT : TabE w (Old w.heap.size) c0 c1 c2 c3 c4 c5 c6 c7 c8 c9 c10 c11 c12 c13 c14 c15 c16 c17 c18 c19) : Calls Tryz.prog 43 #[.agg #[c0, c1, c2, c3, c4, c5, c6, c7, c8, c9, c10, c11, c12, c13, c14, c15, c16, c17, c18, c19]] w (MPost [reg, .skip, .number] w) := by
  have HT := Lib.hid hT; clear hT
  go_enter Tryz.func43, Tryz.ntmps43
  go_wp2
  go_region_law (first
    | (go_simp; go_at_call 77; refine (skip_any _).mono ?_; rintro e W1 ⟨d0, d1, d2, d3, d4, rfl, hfW1, hbW1⟩; have HTW1 : Hid (Has W1 w.heap.size 78 #[c0, c1, c2, c3, c4, c5, c6, c7, c8, c9, c10, c11, c12, c13, c14, c15, c16, c17, c18, c19]) := Lib.hid (Has.below (by exact Has.new w _ _) hbW1 (by first | (simp; done) | (simp; omega) | omega)); have kW1_0 : W1.cell? ⟨w.heap.size, 0, none⟩ = some c0 := HTW1.out.cell 0; have kW1_1 : W1.cell? ⟨w.heap.size, 1, none⟩ = some c1 := HTW1.out.cell 1; have kW1_2 : W1.cell? ⟨w.heap.size, 2, none⟩ = some c2 := HTW1.out.cell 2; have kW1_3 : W1.cell? ⟨w.heap.size, 3, none⟩ = some c3 := HTW1.out.cell 3; have kW1_4 : W1.cell? ⟨w.heap.size, 4, none⟩ = some c4 := HTW1.out.cell 4; have kW1_15 : W1.cell? ⟨w.heap.size, 15, none⟩ = some c15 := HTW1.out.cell 15; have kW1_16 : W1.cell? ⟨w.heap.size, 16, none⟩ = some c16 := HTW1.out.cell 16; have kW1_17 : W1.cell? ⟨w.heap.size, 17, none⟩ = some c17 := HTW1.out.cell 17; have kW1_18 : W1.cell? ⟨w.heap.size, 18, none⟩ = some c18 := HTW1.out.cell 18; have kW1_19 : W1.cell? ⟨w.heap.size, 19, none⟩ = some c19 := HTW1.out.cell 19; have zzW1 : w.heap.size < W1.heap.size := HTW1.out.lt; have HBW1 : Hid (Below w.heap.size w W1) := Lib.hid (Below.trans (by repeat' (first | (with_reducible assumption) | (with_reducible refine Below.setCell ?_ ?_ _) | (with_reducible refine Below.alloc ?_ ?_ _) | (with_reducible refine Below.drew ?_) | (with_reducible refine below_drewN ?_ _) | (with_reducible exact Below.refl _ _) | (show _ ≤ _; (try simp); (try omega); done) | exact Below.refl _ _ | assumption)) (hbW1.mono (by (try simp); (try omega)))); have HFW1 := Lib.hid hfW1; have HBBW1 := Lib.hid hbW1; clear hfW1 hbW1))
  all_goals
    go_wp2
    go_ret
    have hbl : Below w.heap.size w (W1.alloc (.cells #[c0, c1, c2, c3, c4, d0, d1, d2, d3, d4, c15, c16, c17, c18, c19] 57)) := HBW1.out.alloc (Nat.le_of_lt zzW1) _
    exact ⟨_, rfl, slk3 (has_new _ _ _ _ rfl) (by simp) (FieldE.old HT.out.r hbl) (FieldE.iv HFW1.out ((Below.refl _ _).alloc (Nat.le_refl _) _)) (FieldE.old HT.out.i hbl), ⟨hbl.os, hbl.tape, hbl.output, hbl.size, hbl.block⟩, fun k hk => by cases hk; exact Nat.le_of_lt zzW1⟩
end codeW
end Go.Proofs.YtbopooanmpcepaaGreatDoor
