/- The methods of code.table that make fields of their own. No condition. -/
import Derived.Test.YtdjippdcgfcfgaaDoorCodeT
namespace Go.Proofs.YtdjippdcgfcfgaaDoor
open Go.RowKit Go.Bus Go.Bus.cellK Go.Bus.codeK
set_option linter.unusedVariables false
set_option linter.unusedSimpArgs false
namespace codeW
set_option maxRecDepth 100000 in
set_option maxHeartbeats 1000000 in
theorem fits_any {c0 c1 c2 c3 c4 c5 c6 c7 c8 c9 c10 c11 c12 c13 c14 c15 c16 c17 c18 c19 : Value} (w : World) (hT : TabE w (Old w.heap.size) c0 c1 c2 c3 c4 c5 c6 c7 c8 c9 c10 c11 c12 c13 c14 c15 c16 c17 c18 c19) : Calls Tryd.prog 25 #[.agg #[c0, c1, c2, c3, c4, c5, c6, c7, c8, c9, c10, c11, c12, c13, c14, c15, c16, c17, c18, c19]] w (MPost [reg, slot, width, .sign] w) := by
  have HT := Lib.hid hT; clear hT
  go_enter Tryd.func25, Tryd.ntmps25
  go_wp2
  go_region_law (first
    | (go_simp; go_at_call 13; refine (small_any .N 1 64 eS _).mono ?_; rintro e W1 ⟨d0, d1, d2, d3, d4, rfl, hfW1, hbW1⟩; have HTW1 : Hid (Has W1 w.heap.size 62 #[c0, c1, c2, c3, c4, c5, c6, c7, c8, c9, c10, c11, c12, c13, c14, c15, c16, c17, c18, c19]) := Lib.hid (Has.below (by exact Has.new w _ _) hbW1 (by first | (simp; done) | (simp; omega) | omega)); have kW1_0 : W1.cell? ⟨w.heap.size, 0, none⟩ = some c0 := HTW1.out.cell 0; have kW1_1 : W1.cell? ⟨w.heap.size, 1, none⟩ = some c1 := HTW1.out.cell 1; have kW1_2 : W1.cell? ⟨w.heap.size, 2, none⟩ = some c2 := HTW1.out.cell 2; have kW1_3 : W1.cell? ⟨w.heap.size, 3, none⟩ = some c3 := HTW1.out.cell 3; have kW1_4 : W1.cell? ⟨w.heap.size, 4, none⟩ = some c4 := HTW1.out.cell 4; have kW1_10 : W1.cell? ⟨w.heap.size, 10, none⟩ = some c10 := HTW1.out.cell 10; have kW1_11 : W1.cell? ⟨w.heap.size, 11, none⟩ = some c11 := HTW1.out.cell 11; have kW1_12 : W1.cell? ⟨w.heap.size, 12, none⟩ = some c12 := HTW1.out.cell 12; have kW1_13 : W1.cell? ⟨w.heap.size, 13, none⟩ = some c13 := HTW1.out.cell 13; have kW1_14 : W1.cell? ⟨w.heap.size, 14, none⟩ = some c14 := HTW1.out.cell 14; have zzW1 : w.heap.size < W1.heap.size := HTW1.out.lt; have HBW1 : Hid (Below w.heap.size w W1) := Lib.hid (Below.trans (by repeat' (first | (with_reducible assumption) | (with_reducible refine Below.setCell ?_ ?_ _) | (with_reducible refine Below.alloc ?_ ?_ _) | (with_reducible refine Below.drew ?_) | (with_reducible refine below_drewN ?_ _) | (with_reducible exact Below.refl _ _) | (show _ ≤ _; (try simp); (try omega); done) | exact Below.refl _ _ | assumption)) (hbW1.mono (by (try simp); (try omega)))); have HFW1 := Lib.hid hfW1; have HBBW1 := Lib.hid hbW1; clear hfW1 hbW1)
    | (go_simp; go_at_call 48; refine (sign_any _).mono ?_; rintro e W2 ⟨g0, g1, g2, g3, g4, rfl, hfW2, hbW2⟩; have HTW2 : Hid (Has W2 w.heap.size 62 #[c0, c1, c2, c3, c4, c5, c6, c7, c8, c9, c10, c11, c12, c13, c14, c15, c16, c17, c18, c19]) := Lib.hid (Has.below (by exact HTW1.out) hbW2 (by first | (simp; done) | (simp; omega) | omega)); have kW2_0 : W2.cell? ⟨w.heap.size, 0, none⟩ = some c0 := HTW2.out.cell 0; have kW2_1 : W2.cell? ⟨w.heap.size, 1, none⟩ = some c1 := HTW2.out.cell 1; have kW2_2 : W2.cell? ⟨w.heap.size, 2, none⟩ = some c2 := HTW2.out.cell 2; have kW2_3 : W2.cell? ⟨w.heap.size, 3, none⟩ = some c3 := HTW2.out.cell 3; have kW2_4 : W2.cell? ⟨w.heap.size, 4, none⟩ = some c4 := HTW2.out.cell 4; have kW2_10 : W2.cell? ⟨w.heap.size, 10, none⟩ = some c10 := HTW2.out.cell 10; have kW2_11 : W2.cell? ⟨w.heap.size, 11, none⟩ = some c11 := HTW2.out.cell 11; have kW2_12 : W2.cell? ⟨w.heap.size, 12, none⟩ = some c12 := HTW2.out.cell 12; have kW2_13 : W2.cell? ⟨w.heap.size, 13, none⟩ = some c13 := HTW2.out.cell 13; have kW2_14 : W2.cell? ⟨w.heap.size, 14, none⟩ = some c14 := HTW2.out.cell 14; have zzW2 : w.heap.size < W2.heap.size := HTW2.out.lt; have HBW2 : Hid (Below w.heap.size w W2) := Lib.hid (Below.trans HBW1.out ((by exact hbW2 : Below W1.heap.size W1 W2).mono (Nat.le_of_lt zzW1))); have HFW2 := Lib.hid hfW2; have HBBW2 := Lib.hid hbW2; clear hfW2 hbW2))
  all_goals
    go_wp2
    go_ret
    have hbl : Below w.heap.size w (W2.alloc (.cells #[c0, c1, c2, c3, c4, c10, c11, c12, c13, c14, d0, d1, d2, d3, d4, g0, g1, g2, g3, g4] 54)) := HBW2.out.alloc (Nat.le_of_lt zzW2) _
    exact ⟨_, rfl, slk4 (has_new _ _ _ _ rfl) (by simp) (FieldE.old HT.out.r hbl) (FieldE.old HT.out.s hbl) (FieldE.iv HFW1.out ((by exact HBBW2.out : Below W1.heap.size W1 W2).alloc (by exact HBBW2.out.size) _)) (FieldE.iv HFW2.out ((Below.refl _ _).alloc (Nat.le_refl _) _)), ⟨hbl.os, hbl.tape, hbl.output, hbl.size, hbl.block⟩, fun k hk => by cases hk; exact Nat.le_of_lt zzW2⟩
end codeW
end Go.Proofs.YtdjippdcgfcfgaaDoor
