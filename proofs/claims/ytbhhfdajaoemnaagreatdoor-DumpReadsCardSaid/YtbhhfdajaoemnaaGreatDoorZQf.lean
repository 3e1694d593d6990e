/- Texts of this claim, one behind the other. No condition but those that each states. -/
import Derived.Test.YtbhhfdajaoemnaaGreatDoorErrAs2
import Derived.Deep.RegionHeld3
import Derived.Outline

namespace Go.Proofs.YtbhhfdajaoemnaaGreatDoor
open Go.RowKit Go.Bus Go.Extern.Stop Go.Stop Go.Extern
set_option linter.unusedVariables false
namespace asK
set_option maxRecDepth 100000 in
set_option maxHeartbeats 1000000 in
theorem plain_nil (w : World) : Calls Tryz.prog 16 #[.nilIface, .int .i64 0] w fun e w' => e = .returned (.bool true) ∧ Below w.heap.size w w' := by
  go_enter Tryz.func16, Tryz.ntmps16
  go_wp2_with fail
  refine (isK.num_nil _).mono ?_
  rintro e w1 ⟨rfl, rfl⟩
  go_wp2
  go_ret
  exact ⟨rfl, (by repeat' (first | (with_reducible assumption) | (with_reducible refine Below.setCell ?_ ?_ _) | (with_reducible refine Below.alloc ?_ ?_ _) | (with_reducible refine Below.drew ?_) | (with_reducible refine below_drewN ?_ _) | (with_reducible exact Below.refl _ _) | (show _ ≤ _; (try simp); (try omega); done) | exact Below.refl _ _ | assumption))⟩

set_option maxRecDepth 100000 in
set_option maxHeartbeats 1000000 in
theorem plain_no (a : Int) (w : World) (h1 : 1 ≤ a) (h2 : a ≤ 26) (hg : ErrT w) : Calls Tryz.prog 16 #[.iface 74 (.int .i64 a), .int .i64 a] w fun e w' => e = .returned (.bool true) ∧ Below w.heap.size w w' := by
  have d : (a == a) = true := by simp
  have HG := Lib.hid hg; clear hg
  go_enter Tryz.func16, Tryz.ntmps16
  go_wp2_with fail
  refine (isK.num_no a _ h1 h2).mono ?_
  rintro e w1 ⟨rfl, rfl⟩
  go_wp2_with fail
  refine (as_no a _ _ (HG.out.at_below (by repeat' (first | (with_reducible assumption) | (with_reducible refine Below.setCell ?_ ?_ _) | (with_reducible refine Below.alloc ?_ ?_ _) | (with_reducible refine Below.drew ?_) | (with_reducible refine below_drewN ?_ _) | (with_reducible exact Below.refl _ _) | (show _ ≤ _; (try simp); (try omega); done) | exact Below.refl _ _ | assumption)))).mono ?_
  rintro e w1 ⟨rfl, hb1⟩
  have hB : Below w.heap.size w w1 := Below.trans (by repeat' (first | (with_reducible assumption) | (with_reducible refine Below.setCell ?_ ?_ _) | (with_reducible refine Below.alloc ?_ ?_ _) | (with_reducible refine Below.drew ?_) | (with_reducible refine below_drewN ?_ _) | (with_reducible exact Below.refl _ _) | (show _ ≤ _; (try simp); (try omega); done) | exact Below.refl _ _ | assumption)) (hb1.mono (by simp))
  have HB := Lib.hid hB
  clear hb1 hB
  go_wp2
  go_ret
  exact ⟨rfl, HB.out⟩

end asK
end Go.Proofs.YtbhhfdajaoemnaaGreatDoor

namespace Go.Proofs.YtbhhfdajaoemnaaGreatDoor
open Go.RowKit Go.Bus Go.Extern.Stop Go.Stop Go.Extern
set_option linter.unusedVariables false
namespace asK
set_option maxRecDepth 100000 in
set_option maxHeartbeats 1000000 in
theorem place_fault (a l c : Int) (w : World) (h1 : 1 ≤ a) (h2 : a ≤ 26) (hg : ErrT w) : Calls Tryz.prog 10 #[.iface 78 (.agg #[.int .i64 a, .int .i64 l, .int .i64 c])] w fun e w' => e = .returned (.tuple #[.int .i64 l, .int .i64 c, .bool true]) ∧ Below w.heap.size w w' := by
  have d : (a == a) = true := by simp
  have HG := Lib.hid hg; clear hg
  go_enter Tryz.func10, Tryz.ntmps10
  go_wp2_with fail
  refine (as_fault a l c 0 0 0 _ _ (HG.out.at_below (by repeat' (first | (with_reducible assumption) | (with_reducible refine Below.setCell ?_ ?_ _) | (with_reducible refine Below.alloc ?_ ?_ _) | (with_reducible refine Below.drew ?_) | (with_reducible refine below_drewN ?_ _) | (with_reducible exact Below.refl _ _) | (show _ ≤ _; (try simp); (try omega); done) | exact Below.refl _ _ | assumption))) (by exact Has.new w _ _)).mono ?_
  rintro e w1 ⟨rfl, hF, hb1⟩
  have hb := hb1 w.heap.size (Nat.le_refl _)
  have c0 := hF.cell 0
  have c1 := hF.cell 1
  have c2 := hF.cell 2
  simp at c0 c1 c2
  have hB : Below w.heap.size w w1 := Below.trans (by repeat' (first | (with_reducible assumption) | (with_reducible refine Below.setCell ?_ ?_ _) | (with_reducible refine Below.alloc ?_ ?_ _) | (with_reducible refine Below.drew ?_) | (with_reducible refine below_drewN ?_ _) | (with_reducible exact Below.refl _ _) | (show _ ≤ _; (try simp); (try omega); done) | exact Below.refl _ _ | assumption)) hb
  have hz := hF.lt
  clear hF hb1 hb
  go_wp2
  go_region_held3 (fun w' => w'.cell? ⟨w.heap.size, 0, none⟩ = some (.int .i64 a) ∧ w'.cell? ⟨w.heap.size, 1, none⟩ = some (.int .i64 l) ∧ w'.cell? ⟨w.heap.size, 2, none⟩ = some (.int .i64 c) ∧ Below w.heap.size w w' ∧ w.heap.size + 1 ≤ w'.heap.size)
    (first | exact ⟨by go_simp, by go_simp, by go_simp, Below.drew ‹Below w.heap.size w w1›, by (try simp); omega⟩
           | (refine ⟨?_, ?_, ?_, ?_, ?_⟩ <;> first | assumption | exact (hb.cell (p := ⟨_, _, none⟩) (by dsimp only; omega)).trans (by assumption)))
    (first | (go_at_call 12; refine (isK.num_fault a l c _ h1 h2).mono ?_; rintro e w2 ⟨rfl, hb⟩; (try go_split_ands); have hB : Below w.heap.size w w2 := Below.trans ‹Below w.heap.size w _› (hb.mono (by omega)); have hz : w.heap.size + 1 ≤ w2.heap.size := Nat.le_trans ‹w.heap.size + 1 ≤ _› hb.size))
  go_wp2
  go_ret3
  exact ⟨rfl, by assumption⟩

set_option maxRecDepth 100000 in
set_option maxHeartbeats 1000000 in
theorem at_fault (a l c : Int) (w : World) (h1 : 1 ≤ a) (h2 : a ≤ 26) (hg : ErrT w) : Calls Tryz.prog 11 #[.iface 78 (.agg #[.int .i64 a, .int .i64 l, .int .i64 c]), .int .i64 a, .int .i64 l, .int .i64 c] w fun e w' => e = .returned (.bool true) ∧ Below w.heap.size w w' := by
  have d : (a == a) = true := by simp
  have dl : (l == l) = true := by simp
  have dc : (c == c) = true := by simp
  have d0 : (a == 0) = false := by simp; omega
  have HG := Lib.hid hg; clear hg
  go_enter Tryz.func11, Tryz.ntmps11
  go_wp2_with fail
  refine (place_fault a l c _ h1 h2 HG.out).mono ?_
  rintro e w1 ⟨rfl, hb1⟩
  have HB := Lib.hid hb1
  clear hb1
  go_wp2_with fail
  refine (isK.num_fault a l c _ h1 h2).mono ?_
  rintro e w2 ⟨rfl, hb2⟩
  have HB2 := Lib.hid (HB.out.trans (hb2.mono HB.out.size))
  clear hb2
  go_wp2
  go_ret
  exact ⟨rfl, HB2.out⟩

set_option maxRecDepth 100000 in
set_option maxHeartbeats 1000000 in
theorem at_nil (l c : Int) (w : World) : Calls Tryz.prog 11 #[.nilIface, .int .i64 0, .int .i64 l, .int .i64 c] w fun e w' => e = .returned (.bool true) ∧ Below w.heap.size w w' := by
  go_enter Tryz.func11, Tryz.ntmps11
  go_wp2
  go_ret
  exact ⟨rfl, (by repeat' (first | (with_reducible assumption) | (with_reducible refine Below.setCell ?_ ?_ _) | (with_reducible refine Below.alloc ?_ ?_ _) | (with_reducible refine Below.drew ?_) | (with_reducible refine below_drewN ?_ _) | (with_reducible exact Below.refl _ _) | (show _ ≤ _; (try simp); (try omega); done) | exact Below.refl _ _ | assumption))⟩
end asK
end Go.Proofs.YtbhhfdajaoemnaaGreatDoor
