/- Arbitration: queue.Ahead and the document's order, as numbers; the lent frame. No condition. -/
import Derived.Test.YtmbpnfecpioafaaBytes
import Derived.Test.YtmbpnfecpioafaaOrdLaw
import Derived.Deep.RegionHeld3
import Derived.Deep.RegionWith
import Derived.Deep.QuietTactic
import Derived.BigQuiet
namespace Go.Proofs.Ytmbpnfecpioafaa
open Go.RowKit Go.Bus Go.Bus.orderK
set_option linter.unusedVariables false

namespace orderK
set_option maxRecDepth 100000 in
set_option maxHeartbeats 1000000 in
theorem order_any (id : Int) (wide : Bool) (sv : Value) (w : World) :
    Calls Try.prog 69 #[.agg #[.int .u32 id, .bool wide, sv]] w fun e w' => e = .returned (.int .u64 (ord id wide)) ∧ Below w.heap.size w w' := by
  cases wide
  · go_enter Try.func69, Try.ntmps69
    go_wp2
    go_ret
    exact ⟨rfl, (Below.refl _ _).alloc (Nat.le_refl _) _⟩
  · go_enter Try.func69, Try.ntmps69
    go_wp2
    go_ret
    exact ⟨rfl, (Below.refl _ _).alloc (Nat.le_refl _) _⟩

set_option maxRecDepth 100000 in
set_option maxHeartbeats 4000000 in
theorem ahead_any (i j : Int) (a b : Bool) (u v : Value) (w : World) :
    Calls Try.prog 16 #[.agg #[.int .u32 i, .bool a, u], .agg #[.int .u32 j, .bool b, v]] w fun e w' => e = .returned (.bool (decide (ord i a < ord j b))) ∧ Below w.heap.size w w' := by
  go_enter Try.func16, Try.ntmps16
  go_wp2
  go_region_held3 (fun w' => w'.cell? ⟨w.heap.size, 0, none⟩ = some (.int .u32 i) ∧ w'.cell? ⟨w.heap.size, 1, none⟩ = some (.bool a) ∧ w'.cell? ⟨w.heap.size, 2, none⟩ = some u ∧
      w'.cell? ⟨w.heap.size + 1, 0, none⟩ = some (.int .u32 j) ∧ w'.cell? ⟨w.heap.size + 1, 1, none⟩ = some (.bool b) ∧ w'.cell? ⟨w.heap.size + 1, 2, none⟩ = some v ∧ Below w.heap.size w w' ∧ w.heap.size + 2 ≤ w'.heap.size)
    (first | exact ⟨by go_simp, by go_simp, by go_simp, by go_simp, by go_simp, by go_simp, (((Below.refl _ _).alloc (Nat.le_refl _) _).alloc (by simp) _).drew, by simp⟩
           | (refine ⟨?_, ?_, ?_, ?_, ?_, ?_, ?_, ?_⟩ <;> first | assumption | exact (hb.cell (p := ⟨_, _, none⟩) (by dsimp only; omega)).trans (by assumption)))
    (first | (go_at_call 69; refine (order_any _ _ _ _).mono ?_; rintro e w1 ⟨rfl, hb⟩; (try go_split_ands); have hB : Below w.heap.size w w1 := Below.trans ‹Below w.heap.size w _› (hb.mono (by first | omega | (simp; omega))); have hz : w.heap.size + 2 ≤ w1.heap.size := Nat.le_trans ‹w.heap.size + 2 ≤ _› hb.size))
  go_wp2
  go_ret
  exact ⟨rfl, by assumption⟩

set_option maxRecDepth 100000 in
set_option maxHeartbeats 1000000 in
theorem reforder_any (id : Int) (wide : Bool) (sv : Value) (w : World) (h0 : 0 ≤ id) :
    Calls Try.prog 70 #[.agg #[.int .u32 id, .bool wide, sv]] w fun e w' => e = .returned (.tuple #[.int .u32 (ohi id wide), .bool wide, .int .u32 (olo id wide)]) ∧ Below w.heap.size w w' := by
  cases wide
  · go_enter Try.func70, Try.ntmps70
    go_wp2
    go_ret3
    exact ⟨rfl, (by repeat (first | exact Below.refl _ _ | assumption | refine Below.drew ?_ | refine below_drewN ?_ _ | (refine Below.alloc ?_ (by (try simp); (try omega)) _) | (refine Below.setCell ?_ (by (try simp); (try omega)) _)))⟩
  · go_enter Try.func70, Try.ntmps70
    go_wp2
    go_quiet (fail)
    go_wp2
    go_ret3
    exact ⟨rfl, by refine Below.trans ?_ (below_drewN (Below.refl _ _) _); exact (by repeat (first | exact Below.refl _ _ | assumption | refine Below.drew ?_ | refine below_drewN ?_ _ | (refine Below.alloc ?_ (by (try simp); (try omega)) _) | (refine Below.setCell ?_ (by (try simp); (try omega)) _)))⟩

set_option maxRecDepth 100000 in
set_option maxHeartbeats 1000000 in
theorem refahead_any (i j : Int) (a b : Bool) (u v : Value) (w : World) (h0 : 0 ≤ i) (h1 : 0 ≤ j) :
    Calls Try.prog 17 #[.agg #[.int .u32 i, .bool a, u], .agg #[.int .u32 j, .bool b, v]] w fun e w' => e = .returned (.bool (rahead i a j b)) ∧ Below w.heap.size w w' := by
  go_enter Try.func17, Try.ntmps17
  go_wp2_with (go_at_call 70; refine (reforder_any _ _ _ _ (by assumption)).mono ?_; rintro e w1 ⟨rfl, hb⟩; obtain ⟨hc, hf⟩ := bcell hb; have hz := hb.size; (try simp at hz); have hB : Below w.heap.size w w1 := Below.trans (by repeat (first | exact Below.refl _ _ | assumption | refine Below.drew ?_ | refine below_drewN ?_ _ | (refine Below.alloc ?_ (by (try simp); (try omega)) _) | (refine Below.setCell ?_ (by (try simp); (try omega)) _))) (hb.mono (by (try simp); (try omega))))
  all_goals
    go_ret
    refine ⟨?_, hB⟩
    simp_all [rahead]

end orderK
end Go.Proofs.Ytmbpnfecpioafaa
