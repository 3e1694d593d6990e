/- Arbitration: queue.Ahead and the document's order, as numbers; the lent frame. No condition. -/
import Derived.Test.YtomkgnlooheibaaBase
import Derived.Test.YtomkgnlooheibaaProg
import Derived.Test.YtomkgnlooheibaaOrdLaw
import Derived.Deep.RegionHeld3
import Derived.Deep.RegionWith
import Derived.Deep.QuietTactic
import Derived.BigQuiet
namespace Go.Proofs.Ytomkgnlooheibaa
open Go.RowKit Go.Bus Go.Bus.orderK
set_option linter.unusedVariables false

namespace orderK
set_option maxRecDepth 100000 in
set_option maxHeartbeats 1000000 in
theorem order_any (id : Int) (wide : Bool) (sv : Value) (w : World) :
    Calls Try.prog 50 #[.agg #[.int .u32 id, .bool wide, sv]] w fun e w' => e = .returned (.int .u64 (ord id wide)) ∧ Below w.heap.size w w' := by
  cases wide
  · go_enter Try.func50, Try.ntmps50
    go_wp2
    go_ret
    exact ⟨rfl, (Below.refl _ _).alloc (Nat.le_refl _) _⟩
  · go_enter Try.func50, Try.ntmps50
    go_wp2
    go_ret
    exact ⟨rfl, (Below.refl _ _).alloc (Nat.le_refl _) _⟩

set_option maxRecDepth 100000 in
set_option maxHeartbeats 4000000 in
theorem ahead_any (i j : Int) (a b : Bool) (u v : Value) (w : World) :
    Calls Try.prog 37 #[.agg #[.int .u32 i, .bool a, u], .agg #[.int .u32 j, .bool b, v]] w fun e w' => e = .returned (.bool (decide (ord i a < ord j b))) ∧ Below w.heap.size w w' := by
  go_enter Try.func37, Try.ntmps37
  go_wp2
  go_region_held3 (fun w' => w'.cell? ⟨w.heap.size, 0, none⟩ = some (.int .u32 i) ∧ w'.cell? ⟨w.heap.size, 1, none⟩ = some (.bool a) ∧ w'.cell? ⟨w.heap.size, 2, none⟩ = some u ∧
      w'.cell? ⟨w.heap.size + 1, 0, none⟩ = some (.int .u32 j) ∧ w'.cell? ⟨w.heap.size + 1, 1, none⟩ = some (.bool b) ∧ w'.cell? ⟨w.heap.size + 1, 2, none⟩ = some v ∧ Below w.heap.size w w' ∧ w.heap.size + 2 ≤ w'.heap.size)
    (first | exact ⟨by go_simp, by go_simp, by go_simp, by go_simp, by go_simp, by go_simp, (((Below.refl _ _).alloc (Nat.le_refl _) _).alloc (by simp) _).drew, by simp⟩
           | (refine ⟨?_, ?_, ?_, ?_, ?_, ?_, ?_, ?_⟩ <;> first | assumption | exact (hb.cell (p := ⟨_, _, none⟩) (by dsimp only; omega)).trans (by assumption)))
    (first | (go_at_call 50; refine (order_any _ _ _ _).mono ?_; rintro e w1 ⟨rfl, hb⟩; (try go_split_ands); have hB : Below w.heap.size w w1 := Below.trans ‹Below w.heap.size w _› (hb.mono (by first | omega | (simp; omega))); have hz : w.heap.size + 2 ≤ w1.heap.size := Nat.le_trans ‹w.heap.size + 2 ≤ _› hb.size))
  go_wp2
  go_ret
  exact ⟨rfl, by assumption⟩

end orderK
end Go.Proofs.Ytomkgnlooheibaa
