/- Walk of busbarlaw11.half. No condition. -/
import Derived.Test.YtllbpanfhlbbgaaDoorPhysV
namespace Go.Proofs.YtllbpanfhlbbgaaDoor
open Go.RowKit Go.Bus Go.Rt Go.Bus.dbK Go.Bus.rawK
set_option linter.unusedVariables false
set_option linter.unusedSimpArgs false
namespace physW
open ratW
def halfS (b : Bool) : Sig := ⟨0, 0, ⟨#[]⟩, 0, 0, 0, 8, false, b, 1, 2, -40, 1, 0, 1, 0, 1, ⟨#[]⟩, []⟩
theorem half_ok (b : Bool) : RatsOk (halfS b) := by constructor <;> simp [halfS]

theorem half_build (b : Bool) (w : World) : (Instr.build 29 #[(5, .int .i64 8), (7, .bool b), (8, .agg #[.int .i64 1, .int .i64 2]), (9, .agg #[.int .i64 (-40), .int .i64 1]), (10, .agg #[.int .i64 0, .int .i64 1]), (11, .agg #[.int .i64 0, .int .i64 1])]).run Tryd.prog w = .ok (.agg (csOf (halfS b) (.slice none 0 0))) w := by kernel_rfl

set_option maxRecDepth 100000 in
set_option maxHeartbeats 2000000 in
theorem half_val (b : Bool) (w : World) : Cl1 13 #[.bool b] (sigV (halfS b) (.slice none 0 0)) w := by
  rw [sigV_cs]
  have HI := cs_info (halfS b) (.slice none 0 0)
  have HZ := Lib.hid (show (#[.int .i64 0, .int .i64 0, .string ⟨#[]⟩, .int .i64 0, .int .u64 0, .int .i64 0, .int .i64 0, .bool false, .bool false, .int .i64 0, .int .i64 0, .int .i64 0, .int .i64 0, .int .i64 0, .int .i64 0, .int .i64 0, .int .i64 0, .string ⟨#[]⟩, .slice none 0 0] : Array Value).size = (csOf (halfS b) (.slice none 0 0)).size from rfl)
  have H1 := cs_one (halfS b) none 0 0
  go_enter Tryd.func13, Tryd.ntmps13
  go_wp2_with (first | simp only [half_build] | (refine wpList_store_has rfl 29 _ _ rfl w.heap.size rfl rfl (by exact (Has.new w _ _).alloc _) HI.out HZ.out H1.out ?_))
  refine bodyPost_ret (results_block (g := w.heap.size) (T := 29) rfl rfl (by exact ((Has.new w _ _).alloc _).row _) rfl Tryd.underlying29 rfl HI.out) rfl ?_
  exact ⟨rfl, below_setRow (w0 := w) (B := w.heap.size) (by repeat' (first | (with_reducible assumption) | (with_reducible refine Below.setCell ?_ ?_ _) | (with_reducible refine Below.alloc ?_ ?_ _) | (with_reducible refine Below.drew ?_) | (with_reducible refine below_drewN ?_ _) | (with_reducible exact Below.refl _ _) | (show _ ≤ _; (try simp); (try omega); done) | exact Below.refl _ _ | assumption)) (Nat.le_refl _) _⟩
end physW
end Go.Proofs.YtllbpanfhlbbgaaDoor
