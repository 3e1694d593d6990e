/- The marks of texts and rows (busbarkit). No condition. -/
import Derived.Test.YtllbpanfhlbbgaaDoorBase
import Derived.Test.YtllbpanfhlbbgaaDoorRes
import Derived.Test.YtllbpanfhlbbgaaDoorProg
import Derived.Laws.BytesArg
namespace Go.Proofs.YtllbpanfhlbbgaaDoor
open Go.RowKit Go.Bus
set_option linter.unusedVariables false
namespace textsK
def markT (i : Int) : ByteArray := strOfNums [35, 90, 0, i % 256, i / 256 % 256]

set_option maxRecDepth 100000 in
set_option maxHeartbeats 1000000 in
theorem mark_any (i : Int) (w : World) (h1 : -4611686018427387904 ≤ i) (h2 : i ≤ 4611686018427387904) :
    Calls Tryd.prog 89 #[.int .i64 90, .int .i64 i] w fun e w' => e = .returned (.string (markT i)) ∧ Below w.heap.size w w' := by
  have hcv := run_convert_bytes_arg (P := Tryd.prog) (w.alloc (.cells #[.int .u8 35, .int .u8 90, .int .u8 0, .int .u8 (i % 256), .int .u8 (i / 256 % 256)] 5)) 145 5 Tryd.underlying145 Tryd.underlying5 w.heap.size 0 5 5 [35, 90, 0, i % 256, i / 256 % 256] rfl (by
    intro j hj
    rw [Nat.zero_add, (Has.new w _ _).cell j]
    match j, hj with
    | 0, _ => rfl
    | 1, _ => rfl
    | 2, _ => rfl
    | 3, _ => rfl
    | 4, _ => rfl) 9 Tryd.underlying9
  have hcv2 : (convert 145 9 (.slice (some ⟨w.heap.size, 0, none⟩) 5 5)).run Tryd.prog (w.alloc (.cells #[.int .u8 35, .int .u8 90, .int .u8 0, .int .u8 (i % 256), .int .u8 (i / 256 % 256)] 5)) = .ok (.string (markT i)) (w.alloc (.cells #[.int .u8 35, .int .u8 90, .int .u8 0, .int .u8 (i % 256), .int .u8 (i / 256 % 256)] 5)) := hcv
  have HC := Lib.hid hcv2
  clear hcv hcv2
  go_enter Tryd.func89, Tryd.ntmps89
  go_wp2_with (simp only [HC.out])
  go_ret
  exact ⟨rfl, (by repeat' (first | (with_reducible assumption) | (with_reducible refine Below.setCell ?_ ?_ _) | (with_reducible refine Below.alloc ?_ ?_ _) | (with_reducible refine Below.drew ?_) | (with_reducible refine below_drewN ?_ _) | (with_reducible exact Below.refl _ _) | (show _ ≤ _; (try simp); (try omega); done) | exact Below.refl _ _ | assumption))⟩

set_option maxRecDepth 100000 in
set_option maxHeartbeats 1000000 in
theorem marks_any (i : Int) (w : World) (h1 : -4611686018427387904 ≤ i) (h2 : i ≤ 4611686018427387904) :
    Calls Tryd.prog 76 #[.int .i64 90, .int .i64 i] w fun e w' => e = .returned (.string (markT i)) ∧ Below w.heap.size w w' := by
  have HC := Lib.hid (fun w => mark_any i w h1 h2)
  go_enter Tryd.func76, Tryd.ntmps76
  go_wp2_with (go_at_call 89; refine (HC.out _).mono ?_; rintro e w1 ⟨rfl, hb⟩)
  go_ret
  exact ⟨rfl, hb⟩

end textsK
end Go.Proofs.YtllbpanfhlbbgaaDoor
