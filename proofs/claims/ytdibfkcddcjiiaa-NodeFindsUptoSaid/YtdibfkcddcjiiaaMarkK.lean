/- The marks of texts at any list (busbarkit). No condition. -/
import Derived.Test.YtdibfkcddcjiiaaBase
import Derived.Test.YtdibfkcddcjiiaaRes
import Derived.Test.YtdibfkcddcjiiaaProg
import Derived.Laws.BytesArg
namespace Go.Proofs.Ytdibfkcddcjiiaa
open Go.RowKit Go.Bus
set_option linter.unusedVariables false
namespace markK
def markT (k i : Int) : ByteArray := strOfNums [35, k % 256, k / 256 % 256, i % 256, i / 256 % 256]

set_option maxRecDepth 100000 in
set_option maxHeartbeats 1000000 in
theorem mark_any (k i : Int) (w : World) (hk : 0 ≤ k) (hk2 : k ≤ 100000000) (h1 : -4611686018427387904 ≤ i) (h2 : i ≤ 4611686018427387904) :
    Calls Try.prog 71 #[.int .i64 k, .int .i64 i] w fun e w' => e = .returned (.string (markT k i)) ∧ Below w.heap.size w w' := by
  have hcv := run_convert_bytes_arg (P := Try.prog) (w.alloc (.cells #[.int .u8 35, .int .u8 (k % 256), .int .u8 (k / 256 % 256), .int .u8 (i % 256), .int .u8 (i / 256 % 256)] 5)) 127 5 Try.underlying127 Try.underlying5 w.heap.size 0 5 5 [35, k % 256, k / 256 % 256, i % 256, i / 256 % 256] rfl (by
    intro j hj
    rw [Nat.zero_add, (Has.new w _ _).cell j]
    match j, hj with
    | 0, _ => rfl
    | 1, _ => rfl
    | 2, _ => rfl
    | 3, _ => rfl
    | 4, _ => rfl) 9 Try.underlying9
  have hcv2 : (convert 127 9 (.slice (some ⟨w.heap.size, 0, none⟩) 5 5)).run Try.prog (w.alloc (.cells #[.int .u8 35, .int .u8 (k % 256), .int .u8 (k / 256 % 256), .int .u8 (i % 256), .int .u8 (i / 256 % 256)] 5)) = .ok (.string (markT k i)) (w.alloc (.cells #[.int .u8 35, .int .u8 (k % 256), .int .u8 (k / 256 % 256), .int .u8 (i % 256), .int .u8 (i / 256 % 256)] 5)) := hcv
  have HC := Lib.hid hcv2
  clear hcv hcv2
  go_enter Try.func71, Try.ntmps71
  go_wp2_with (simp only [HC.out])
  go_ret
  exact ⟨rfl, (by repeat' (first | (with_reducible assumption) | (with_reducible refine Below.setCell ?_ ?_ _) | (with_reducible refine Below.alloc ?_ ?_ _) | (with_reducible refine Below.drew ?_) | (with_reducible refine below_drewN ?_ _) | (with_reducible exact Below.refl _ _) | (show _ ≤ _; (try simp); (try omega); done) | exact Below.refl _ _ | assumption))⟩

set_option maxRecDepth 100000 in
set_option maxHeartbeats 1000000 in
theorem marks_any (k i : Int) (w : World) (hk : 0 ≤ k) (hk2 : k ≤ 100000000) (h1 : -4611686018427387904 ≤ i) (h2 : i ≤ 4611686018427387904) :
    Calls Try.prog 63 #[.int .i64 k, .int .i64 i] w fun e w' => e = .returned (.string (markT k i)) ∧ Below w.heap.size w w' := by
  have HC := Lib.hid (fun w => mark_any k i w hk hk2 h1 h2)
  go_enter Try.func63, Try.ntmps63
  go_wp2_with (go_at_call 71; refine (HC.out _).mono ?_; rintro e w1 ⟨rfl, hb⟩)
  go_ret
  exact ⟨rfl, hb⟩

end markK
end Go.Proofs.Ytdibfkcddcjiiaa
