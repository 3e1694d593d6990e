/- The marks of texts and rows (busbarkit). No condition. -/
import Derived.Test.YtkfmbhmfegkedaaBase
import Derived.Test.YtkfmbhmfegkedaaRes
import Derived.Test.YtkfmbhmfegkedaaProg
import Derived.Laws.BytesArg
namespace Go.Proofs.Ytkfmbhmfegkedaa
open Go.RowKit Go.Bus
set_option linter.unusedVariables false
namespace textsK
def markT (i : Int) : ByteArray := strOfNums [35, 90, 0, i % 256, i / 256 % 256]

set_option maxRecDepth 100000 in
set_option maxHeartbeats 1000000 in
theorem mark_any (i : Int) (w : World) (h1 : -4611686018427387904 ≤ i) (h2 : i ≤ 4611686018427387904) :
    Calls Try.prog 53 #[.int .i64 90, .int .i64 i] w fun e w' => e = .returned (.string (markT i)) ∧ Below w.heap.size w w' := by
  have hcv := run_convert_bytes_arg (P := Try.prog) (w.alloc (.cells #[.int .u8 35, .int .u8 90, .int .u8 0, .int .u8 (i % 256), .int .u8 (i / 256 % 256)] 5)) 83 5 Try.underlying83 Try.underlying5 w.heap.size 0 5 5 [35, 90, 0, i % 256, i / 256 % 256] rfl (by
    intro j hj
    rw [Nat.zero_add, (Has.new w _ _).cell j]
    match j, hj with
    | 0, _ => rfl
    | 1, _ => rfl
    | 2, _ => rfl
    | 3, _ => rfl
    | 4, _ => rfl) 9 Try.underlying9
  have hcv2 : (convert 83 9 (.slice (some ⟨w.heap.size, 0, none⟩) 5 5)).run Try.prog (w.alloc (.cells #[.int .u8 35, .int .u8 90, .int .u8 0, .int .u8 (i % 256), .int .u8 (i / 256 % 256)] 5)) = .ok (.string (markT i)) (w.alloc (.cells #[.int .u8 35, .int .u8 90, .int .u8 0, .int .u8 (i % 256), .int .u8 (i / 256 % 256)] 5)) := hcv
  have HC := Lib.hid hcv2
  clear hcv hcv2
  go_enter Try.func53, Try.ntmps53
  go_wp2_with (simp only [HC.out])
  go_ret
  exact ⟨rfl, (by repeat' (first | (with_reducible assumption) | (with_reducible refine Below.setCell ?_ ?_ _) | (with_reducible refine Below.alloc ?_ ?_ _) | (with_reducible refine Below.drew ?_) | (with_reducible refine below_drewN ?_ _) | (with_reducible exact Below.refl _ _) | (show _ ≤ _; (try simp); (try omega); done) | exact Below.refl _ _ | assumption))⟩

set_option maxRecDepth 100000 in
set_option maxHeartbeats 1000000 in
theorem marks_any (i : Int) (w : World) (h1 : -4611686018427387904 ≤ i) (h2 : i ≤ 4611686018427387904) :
    Calls Try.prog 54 #[.int .i64 90, .int .i64 i] w fun e w' => e = .returned (.string (markT i)) ∧ Below w.heap.size w w' := by
  have HC := Lib.hid (fun w => mark_any i w h1 h2)
  go_enter Try.func54, Try.ntmps54
  go_wp2_with (go_at_call 53; refine (HC.out _).mono ?_; rintro e w1 ⟨rfl, hb⟩)
  go_ret
  exact ⟨rfl, hb⟩

set_option maxRecDepth 100000 in
set_option maxHeartbeats 1000000 in
theorem markr_any (i : Int) (w : World) (h1 : -4611686018427387904 ≤ i) (h2 : i ≤ 4611686018427387904) :
    Calls Try.prog 40 #[.int .i64 90, .int .i64 i] w fun e w' => e = .returned (.agg #[.int .i64 (-7), .string (markT i)]) ∧ Below w.heap.size w w' := by
  have HC := Lib.hid (fun w => mark_any i w h1 h2)
  go_enter Try.func40, Try.ntmps40
  go_wp2_with (go_at_call 53; refine (HC.out _).mono ?_; rintro e w1 ⟨rfl, hb⟩; have hz := hb.size; (try simp at hz); have HR := Lib.hid (show Has w1 w.heap.size 54 #[.int .i64 0, .string ⟨#[]⟩] from Has.below (by exact Has.new w _ _) hb (by (try simp); (try omega))); have HB : Hid (Below w.heap.size w w1) := Lib.hid (Below.trans (by repeat' (first | (with_reducible assumption) | (with_reducible refine Below.setCell ?_ ?_ _) | (with_reducible refine Below.alloc ?_ ?_ _) | (with_reducible refine Below.drew ?_) | (with_reducible refine below_drewN ?_ _) | (with_reducible exact Below.refl _ _) | (show _ ≤ _; (try simp); (try omega); done) | exact Below.refl _ _ | assumption)) (hb.mono (by (try simp); (try omega)))); clear hb; have c0 : w1.cell? ⟨w.heap.size, 0, none⟩ = some (.int .i64 0) := HR.out.cell 0; have c1 : w1.cell? ⟨w.heap.size, 1, none⟩ = some (.string ⟨#[]⟩) := HR.out.cell 1; have f0 : w1.frozen? ⟨w.heap.size, 0, none⟩ = false := HR.out.frozen 0; have f1 : w1.frozen? ⟨w.heap.size, 1, none⟩ = false := HR.out.frozen 1)
  refine bodyPost_ret (results_block (g := w.heap.size) (T := 54) rfl rfl (by exact (HR.out.set 0 _).set 1 _) rfl Try.underlying54 rfl (by kernel_rfl)) rfl ?_
  have hB := HB.out
  exact ⟨rfl, (by repeat' (first | (with_reducible assumption) | (with_reducible refine Below.setCell ?_ ?_ _) | (with_reducible refine Below.alloc ?_ ?_ _) | (with_reducible refine Below.drew ?_) | (with_reducible refine below_drewN ?_ _) | (with_reducible exact Below.refl _ _) | (show _ ≤ _; (try simp); (try omega); done) | exact Below.refl _ _ | assumption))⟩
end textsK
end Go.Proofs.Ytkfmbhmfegkedaa
