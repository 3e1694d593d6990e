/- busbarkit.Pick: a number from 0 to n - 1 out of any k. -/
import Derived.Test.YtomkgnlooheibaaBase
import Derived.Test.YtomkgnlooheibaaProg
namespace Go.Proofs.Ytomkgnlooheibaa
open Go.RowKit Go.Bus
set_option linter.unusedVariables false
namespace pickK
theorem tmod_neg {k n : Int} (hk : k < 0) (hn : 0 < n) : (-n < k.tmod n ∧ k.tmod n ≤ 0) ∧ (k.tmod n < 0 → k.tmod n + n = k % n) ∧ (k.tmod n = 0 → k % n = 0) := by
  obtain ⟨m, rfl⟩ : ∃ m : Int, k = -m := ⟨-k, by omega⟩
  have h1 : (-m).tmod n = -(m % n) := by rw [Int.neg_tmod, Int.tmod_eq_emod_of_nonneg (by omega)]
  have h2 := Int.emod_nonneg m (show n ≠ 0 by omega)
  have h3 := Int.emod_lt_of_pos m hn
  have h4 := Int.mul_ediv_add_emod m n
  rw [h1]
  refine ⟨by omega, fun h => ?_, fun h => ?_⟩
  · have e5 : n * (-(m / n) - 1) = -(n * (m / n)) - n := by rw [Int.mul_sub, Int.mul_neg, Int.mul_one]
    have h5 : -m = (n - m % n) + n * (-(m / n) - 1) := by
      rw [e5]; generalize n * (m / n) = Q at *; generalize m % n = R at *; omega
    rw [h5, Int.add_mul_emod_self_left, Int.emod_eq_of_lt (a := n - m % n) (b := n) (by omega) (by omega)]
    omega
  · have h5 : -m = 0 + n * (-(m / n)) := by rw [Int.mul_neg]; omega
    rw [h5, Int.add_mul_emod_self_left]; rfl

set_option maxRecDepth 100000 in
set_option maxHeartbeats 1000000 in
theorem pick_any (k n : Int) (w : World) (hn : 0 < n) (hn' : n ≤ 9223372036854775807) (hk : -9223372036854775808 ≤ k) (hk' : k ≤ 9223372036854775807) :
    Calls Try.prog 16 #[.int .i64 k, .int .i64 n] w fun e w' => e = .returned (.int .i64 (k % n)) ∧ w = w' := by
  by_cases h0 : 0 ≤ k
  · have h3 := Int.emod_nonneg k (show n ≠ 0 by omega)
    go_enter Try.func16, Try.ntmps16
    go_wp2
    go_ret
    exact ⟨rfl, rfl⟩
  · obtain ⟨⟨h1, h2⟩, h3, h4⟩ := tmod_neg (k := k) (n := n) (by omega) hn
    have H3 := Lib.hid h3; clear h3
    have H4 := Lib.hid h4; clear h4
    by_cases ht : k.tmod n < 0
    · have HT := Lib.hid (H3.out ht)
      go_enter Try.func16, Try.ntmps16
      go_wp2
      go_ret
      exact ⟨ret_int (by first | exact HT.out | omega), rfl⟩
    · have HT := Lib.hid (H4.out (by omega))
      go_enter Try.func16, Try.ntmps16
      go_wp2
      go_ret
      exact ⟨ret_int (by rw [HT.out]; omega), rfl⟩
end pickK
end Go.Proofs.Ytomkgnlooheibaa
