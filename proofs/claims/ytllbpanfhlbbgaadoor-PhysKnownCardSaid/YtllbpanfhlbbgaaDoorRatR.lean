/- Walk of rat.Right. No condition. -/
import Derived.Test.YtllbpanfhlbbgaaDoorRatW
namespace Go.Proofs.YtllbpanfhlbbgaaDoor
open Go.RowKit Go.Bus Go.Rt
set_option linter.unusedVariables false
namespace ratW
theorem ret_b {a b : Bool} (h : a = b) : Ending.returned (.bool a) = Ending.returned (.bool b) := by rw [h]
def rightB (n d : Int) : Bool := decide (1 ≤ d) && (Nat.gcd n.natAbs d.toNat == 1)
theorem gcd_q (a b : Nat) (ha : a < 18446744073709551616) (hb : b < 18446744073709551616) (w : World) (n : Nat) :
    Calls Tryd.prog 69 #[.int .u64 a, .int .u64 b] (w.drewN n) fun e w' => e = .returned (.int .u64 (Nat.gcd a b : Nat)) ∧ ∃ m, w' = w.drewN m :=
  (gcd_any a b ha hb _).mono fun e w' ⟨he, m, hm⟩ => ⟨he, n + m, hm.trans (World.drewN_drewN _ _ _)⟩
theorem size_q (k : Int) (w : World) (n : Nat) (h1 : -9223372036854775808 ≤ k) (h2 : k < 9223372036854775808) :
    Calls Tryd.prog 53 #[.int .i64 k] (w.drewN n) fun e w' => e = .returned (.int .u64 (k.natAbs : Int)) ∧ ∃ m, w' = w.drewN m :=
  (size_any k _ h1 h2).mono fun e w' ⟨he, hm⟩ => ⟨he, n, hm.symm⟩

set_option maxRecDepth 100000 in
set_option maxHeartbeats 1000000 in
theorem right_any (n d : Int) (w : World) (h1 : -9223372036854775808 ≤ n) (h2 : n < 9223372036854775808) (h4 : d < 9223372036854775808) :
    Calls Tryd.prog 39 #[.agg #[.int .i64 n, .int .i64 d]] w fun e w' => e = .returned (.bool (rightB n d)) ∧ Below w.heap.size w w' := by
  by_cases hd : 1 ≤ d
  · obtain ⟨k, rfl⟩ : ∃ k : Nat, d = k := ⟨d.toNat, by omega⟩
    have d1 : decide ((1 : Int) ≤ (k : Int)) = true := decide_eq_true hd
    have e1 : IntKind.u64.wrap (k : Int) = k := by rw [IntKind.wrap_u64]; omega
    have e2 : rightB n k = (((Nat.gcd n.natAbs k : Nat) : Int) == 1) := by
      rw [rightB, d1, Bool.true_and, Int.toNat_natCast, Bool.eq_iff_iff]
      simp only [beq_iff_eq]; omega
    have E2 := Lib.hid e2; clear e2
    go_enter Tryd.func39, Tryd.ntmps39
    go_wp2
    go_quiet (first | (go_at_call 53; exact size_q _ _ _ h1 h2) | (go_at_call 69; exact gcd_q _ _ (by omega) (by omega) _ _))
    go_wp2
    go_ret
    exact ⟨ret_b E2.out.symm, (by repeat' (first | (with_reducible assumption) | (with_reducible refine Below.setCell ?_ ?_ _) | (with_reducible refine Below.alloc ?_ ?_ _) | (with_reducible refine Below.drew ?_) | (with_reducible refine below_drewN ?_ _) | (with_reducible exact Below.refl _ _) | (show _ ≤ _; (try simp); (try omega); done) | exact Below.refl _ _ | assumption))⟩
  · have d1 : decide ((1 : Int) ≤ d) = false := decide_eq_false hd
    have e2 : rightB n d = false := by rw [rightB, d1, Bool.false_and]
    have E2 := Lib.hid e2; clear e2
    go_enter Tryd.func39, Tryd.ntmps39
    go_wp2
    go_quiet (fail)
    go_wp2
    go_ret
    exact ⟨ret_b E2.out.symm, (by repeat' (first | (with_reducible assumption) | (with_reducible refine Below.setCell ?_ ?_ _) | (with_reducible refine Below.alloc ?_ ?_ _) | (with_reducible refine Below.drew ?_) | (with_reducible refine below_drewN ?_ _) | (with_reducible exact Below.refl _ _) | (show _ ≤ _; (try simp); (try omega); done) | exact Below.refl _ _ | assumption))⟩
end ratW
end Go.Proofs.YtllbpanfhlbbgaaDoor
