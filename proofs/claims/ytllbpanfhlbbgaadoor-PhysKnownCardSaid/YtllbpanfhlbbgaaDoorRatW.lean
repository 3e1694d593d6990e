/- Walks of rat.size, rat.gcd, rat.fit. No condition. -/
import Derived.Test.YtllbpanfhlbbgaaDoorBase
import Derived.Test.YtllbpanfhlbbgaaDoorProg
import Derived.Test.YtllbpanfhlbbgaaDoorRatLaw
import Derived.Deep.QuietTactic
import Derived.BigQuiet
namespace Go.Proofs.YtllbpanfhlbbgaaDoor
open Go.RowKit Go.Bus Go.Rt
set_option linter.unusedVariables false
namespace ratW
theorem ret_u64 {a b : Int} (h : a = b) : Ending.returned (.int .u64 a) = Ending.returned (.int .u64 b) := by rw [h]
def ratV : Option (Int × Int) → Value
  | some (n, d) => .tuple #[.agg #[.int .i64 n, .int .i64 d], .nilIface]
  | none => .tuple #[.agg #[.int .i64 0, .int .i64 0], .iface 64 (.int .i64 9)]

set_option maxRecDepth 100000 in
set_option maxHeartbeats 1000000 in
theorem size_any (n : Int) (w : World) (h1 : -9223372036854775808 ≤ n) (h2 : n < 9223372036854775808) :
    Calls Tryd.prog 53 #[.int .i64 n] w fun e w' => e = .returned (.int .u64 (n.natAbs : Int)) ∧ w = w' := by
  by_cases h : n < 0
  · go_enter Tryd.func53, Tryd.ntmps53
    go_wp2
    go_ret
    exact ⟨ret_u64 (by (try simp only [IntKind.wrap_u64]); omega), rfl⟩
  · go_enter Tryd.func53, Tryd.ntmps53
    go_wp2
    go_ret
    exact ⟨ret_u64 (by (try simp only [IntKind.wrap_u64]); omega), rfl⟩

set_option maxRecDepth 100000 in
set_option maxHeartbeats 1000000 in
theorem gcd_any (a b : Nat) (ha : a < 18446744073709551616) (hb : b < 18446744073709551616) (w : World) :
    Calls Tryd.prog 69 #[.int .u64 a, .int .u64 b] w fun e w' => e = .returned (.int .u64 (Nat.gcd a b : Nat)) ∧ ∃ n, w' = w.drewN n := by
  go_enter Tryd.func69, Tryd.ntmps69
  go_wp2
  go_loopw [0, 1] (fun a' b' wr => ∃ x y n : Nat, a' = .int .u64 x ∧ b' = .int .u64 y ∧ x < 18446744073709551616 ∧ y < 18446744073709551616 ∧ Hid (Nat.gcd x y = Nat.gcd a b) ∧ wr = w.drewN n) (fun _ b' _ => (intOf b').toNat)
  case atStart => exact ⟨a, b, 0, rfl, rfl, ha, hb, Lib.hid rfl, rfl⟩
  case round =>
    obtain ⟨x, y, n, rfl, rfl, hx, hy, hg, rfl⟩ := hrel
    by_cases h0 : y = 0
    · subst h0
      go_wp2
      go_ret
      exact ⟨ret_u64 (by have := hg.out; rw [Nat.gcd_zero_right] at this; rw [this]), _, rfl⟩
    · have hne : ((y : Int) == 0) = false := by simp; omega
      have hm := Nat.mod_lt x (show 0 < y by omega)
      go_wp2
      go_quiet (fail)
      go_wp2
      go_roundw
      case rel => exact ⟨y, x % y, _, rfl, by go_num, hy, by omega, Lib.hid (by rw [← hg.out, Nat.gcd_comm x y, Nat.gcd_rec y x, Nat.gcd_comm]), World.drewN_drewN _ _ _⟩
      case measure => simp [intOf]; omega

set_option maxHeartbeats 2000000 in
set_option maxRecDepth 100000 in
theorem fit_any (neg : Bool) (a b c d : Nat) (ha : a < 18446744073709551616) (hb : b < 18446744073709551616) (hc : c < 18446744073709551616) (hd : d < 18446744073709551616) (w : World) :
    Calls Tryd.prog 79 #[.bool neg, .int .u64 a, .int .u64 b, .int .u64 c, .int .u64 d] w fun e w' => e = .returned (ratV (fitN neg (a * 18446744073709551616 + b) (c * 18446744073709551616 + d))) ∧ Below w.heap.size w w' := by
  by_cases ha0 : a = 0
  · subst ha0
    by_cases hb0 : b = 0
    · subst hb0
      have hf : fitN neg (0 * 18446744073709551616 + 0) (c * 18446744073709551616 + d) = some (0, 1) := by simp [fitN]
      have HF := Lib.hid hf; clear hf
      go_enter Tryd.func79, Tryd.ntmps79
      go_wp2
      refine bodyPost_ret (v := .tuple #[.agg #[.int .i64 0, .int .i64 1], .nilIface]) (by simp [results, Tryd.results79, go_sem]) rfl ?_
      exact ⟨by rw [HF.out]; rfl, (by repeat' (first | (with_reducible assumption) | (with_reducible refine Below.setCell ?_ ?_ _) | (with_reducible refine Below.alloc ?_ ?_ _) | (with_reducible refine Below.drew ?_) | (with_reducible refine below_drewN ?_ _) | (with_reducible exact Below.refl _ _) | (show _ ≤ _; (try simp); (try omega); done) | exact Below.refl _ _ | assumption))⟩
    · have e0 : ((b : Int) == 0) = false := by simp; omega
      by_cases hc0 : c = 0
      · subst hc0
        by_cases hd0 : 9223372036854775808 ≤ d
        · have e1 : decide ((9223372036854775807 : Int) < (d : Int)) = true := decide_eq_true (by omega)
          have hf : fitN neg (0 * 18446744073709551616 + b) (0 * 18446744073709551616 + d) = none := by unfold fitN; rw [if_neg (by omega), if_neg (by omega)]
          have HF := Lib.hid hf; clear hf
          go_enter Tryd.func79, Tryd.ntmps79
          go_wp2
          refine bodyPost_ret (v := .tuple #[.agg #[.int .i64 0, .int .i64 0], .iface 64 (.int .i64 9)]) (by simp [results, Tryd.results79, go_sem]) rfl ?_
          exact ⟨by rw [HF.out]; rfl, (by repeat' (first | (with_reducible assumption) | (with_reducible refine Below.setCell ?_ ?_ _) | (with_reducible refine Below.alloc ?_ ?_ _) | (with_reducible refine Below.drew ?_) | (with_reducible refine below_drewN ?_ _) | (with_reducible exact Below.refl _ _) | (show _ ≤ _; (try simp); (try omega); done) | exact Below.refl _ _ | assumption))⟩
        · have e1 : decide ((9223372036854775807 : Int) < (d : Int)) = false := decide_eq_false (by omega)
          by_cases hb1 : 9223372036854775808 < b
          · have e2 : decide ((9223372036854775808 : Int) < (b : Int)) = true := decide_eq_true (by omega)
            have hf : fitN neg (0 * 18446744073709551616 + b) (0 * 18446744073709551616 + d) = none := by unfold fitN; rw [if_neg (by omega), if_neg (by omega)]
            have HF := Lib.hid hf; clear hf
            go_enter Tryd.func79, Tryd.ntmps79
            go_wp2
            refine bodyPost_ret (v := .tuple #[.agg #[.int .i64 0, .int .i64 0], .iface 64 (.int .i64 9)]) (by simp [results, Tryd.results79, go_sem]) rfl ?_
            exact ⟨by rw [HF.out]; rfl, (by repeat' (first | (with_reducible assumption) | (with_reducible refine Below.setCell ?_ ?_ _) | (with_reducible refine Below.alloc ?_ ?_ _) | (with_reducible refine Below.drew ?_) | (with_reducible refine below_drewN ?_ _) | (with_reducible exact Below.refl _ _) | (show _ ≤ _; (try simp); (try omega); done) | exact Below.refl _ _ | assumption))⟩
          · have e2 : decide ((9223372036854775808 : Int) < (b : Int)) = false := decide_eq_false (by omega)
            by_cases hb2 : b = 9223372036854775808
            · have e3 : ((b : Int) == 9223372036854775808) = true := by subst hb2; rfl
              have e4 : IntKind.i64.wrap (IntKind.u64.wrap (-(b : Int))) = -(b : Int) := by rw [IntKind.wrap_u64, IntKind.wrap_i64]; omega
              have e5 : IntKind.i64.wrap (d : Int) = (d : Int) := by rw [IntKind.wrap_i64]; omega
              have HB2 := Lib.hid hb2; clear hb2
              cases neg
              · have hf : fitN false (0 * 18446744073709551616 + b) (0 * 18446744073709551616 + d) = none := by have := HB2.out; unfold fitN; rw [if_neg (by omega), if_neg (by simp; omega)]
                have HF := Lib.hid hf; clear hf
                go_enter Tryd.func79, Tryd.ntmps79
                go_wp2
                refine bodyPost_ret (v := .tuple #[.agg #[.int .i64 0, .int .i64 0], .iface 64 (.int .i64 9)]) (by simp [results, Tryd.results79, go_sem]) rfl ?_
                exact ⟨by rw [HF.out]; rfl, (by repeat' (first | (with_reducible assumption) | (with_reducible refine Below.setCell ?_ ?_ _) | (with_reducible refine Below.alloc ?_ ?_ _) | (with_reducible refine Below.drew ?_) | (with_reducible refine below_drewN ?_ _) | (with_reducible exact Below.refl _ _) | (show _ ≤ _; (try simp); (try omega); done) | exact Below.refl _ _ | assumption))⟩
              · have hf : fitN true (0 * 18446744073709551616 + b) (0 * 18446744073709551616 + d) = some (-(b : Int), (d : Int)) := by have := HB2.out; unfold fitN; rw [if_neg (by omega), if_pos (by simp; omega)]; simp
                have HF := Lib.hid hf; clear hf
                go_enter Tryd.func79, Tryd.ntmps79
                go_wp2
                refine bodyPost_ret (v := .tuple #[.agg #[.int .i64 (-(b : Int)), .int .i64 (d : Int)], .nilIface]) (by simp [results, Tryd.results79, go_sem]) rfl ?_
                exact ⟨by rw [HF.out]; rfl, (by repeat' (first | (with_reducible assumption) | (with_reducible refine Below.setCell ?_ ?_ _) | (with_reducible refine Below.alloc ?_ ?_ _) | (with_reducible refine Below.drew ?_) | (with_reducible refine below_drewN ?_ _) | (with_reducible exact Below.refl _ _) | (show _ ≤ _; (try simp); (try omega); done) | exact Below.refl _ _ | assumption))⟩
            · have e3 : ((b : Int) == 9223372036854775808) = false := by simp; omega
              have e4 : IntKind.i64.wrap (IntKind.u64.wrap (-(b : Int))) = -(b : Int) := by rw [IntKind.wrap_u64, IntKind.wrap_i64]; omega
              have e5 : IntKind.i64.wrap (d : Int) = (d : Int) := by rw [IntKind.wrap_i64]; omega
              have e6 : IntKind.i64.wrap (b : Int) = (b : Int) := by rw [IntKind.wrap_i64]; omega
              cases neg
              · have hf : fitN false (0 * 18446744073709551616 + b) (0 * 18446744073709551616 + d) = some ((b : Int), (d : Int)) := by unfold fitN; rw [if_neg (by omega), if_pos (by simp; omega)]; simp
                have HF := Lib.hid hf; clear hf
                go_enter Tryd.func79, Tryd.ntmps79
                go_wp2
                refine bodyPost_ret (v := .tuple #[.agg #[.int .i64 (b : Int), .int .i64 (d : Int)], .nilIface]) (by simp [results, Tryd.results79, go_sem]) rfl ?_
                exact ⟨by rw [HF.out]; rfl, (by repeat' (first | (with_reducible assumption) | (with_reducible refine Below.setCell ?_ ?_ _) | (with_reducible refine Below.alloc ?_ ?_ _) | (with_reducible refine Below.drew ?_) | (with_reducible refine below_drewN ?_ _) | (with_reducible exact Below.refl _ _) | (show _ ≤ _; (try simp); (try omega); done) | exact Below.refl _ _ | assumption))⟩
              · have hf : fitN true (0 * 18446744073709551616 + b) (0 * 18446744073709551616 + d) = some (-(b : Int), (d : Int)) := by unfold fitN; rw [if_neg (by omega), if_pos (by simp; omega)]; simp
                have HF := Lib.hid hf; clear hf
                go_enter Tryd.func79, Tryd.ntmps79
                go_wp2
                refine bodyPost_ret (v := .tuple #[.agg #[.int .i64 (-(b : Int)), .int .i64 (d : Int)], .nilIface]) (by simp [results, Tryd.results79, go_sem]) rfl ?_
                exact ⟨by rw [HF.out]; rfl, (by repeat' (first | (with_reducible assumption) | (with_reducible refine Below.setCell ?_ ?_ _) | (with_reducible refine Below.alloc ?_ ?_ _) | (with_reducible refine Below.drew ?_) | (with_reducible refine below_drewN ?_ _) | (with_reducible exact Below.refl _ _) | (show _ ≤ _; (try simp); (try omega); done) | exact Below.refl _ _ | assumption))⟩
      · have e1 : ((c : Int) == 0) = false := by simp; omega
        have hf : fitN neg (0 * 18446744073709551616 + b) (c * 18446744073709551616 + d) = none := by unfold fitN; rw [if_neg (by omega), if_neg (by omega)]
        have HF := Lib.hid hf; clear hf
        go_enter Tryd.func79, Tryd.ntmps79
        go_wp2
        refine bodyPost_ret (v := .tuple #[.agg #[.int .i64 0, .int .i64 0], .iface 64 (.int .i64 9)]) (by simp [results, Tryd.results79, go_sem]) rfl ?_
        exact ⟨by rw [HF.out]; rfl, (by repeat' (first | (with_reducible assumption) | (with_reducible refine Below.setCell ?_ ?_ _) | (with_reducible refine Below.alloc ?_ ?_ _) | (with_reducible refine Below.drew ?_) | (with_reducible refine below_drewN ?_ _) | (with_reducible exact Below.refl _ _) | (show _ ≤ _; (try simp); (try omega); done) | exact Below.refl _ _ | assumption))⟩
  · have e0 : ((a : Int) == 0) = false := by simp; omega
    have hf : fitN neg (a * 18446744073709551616 + b) (c * 18446744073709551616 + d) = none := by unfold fitN; rw [if_neg (by omega), if_neg (by omega)]
    have HF := Lib.hid hf; clear hf
    go_enter Tryd.func79, Tryd.ntmps79
    go_wp2
    refine bodyPost_ret (v := .tuple #[.agg #[.int .i64 0, .int .i64 0], .iface 64 (.int .i64 9)]) (by simp [results, Tryd.results79, go_sem]) rfl ?_
    exact ⟨by rw [HF.out]; rfl, (by repeat' (first | (with_reducible assumption) | (with_reducible refine Below.setCell ?_ ?_ _) | (with_reducible refine Below.alloc ?_ ?_ _) | (with_reducible refine Below.drew ?_) | (with_reducible refine below_drewN ?_ _) | (with_reducible exact Below.refl _ _) | (show _ ≤ _; (try simp); (try omega); done) | exact Below.refl _ _ | assumption))⟩
end ratW
end Go.Proofs.YtllbpanfhlbbgaaDoor
