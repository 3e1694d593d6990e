/- Numbers to the base 16. Plain. No condition. -/
namespace Go.Bus.hexK
set_option linter.unusedVariables false
def hexd (d : Nat) : UInt8 := if d < 10 then UInt8.ofNat (48 + d) else UInt8.ofNat (87 + d)
def hexs (n : Nat) : List UInt8 := if h : n < 16 then [hexd n] else hexs (n / 16) ++ [hexd (n % 16)]
termination_by n
decreasing_by omega
theorem hexs_lt {n : Nat} (h : n < 16) : hexs n = [hexd n] := by rw [hexs]; simp [h]
theorem hexs_ge {n : Nat} (h : ¬ n < 16) : hexs n = hexs (n / 16) ++ [hexd (n % 16)] := by rw [hexs]; simp [h]
theorem hexs_pos (n : Nat) : 1 ≤ (hexs n).length := by
  by_cases h : n < 16
  · rw [hexs_lt h]; simp
  · rw [hexs_ge h]; simp
theorem hexs_len {n k : Nat} (h : n < 16 ^ k) (hk : 1 ≤ k) : (hexs n).length ≤ k := by
  induction k generalizing n with
  | zero => omega
  | succ k ih =>
    by_cases h1 : n < 16
    · rw [hexs_lt h1]; simp
    · rw [hexs_ge h1]
      have hk1 : 1 ≤ k := by
        rcases Nat.eq_zero_or_pos k with h0 | h0
        · subst h0; simp at h; omega
        · exact h0
      have := ih (n := n / 16) (by rw [Nat.pow_succ, Nat.mul_comm] at h; exact Nat.div_lt_of_lt_mul h) hk1
      simp; omega
end Go.Bus.hexK
