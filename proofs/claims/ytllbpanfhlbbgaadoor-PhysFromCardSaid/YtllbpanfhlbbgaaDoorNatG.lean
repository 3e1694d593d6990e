/- Plain laws of the document's greatest common divisor. No conditions. -/
import Derived.Test.YtllbpanfhlbbgaaDoorNatLaw
namespace Go.Nt
/-- what 'common' answers: the greatest common divisor, or, where it stops early, a number over which b does not fit 64 bits -/
def Com (a b g : Nat) : Prop := g = Nat.gcd a b ∨ 0 < g ∧ 0 < b ∧ g * 18446744073709551616 ≤ b ∧ Nat.gcd a b * 18446744073709551616 ≤ b
/-- after i steps -/
def Cst (a b i x y : Nat) : Prop := Nat.gcd x y = Nat.gcd a b ∧ (i = 0 ∧ x = a ∧ y = b ∨ 1 ≤ i ∧ y < x ∧ x * 2 ^ ((i - 1) / 2) ≤ b ∧ y * 2 ^ (i / 2) ≤ b)
theorem Cst.start (a b : Nat) : Cst a b 0 a b := ⟨rfl, .inl ⟨rfl, rfl, rfl⟩⟩
theorem Cst.step {a b i x y : Nat} (h : Cst a b i x y) (hy : 0 < y) : Cst a b (i + 1) y (x % y) := by
  obtain ⟨hg, h⟩ := h
  refine ⟨?_, .inr ⟨by omega, Nat.mod_lt _ hy, ?_⟩⟩
  · rw [← hg, Nat.gcd_comm y, ← Nat.gcd_rec, Nat.gcd_comm]
  · rcases h with ⟨rfl, rfl, rfl⟩ | ⟨h1, h2, h3, h4⟩
    · refine ⟨by simp, ?_⟩
      have := Nat.mod_lt x hy
      simp only [Nat.reduceAdd, Nat.reduceDiv, Nat.pow_zero, Nat.mul_one]
      omega
    · refine ⟨by rw [Nat.add_sub_cancel]; exact h4, ?_⟩
      obtain ⟨j, rfl⟩ : ∃ j, i = j + 1 := ⟨i - 1, by omega⟩
      rw [Nat.add_sub_cancel] at h3
      have e : (j + 1 + 1) / 2 = j / 2 + 1 := by omega
      rw [e, Nat.pow_succ, Nat.mul_comm _ 2, ← Nat.mul_assoc]
      have h5 : x % y * 2 ≤ x := by
        have h6 := Nat.div_add_mod x y
        have h7 : 1 ≤ x / y := Nat.div_pos (by omega) hy
        have h8 : y * 1 ≤ y * (x / y) := Nat.mul_le_mul_left _ h7
        have := Nat.mod_lt x hy
        omega
      exact Nat.le_trans (Nat.mul_le_mul_right _ h5) h3
theorem Cst.zero {a b i x : Nat} (h : Cst a b i x 0) : Com a b x := .inl (by rw [← h.1, Nat.gcd_zero_right])
theorem Cst.early {a b i x y : Nat} (h : Cst a b i x y) (hy : 0 < y) (hi : 129 ≤ i) : Com a b x := by
  obtain ⟨hg, h⟩ := h
  rcases h with ⟨rfl, _⟩ | ⟨h1, h2, h3, h4⟩
  · omega
  · have p1 : 18446744073709551616 ≤ 2 ^ ((i - 1) / 2) := by
      have := Nat.pow_le_pow_right (n := 2) (by decide) (show 64 ≤ (i - 1) / 2 by omega)
      simpa using this
    have p2 : 18446744073709551616 ≤ 2 ^ (i / 2) := by
      have := Nat.pow_le_pow_right (n := 2) (by decide) (show 64 ≤ i / 2 by omega)
      simpa using this
    have q1 := Nat.mul_le_mul_left x p1
    have q2 := Nat.mul_le_mul_left y p2
    have q3 : Nat.gcd a b ≤ y := by rw [← hg]; exact Nat.gcd_le_right _ hy
    have p0 : 0 < x := Nat.lt_of_le_of_lt (Nat.zero_le y) h2
    have p3 : 0 < b := Nat.lt_of_lt_of_le (Nat.mul_pos p0 (Nat.pow_pos (by decide))) h3
    exact .inr ⟨p0, p3, Nat.le_trans q1 h3, Nat.le_trans (Nat.mul_le_mul_right _ q3) (Nat.le_trans q2 h4)⟩
theorem Com.pos {a b g : Nat} (h : Com a b g) (hb : 0 < b) : 0 < g := by
  rcases h with rfl | h
  · exact Nat.gcd_pos_of_pos_right _ hb
  · exact h.1
/-- below 2^64 it is the greatest common divisor -/
theorem Com.small {a b g : Nat} (h : Com a b g) (hb : b < 18446744073709551616) : g = Nat.gcd a b := by
  rcases h with h | ⟨h1, h2, h3, h4⟩
  · exact h
  · omega
end Go.Nt
