/- Plain laws of the document's fractions: what 'Lowest' answers. No conditions. -/
import Derived.Test.YtllbpanfhlbbgaaDoorNatG
import Derived.Test.YtllbpanfhlbbgaaDoorRatLaw
namespace Go.Nt
open Go.Rt
/-- does a fraction in lowest terms not fit? (as the document asks) -/
def overB (neg : Bool) (n d : Nat) : Bool :=
  !decide (n < 18446744073709551616) || !decide (d < 18446744073709551616) || decide (9223372036854775807 < d % 18446744073709551616) || decide (9223372036854775808 < n % 18446744073709551616) || (decide (n % 18446744073709551616 = 9223372036854775808) && !neg)
theorem over_fit {neg : Bool} {n d : Nat} (hn : n ≠ 0) : fitN neg n d = if overB neg n d then none else some (sg neg n, (d : Int)) := by
  unfold fitN sg
  rw [if_neg hn]
  have key : (d < 9223372036854775808 ∧ (n < 9223372036854775808 ∨ n = 9223372036854775808 ∧ neg = true)) ↔ overB neg n d = false := by
    unfold overB
    rcases Nat.lt_or_ge n 18446744073709551616 with h1 | h1
    · rcases Nat.lt_or_ge d 18446744073709551616 with h2 | h2
      · rw [Nat.mod_eq_of_lt h1, Nat.mod_eq_of_lt h2]
        cases neg <;> simp <;> omega
      · constructor
        · intro h; omega
        · intro h; simp at h; omega
    · constructor
      · intro h; omega
      · intro h; simp at h; omega
  by_cases h : overB neg n d = true
  · rw [if_pos h, if_neg (by rw [key, h]; decide)]
  · have h' : overB neg n d = false := by simpa using h
    rw [if_neg h, if_pos (key.2 h')]
theorem divInt_red {N D G : Nat} (neg : Bool) (hD : 0 < D) (h : G = Nat.gcd N D) : Rat.divInt (sg neg N) D = Rat.divInt (sg neg (N / G)) ((D / G : Nat) : Int) := by
  subst h
  have hG : 0 < Nat.gcd N D := Nat.gcd_pos_of_pos_right _ hD
  have hd : 0 < D / Nat.gcd N D := Nat.div_pos (Nat.le_of_dvd hD (Nat.gcd_dvd_right _ _)) hG
  have e1 := Nat.div_mul_cancel (Nat.gcd_dvd_left N D)
  have e2 := Nat.div_mul_cancel (Nat.gcd_dvd_right N D)
  generalize Nat.gcd N D = g at *
  generalize N / g = n at *
  generalize D / g = d at *
  subst e1
  subst e2
  rw [Rat.divInt_eq_divInt_iff (by omega) (by omega)]
  unfold sg
  cases neg
  · simp only [Bool.false_eq_true, if_false, Int.natCast_mul]; grind
  · simp only [if_true, Int.natCast_mul]; grind
/-- what the document's Lowest answers of N over D -/
theorem low_law {neg : Bool} {N D g : Nat} (hN : N ≠ 0) (hD : 0 < D) (hc : Com N D g) :
    fitR (Rat.divInt (sg neg N) D) = if overB neg (N / g) (D / g) then none else some (sg neg (N / g), ((D / g : Nat) : Int)) := by
  have hG : 0 < Nat.gcd N D := Nat.gcd_pos_of_pos_right _ hD
  have hnG : N / Nat.gcd N D ≠ 0 := by
    have := Nat.div_pos (Nat.le_of_dvd (by omega) (Nat.gcd_dvd_left N D)) hG
    omega
  have hdG : 0 < D / Nat.gcd N D := Nat.div_pos (Nat.le_of_dvd hD (Nat.gcd_dvd_right _ _)) hG
  rw [divInt_red neg hD rfl, ← fit_rat hdG (Nat.coprime_div_gcd_div_gcd hG), over_fit hnG]
  rcases hc with rfl | ⟨h1, h2, h3, h4⟩
  · rfl
  · have b1 : 18446744073709551616 ≤ D / g := by rw [Nat.le_div_iff_mul_le h1, Nat.mul_comm]; exact h3
    have b2 : 18446744073709551616 ≤ D / Nat.gcd N D := by rw [Nat.le_div_iff_mul_le hG, Nat.mul_comm]; exact h4
    have o1 : overB neg (N / g) (D / g) = true := by
      unfold overB
      rw [decide_eq_false (p := D / g < 18446744073709551616) (by omega)]
      simp
    have o2 : overB neg (N / Nat.gcd N D) (D / Nat.gcd N D) = true := by
      unfold overB
      rw [decide_eq_false (p := D / Nat.gcd N D < 18446744073709551616) (by omega)]
      simp
    rw [if_pos o1, if_pos o2]
theorem over_false {neg : Bool} {n d : Nat} (h : overB neg n d = false) : n < 18446744073709551616 ∧ d ≤ 9223372036854775807 ∧ n ≤ 9223372036854775808 ∧ (neg = false → n < 9223372036854775808) := by
  unfold overB at h
  simp only [Bool.or_eq_false_iff, Bool.not_eq_false', decide_eq_true_eq, decide_eq_false_iff_not, Bool.and_eq_false_iff] at h
  obtain ⟨⟨⟨⟨h1, h2⟩, h3⟩, h4⟩, h5⟩ := h
  rw [Nat.mod_eq_of_lt h2] at h3
  rw [Nat.mod_eq_of_lt h1] at h4 h5
  refine ⟨h1, by omega, by omega, fun hn => ?_⟩
  subst hn
  simp at h5
  omega
end Go.Nt
