/- The number that a row of bits spells, the highest first. Plain. -/
import Derived.Test.YtomkgnlooheibaaApartLaw
namespace Go.Bus.numK
open Go.RowKit Go.Bus.bitK Go.Bus.crcLaw
set_option linter.unusedVariables false
def stepNum (v : Nat) (b : Bool) : Nat := 2 * v + b.toNat
def numF (l : List Bool) : Nat := l.foldl stepNum 0
theorem num_snoc (l : List Bool) (b : Bool) : numF (l ++ [b]) = stepNum (numF l) b := by simp [numF, List.foldl_append]
theorem bitI_nat (x n : Nat) : (bitI (x : Int) n).toNat = x / 2 ^ n % 2 := by
  unfold bitI
  rw [← rawK.cast_pow, ← Int.natCast_ediv]
  by_cases h : x / 2 ^ n % 2 = 1
  · rw [decide_eq_true (by omega)]; simp [h]
  · rw [decide_eq_false (by omega)]; simp; omega
theorem num_from : ∀ (n : Nat) (x a : Nat), (msb (x : Int) n).foldl stepNum a = a * 2 ^ n + x % 2 ^ n
  | 0, x, a => by simp [msb, Nat.mod_one]
  | n + 1, x, a => by
    rw [msb_succ, List.foldl_cons, num_from n x, Nat.pow_succ, Nat.mod_mul, stepNum, bitI_nat]
    generalize 2 ^ n = P
    generalize x / P % 2 = c
    generalize x % P = d
    rw [Nat.add_mul, Nat.mul_comm 2 a, Nat.mul_assoc, Nat.mul_comm 2 P, Nat.mul_comm c P]
    omega
theorem num_msb (x n : Nat) : numF (msb (x : Int) n) = x % 2 ^ n := by
  unfold numF; rw [num_from, Nat.zero_mul, Nat.zero_add]
theorem num_of {v : Int} {n : Nat} (h : 0 ≤ v) (h' : v < 2 ^ n) : ((numF (msb v n) : Nat) : Int) = v := by
  obtain ⟨x, rfl⟩ := Int.eq_ofNat_of_zero_le h
  rw [num_msb, Nat.mod_eq_of_lt]
  rw [← rawK.cast_pow] at h'
  omega
theorem num_lt : ∀ (l : List Bool), numF l < 2 ^ l.length := by
  have : ∀ (l : List Bool) (a : Nat), l.foldl stepNum a < (a + 1) * 2 ^ l.length := by
    intro l
    induction l with
    | nil => intro a; simp
    | cons b l ih =>
      intro a
      rw [List.foldl_cons, List.length_cons, Nat.pow_succ]
      refine Nat.lt_of_lt_of_le (ih (stepNum a b)) ?_
      have h1 : stepNum a b + 1 ≤ (a + 1) * 2 := by unfold stepNum; cases b <;> simp <;> omega
      calc (stepNum a b + 1) * 2 ^ l.length ≤ ((a + 1) * 2) * 2 ^ l.length := Nat.mul_le_mul_right _ h1
        _ = (a + 1) * (2 ^ l.length * 2) := by rw [Nat.mul_assoc, Nat.mul_comm 2]
  intro l
  have h := this l 0
  rw [Nat.zero_add, Nat.one_mul] at h
  exact h
end Go.Bus.numK
