/- What follows of sizes and lowest bits: there and back, from the least to the greatest. No condition but bounds. -/
import Derived.Test.YtfigkgpolpggcaaDoorRawLaw
namespace Go.Bus.rawK
open Go.RowKit
set_option linter.unusedVariables false
theorem fits_eq {v n : Int} {s : Bool} (h1 : 1 ≤ n) (h2 : n ≤ 64) : fitsB v n s = (extZ v n s == v) := by simp [fitsB, h1, h2]
theorem pow_parts {k : Nat} (h : k ≤ 64) : (18446744073709551616 : Int) = 2 ^ k * 2 ^ (64 - k) := by
  rw [← cast_pow, ← cast_pow, ← Int.natCast_mul, ← Nat.pow_add, show k + (64 - k) = 64 from by omega]; rfl
theorem lw_shift {y : Int} {k : Nat} (h : k ≤ 64) (h0 : 0 ≤ y) (hy : y < 2 ^ k) : lw (y + (18446744073709551616 - 2 ^ k)) k = y := by
  have e : y + (18446744073709551616 - 2 ^ k) = y + 2 ^ k * (2 ^ (64 - k) - 1) := by
    conv => lhs; rw [pow_parts h]
    rw [Int.mul_sub]; omega
  unfold lw
  rw [e, Int.add_mul_emod_self_left]
  exact Int.emod_eq_of_lt h0 hy
theorem lw_lw (v : Int) (k : Nat) : lw (lw v k) k = lw v k := Int.emod_eq_of_lt (lw_nonneg v k) (lw_lt v k)
theorem low_ext {v n : Int} {s : Bool} (h1 : 1 ≤ n) (h2 : n ≤ 64) : lowZ (extZ v n s) n = lowZ v n := by
  obtain ⟨k, rfl⟩ : ∃ k : Nat, n = (k : Int) := ⟨n.toNat, by omega⟩
  rw [lowZ_nat _ (by omega), lowZ_nat _ (by omega)]
  unfold extZ
  split
  · rw [Int.toNat_natCast]
    unfold ext1
    split
    · exact lw_lw v k
    · exact lw_shift (by omega) (lw_nonneg v k) (lw_lt v k)
  · rw [lowZ_nat _ (by omega)]; exact lw_lw v k
theorem ext_low {v u n : Int} {s : Bool} (h1 : 1 ≤ n) (h2 : n ≤ 64) (h : lowZ u n = lowZ v n) : extZ u n s = extZ v n s := by
  obtain ⟨k, rfl⟩ : ∃ k : Nat, n = (k : Int) := ⟨n.toNat, by omega⟩
  unfold extZ ext1
  rw [h]
  rw [lowZ_nat _ (by omega), lowZ_nat _ (by omega)] at h
  rw [Int.toNat_natCast, h]
theorem ext_ext {v n : Int} {s : Bool} (h1 : 1 ≤ n) (h2 : n ≤ 64) : extZ (extZ v n s) n s = extZ v n s := ext_low h1 h2 (low_ext h1 h2)
theorem ext_fits {v n : Int} {s : Bool} (h1 : 1 ≤ n) (h2 : n ≤ 64) : fitsB (extZ v n s) n s = true := by rw [fits_eq h1 h2, ext_ext h1 h2]; simp
theorem pow_le {k : Nat} (h : k ≤ 64) : (2 : Int) ^ k ≤ 18446744073709551616 := by rw [← cast_pow]; have := pow_le64 h; omega
theorem pow_pos' (k : Nat) : (1 : Int) ≤ 2 ^ k := by rw [← cast_pow]; have := Nat.one_le_two_pow (n := k); omega
theorem ext_bounds {v n : Int} {s : Bool} (h1 : 1 ≤ n) (h2 : n ≤ 64) : 0 ≤ extZ v n s ∧ extZ v n s < 18446744073709551616 := by
  obtain ⟨k, rfl⟩ : ∃ k : Nat, n = (k : Int) := ⟨n.toNat, by omega⟩
  have a := lw_nonneg v k
  have b := lw_lt v k
  have c := pow_le (k := k) (by omega)
  unfold extZ ext1
  rw [Int.toNat_natCast, lowZ_nat _ (by omega)]
  split
  · split <;> omega
  · omega
theorem eLo_si (m : Nat) (h : m < 64) : eLo ((m + 1 : Nat) : Int) true = 18446744073709551616 - 2 ^ m := by
  unfold eLo; rw [if_pos ⟨by omega, by omega⟩, if_pos rfl, Int.toNat_natCast, show m + 1 - 1 = m from rfl]
theorem eHi_si (m : Nat) (h : m < 64) : eHi ((m + 1 : Nat) : Int) true = 2 ^ m - 1 := by
  unfold eHi; rw [if_pos ⟨by omega, by omega⟩, if_pos rfl, Int.toNat_natCast, show m + 1 - 1 = m from rfl]
theorem eHi_un (k : Nat) (h1 : 1 ≤ k) (h : k ≤ 64) : eHi (k : Int) false = 2 ^ k - 1 := by
  unfold eHi; rw [if_pos ⟨by omega, by omega⟩, if_neg (by simp), lowZ_nat _ (by omega), lw_all (by omega)]
theorem eLo_un (n : Int) : eLo n false = 0 := by unfold eLo; split <;> simp
theorem half_pow {m : Nat} (h : m < 64) : (1 : Int) ≤ 2 ^ m ∧ (2 : Int) ^ m ≤ 9223372036854775808 := by
  refine ⟨pow_pos' m, ?_⟩
  rw [← cast_pow]
  have : (2 : Nat) ^ m ≤ 2 ^ 63 := Nat.pow_le_pow_right (by decide) (by omega)
  have e : (2 : Nat) ^ 63 = 9223372036854775808 := by decide
  omega
theorem fits_lo {n : Int} {s : Bool} (h1 : 1 ≤ n) (h2 : n ≤ 64) : fitsB (eLo n s) n s = true ∧ 0 ≤ eLo n s ∧ eLo n s < 18446744073709551616 := by
  obtain ⟨m, rfl⟩ : ∃ m : Nat, n = ((m + 1 : Nat) : Int) := ⟨(n - 1).toNat, by omega⟩
  obtain ⟨ha, hb⟩ := half_pow (m := m) (by omega)
  cases s
  · rw [eLo_un]
    refine ⟨?_, by omega, by omega⟩
    rw [← fits_un (by omega) (by omega) h1 h2, eHi_un _ (by omega) (by omega)]
    have := pow_pos' (m + 1)
    simp; omega
  · have e1 := eLo_si m (by omega)
    have e2 := eHi_si m (by omega)
    refine ⟨?_, by rw [e1]; omega, by rw [e1]; omega⟩
    rw [← fits_si (by rw [e1]; omega) (by rw [e1]; omega) h1 h2, e1, e2]
    unfold wrap64
    simp only [Bool.and_eq_true, decide_eq_true_eq]
    generalize (2 : Int) ^ m = q at *
    omega
theorem fits_hi {n : Int} {s : Bool} (h1 : 1 ≤ n) (h2 : n ≤ 64) : fitsB (eHi n s) n s = true ∧ 0 ≤ eHi n s ∧ eHi n s < 18446744073709551616 := by
  obtain ⟨m, rfl⟩ : ∃ m : Nat, n = ((m + 1 : Nat) : Int) := ⟨(n - 1).toNat, by omega⟩
  obtain ⟨ha, hb⟩ := half_pow (m := m) (by omega)
  cases s
  · have e2 := eHi_un (m + 1) (by omega) (by omega)
    have c := pow_le (k := m + 1) (by omega)
    have d := pow_pos' (m + 1)
    refine ⟨?_, by rw [e2]; omega, by rw [e2]; omega⟩
    rw [← fits_un (by rw [e2]; omega) (by rw [e2]; omega) h1 h2]
    simp
  · have e1 := eLo_si m (by omega)
    have e2 := eHi_si m (by omega)
    refine ⟨?_, by rw [e2]; omega, by rw [e2]; omega⟩
    rw [← fits_si (by rw [e2]; omega) (by rw [e2]; omega) h1 h2, e1, e2]
    unfold wrap64
    simp only [Bool.and_eq_true, decide_eq_true_eq]
    generalize (2 : Int) ^ m = q at *
    omega
theorem fits_more {v n : Int} {s : Bool} (hv : 0 ≤ v) (hv' : v < 18446744073709551616) (h1 : 1 ≤ n) (h2 : n < 64) (h : fitsB v n s = true) : fitsB v (n + 1) s = true := by
  obtain ⟨m, rfl⟩ : ∃ m : Nat, n = ((m + 1 : Nat) : Int) := ⟨(n - 1).toNat, by omega⟩
  have hn : (((m + 1 : Nat) : Int) + 1) = ((m + 1 + 1 : Nat) : Int) := by omega
  rw [hn]
  obtain ⟨ha, hb⟩ := half_pow (m := m) (by omega)
  have h3 : (2 : Int) ^ (m + 1) = 2 * 2 ^ m := by rw [Int.pow_succ]; omega
  cases s
  · rw [← fits_un hv hv' h1 (by omega), eHi_un _ (by omega) (by omega)] at h
    rw [← fits_un hv hv' (by omega) (by omega), eHi_un _ (by omega) (by omega)]
    have h4 : (2 : Int) ^ (m + 1 + 1) = 2 * 2 ^ (m + 1) := by rw [Int.pow_succ]; omega
    simp only [decide_eq_true_eq] at *
    omega
  · obtain ⟨ha', hb'⟩ := half_pow (m := m + 1) (by omega)
    rw [← fits_si hv hv' h1 (by omega), eLo_si m (by omega), eHi_si m (by omega)] at h
    rw [← fits_si hv hv' (by omega) (by omega), eLo_si (m + 1) (by omega), eHi_si (m + 1) (by omega)]
    unfold wrap64 at *
    simp only [Bool.and_eq_true, decide_eq_true_eq] at *
    rw [h3] at *
    generalize (2 : Int) ^ m = q at *
    omega
end Go.Bus.rawK
