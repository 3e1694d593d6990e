/- Lowest bits of a number below 2^64 as plain numbers: masks, what is read with a sign. No condition but bounds. -/
import Derived.WalkKit
namespace Go.Bus.rawK
open Go.RowKit
set_option linter.unusedVariables false
/-- The mask of k bits; the lowest k bits; the lowest n bits of any n. -/
def msk (k : Nat) : Int := 2 ^ k - 1
def lw (v : Int) (k : Nat) : Int := v % 2 ^ k
def lowZ (v n : Int) : Int := if 64 < n then v else lw v n.toNat

theorem pow_le64 {k : Nat} (h : k ≤ 64) : (2 : Nat) ^ k ≤ 18446744073709551616 := Nat.le_trans (Nat.pow_le_pow_right (by decide) h) (by decide)
theorem cast_pow (k : Nat) : ((2 ^ k : Nat) : Int) = 2 ^ k := by simp
theorem msk_nat (k : Nat) : msk k = ((2 ^ k - 1 : Nat) : Int) := by
  unfold msk; rw [Int.ofNat_sub (Nat.one_le_two_pow), cast_pow]; rfl
theorem lw_nat (x : Nat) (k : Nat) : lw (x : Int) k = ((x % 2 ^ k : Nat) : Int) := by
  unfold lw; rw [Int.natCast_emod, cast_pow]
theorem lw_nonneg (v : Int) (k : Nat) : 0 ≤ lw v k := Int.emod_nonneg _ (by rw [← cast_pow]; have := Nat.one_le_two_pow (n := k); omega)
theorem lw_lt (v : Int) (k : Nat) : lw v k < 2 ^ k := Int.emod_lt_of_pos _ (by rw [← cast_pow]; have := Nat.one_le_two_pow (n := k); omega)
theorem lw_zero (v : Int) : lw v 0 = 0 := by unfold lw; simp
theorem lw_64 (v : Int) (h : 0 ≤ v) (h' : v < 18446744073709551616) : lw v 64 = v := by unfold lw; exact Int.emod_eq_of_lt h h'
theorem wrap_pow {k : Nat} (h : k < 64) : IntKind.u64.wrap (2 ^ k) = ((2 ^ k : Nat) : Int) := by
  have h1 : (2 : Nat) ^ k < 18446744073709551616 := Nat.pow_lt_pow_right (a := 2) (by decide) h
  rw [IntKind.wrap_u64, ← cast_pow]
  generalize 2 ^ k = y at *
  omega

theorem msk_step {k : Nat} (h : k < 64) : bits BinOp.or IntKind.u64 (IntKind.u64.wrap (msk k * 2)) 1 = msk (k + 1) := by
  have h1 := Nat.one_le_two_pow (n := k)
  have h2 := pow_le64 (k := k + 1) (by omega)
  have h3 : (2 : Nat) ^ (k + 1) = 2 * 2 ^ k := by rw [Nat.pow_succ]; omega
  rw [msk_nat, msk_nat, IntKind.wrap_u64]
  have h4 : ((2 ^ k - 1 : Nat) : Int) * 2 % 18446744073709551616 = ((2 * (2 ^ k - 1) : Nat) : Int) := by omega
  rw [h4, show (1 : Int) = ((1 : Nat) : Int) from rfl, u64_or_nat _ _ (by omega) (by omega), nat_join 1 _ _ (by omega) (by omega)]
  congr 1; omega
theorem and_msk {v : Int} {k : Nat} (hv : 0 ≤ v) (hv' : v < 18446744073709551616) (h : k ≤ 64) : bits BinOp.and IntKind.u64 v (msk k) = lw v k := by
  obtain ⟨x, rfl⟩ := Int.eq_ofNat_of_zero_le hv
  have h1 := pow_le64 h
  have h2 := Nat.one_le_two_pow (n := k)
  rw [msk_nat, u64_and_nat _ _ (by omega) (by omega), Nat.and_two_pow_sub_one_eq_mod, lw_nat]
theorem lw_step {v : Int} {k : Nat} (hv : 0 ≤ v) (hv' : v < 18446744073709551616) (h : k < 64) : bits BinOp.or IntKind.u64 (lw v k) (bits BinOp.and IntKind.u64 v (IntKind.u64.wrap (2 ^ k))) = lw v (k + 1) := by
  obtain ⟨x, rfl⟩ := Int.eq_ofNat_of_zero_le hv
  have h1 := pow_le64 (k := k + 1) (by omega)
  have h3 : (2 : Nat) ^ (k + 1) = 2 * 2 ^ k := by rw [Nat.pow_succ]; omega
  have h2 := Nat.one_le_two_pow (n := k)
  have hm : x % 2 ^ k < 2 ^ k := Nat.mod_lt _ (by omega)
  have hb : x / 2 ^ k % 2 < 2 := Nat.mod_lt _ (by omega)
  have hbb : x / 2 ^ k % 2 * 2 ^ k ≤ 1 * 2 ^ k := Nat.mul_le_mul_right _ (by omega)
  rw [wrap_pow h, lw_nat, lw_nat, u64_and_nat _ _ (by omega) (by omega), nat_bit, u64_or_nat _ _ (by omega) (by omega), Nat.or_comm, nat_join k _ _ (by rw [Nat.mul_mod_left]) hm]
  congr 1
  rw [Nat.pow_succ, Nat.mod_mul, Nat.mul_comm (2 ^ k) (x / 2 ^ k % 2)]
  omega

theorem xor_low {x m : Nat} (h : x < 2 ^ m) : x ^^^ 2 ^ m = x + 2 ^ m := by
  have h1 : x + 2 ^ m = 2 ^ m ||| x := by rw [nat_join m _ _ (Nat.mod_self _) h]; omega
  rw [h1]
  apply Nat.eq_of_testBit_eq
  intro j
  rw [Nat.testBit_xor, Nat.testBit_or, Nat.testBit_two_pow]
  by_cases hj : m = j
  · subst hj; simp [Nat.testBit_lt_two_pow h]
  · simp [hj]
theorem xor_high {x m : Nat} (h : x < 2 ^ m) : (x + 2 ^ m) ^^^ 2 ^ m = x := by
  rw [← xor_low h, Nat.xor_assoc, Nat.xor_self, Nat.xor_zero]

/-- The lowest k bits with their sign; the same of any size. -/
def ext1 (v : Int) (k : Nat) : Int := if lw v k < 2 ^ (k - 1) then lw v k else lw v k + (18446744073709551616 - 2 ^ k)
def extZ (v n : Int) (s : Bool) : Int := if s = true ∧ 1 ≤ n ∧ n < 64 then ext1 v n.toNat else lowZ v n
def acc (v : Int) (k j : Nat) : Int := lw v k + (2 ^ j - 2 ^ k)

theorem lowZ_nat (v : Int) {k : Nat} (h : k ≤ 64) : lowZ v (k : Int) = lw v k := by
  rw [lowZ, if_neg (by omega)]; rfl
theorem ext_code {v : Int} {m : Nat} (hv : 0 ≤ v) (h : m < 63) :
    IntKind.u64.wrap (bits BinOp.xor IntKind.u64 (lowZ v ((m : Int) + 1)) (IntKind.u64.wrap (2 ^ m)) - IntKind.u64.wrap (2 ^ m)) = ext1 v (m + 1) := by
  obtain ⟨x, rfl⟩ := Int.eq_ofNat_of_zero_le hv
  have e : (m : Int) + 1 = ((m + 1 : Nat) : Int) := by omega
  rw [e, lowZ_nat _ (by omega), wrap_pow (by omega)]
  unfold ext1
  rw [lw_nat, show m + 1 - 1 = m from rfl, ← cast_pow, ← cast_pow, IntKind.wrap_u64]
  have h3 : (2 : Nat) ^ (m + 1) = 2 * 2 ^ m := by rw [Nat.pow_succ]; omega
  have h1 := pow_le64 (k := m + 1) (by omega)
  have hy : x % 2 ^ (m + 1) < 2 ^ (m + 1) := Nat.mod_lt _ (by have := Nat.one_le_two_pow (n := m + 1); omega)
  generalize x % 2 ^ (m + 1) = y at *
  rw [u64_xor_nat _ _ (by omega) (by omega)]
  by_cases hlt : y < 2 ^ m
  · rw [xor_low hlt, if_pos (by omega)]; omega
  · obtain ⟨z, rfl⟩ : ∃ z, y = z + 2 ^ m := ⟨y - 2 ^ m, by omega⟩
    rw [xor_high (by omega), if_neg (by omega), h3]
    generalize 2 ^ m = q at *
    omega
theorem acc_start (v : Int) (k : Nat) : acc v k k = lw v k := by unfold acc; omega
theorem acc_step {v : Int} {k j : Nat} (hv : 0 ≤ v) (hk : k ≤ j) (h : j < 64) : bits BinOp.or IntKind.u64 (acc v k j) (IntKind.u64.wrap (2 ^ j)) = acc v k (j + 1) := by
  obtain ⟨x, rfl⟩ := Int.eq_ofNat_of_zero_le hv
  have hkj : (2 : Nat) ^ k ≤ 2 ^ j := Nat.pow_le_pow_right (by decide) hk
  have hy : x % 2 ^ k < 2 ^ k := Nat.mod_lt _ (by have := Nat.one_le_two_pow (n := k); omega)
  have h3 : (2 : Nat) ^ (j + 1) = 2 * 2 ^ j := by rw [Nat.pow_succ]; omega
  have h1 := pow_le64 (k := j + 1) (by omega)
  have e1 : acc (x : Int) k j = ((x % 2 ^ k + (2 ^ j - 2 ^ k) : Nat) : Int) := by
    unfold acc; rw [lw_nat, ← cast_pow, ← cast_pow]; omega
  have e2 : acc (x : Int) k (j + 1) = ((x % 2 ^ k + (2 ^ (j + 1) - 2 ^ k) : Nat) : Int) := by
    unfold acc; rw [lw_nat, ← cast_pow, ← cast_pow]; omega
  rw [e1, e2, wrap_pow h, u64_or_nat _ _ (by omega) (by omega), Nat.or_comm, nat_join j _ _ (Nat.mod_self _) (by omega)]
  congr 1; omega
theorem bit_test {v : Int} {m : Nat} (hv : 0 ≤ v) (hv' : v < 18446744073709551616) : (bits BinOp.and IntKind.u64 (v / 2 ^ m) 1 == 1) = true ↔ ¬ lw v (m + 1) < 2 ^ m := by
  obtain ⟨x, rfl⟩ := Int.eq_ofNat_of_zero_le hv
  have hle : x / 2 ^ m ≤ x := Nat.div_le_self _ _
  rw [← cast_pow, ← Int.natCast_ediv, show (1 : Int) = ((1 : Nat) : Int) from rfl, u64_and_nat _ _ (by omega) (by omega), nat_mask1, lw_nat, Nat.mod_pow_succ]
  have hy : x % 2 ^ m < 2 ^ m := Nat.mod_lt _ (by have := Nat.one_le_two_pow (n := m); omega)
  have hb : x / 2 ^ m % 2 = 0 ∨ x / 2 ^ m % 2 = 1 := by omega
  rcases hb with hb | hb <;> rw [hb] <;> simp <;> omega
theorem ext_yes {v : Int} {m : Nat} (hv : 0 ≤ v) (hv' : v < 18446744073709551616) (h : m < 64) (ht : (bits BinOp.and IntKind.u64 (v / 2 ^ m) 1 == 1) = true) : acc v (m + 1) 64 = extZ v ((m : Int) + 1) true := by
  have h1 := (bit_test hv hv').1 ht
  have e : ((m : Int) + 1) = ((m + 1 : Nat) : Int) := by omega
  unfold extZ
  by_cases h63 : m < 63
  · rw [if_pos ⟨rfl, by omega, by omega⟩, e, Int.toNat_natCast]
    unfold ext1 acc
    rw [show m + 1 - 1 = m from rfl, if_neg h1]
    rfl
  · obtain rfl : m = 63 := by omega
    rw [if_neg (by omega)]
    show acc v 64 64 = lowZ v ((64 : Nat) : Int)
    rw [lowZ_nat _ (by omega), acc_start]
theorem ext_no {v : Int} {m : Nat} (hv : 0 ≤ v) (hv' : v < 18446744073709551616) (h : m < 64) (ht : (bits BinOp.and IntKind.u64 (v / 2 ^ m) 1 == 1) = false) : lowZ v ((m : Int) + 1) = extZ v ((m : Int) + 1) true := by
  have h1 : lw v (m + 1) < 2 ^ m := by
    by_cases hh : lw v (m + 1) < 2 ^ m
    · exact hh
    · have := (bit_test hv hv').2 hh; rw [this] at ht; cases ht
  have e : ((m : Int) + 1) = ((m + 1 : Nat) : Int) := by omega
  unfold extZ
  by_cases h63 : m < 63
  · rw [if_pos ⟨rfl, by omega, by omega⟩, e, Int.toNat_natCast, lowZ_nat _ (by omega)]
    unfold ext1
    rw [show m + 1 - 1 = m from rfl, if_pos h1]
  · rw [if_neg (by omega)]

/-- The least and the greatest number that fit. -/
def eLo (n : Int) (s : Bool) : Int := if 1 ≤ n ∧ n ≤ 64 then (if s = true then 18446744073709551616 - 2 ^ (n.toNat - 1) else 0) else 0
def eHi (n : Int) (s : Bool) : Int := if 1 ≤ n ∧ n ≤ 64 then (if s = true then 2 ^ (n.toNat - 1) - 1 else lowZ 18446744073709551615 n) else 0
def fitsB (v n : Int) (s : Bool) : Bool := decide (1 ≤ n) && (decide (n ≤ 64) && (extZ v n s == v))

theorem lw_all {k : Nat} (h : k ≤ 64) : lw 18446744073709551615 k = 2 ^ k - 1 := by
  have h1 := pow_le64 h
  have h2 := Nat.one_le_two_pow (n := k)
  have e : (18446744073709551615 : Int) = ((18446744073709551615 : Nat) : Int) := rfl
  rw [e, lw_nat, ← cast_pow]
  have h3 : 18446744073709551615 % 2 ^ k = 2 ^ k - 1 := by
    have h4 : (18446744073709551616 : Nat) = 2 ^ k * 2 ^ (64 - k) := by rw [← Nat.pow_add, show k + (64 - k) = 64 from by omega]
    have h5 : (18446744073709551615 : Nat) = 2 ^ k * (2 ^ (64 - k) - 1) + (2 ^ k - 1) := by
      have h6 := Nat.one_le_two_pow (n := 64 - k)
      have h7 : 2 ^ k * 1 ≤ 2 ^ k * 2 ^ (64 - k) := Nat.mul_le_mul_left _ h6
      rw [Nat.mul_sub]
      omega
    rw [h5, Nat.mul_add_mod, Nat.mod_eq_of_lt (by omega)]
  rw [h3]; omega
theorem neg_top {m : Nat} (h : m < 64) : IntKind.u64.wrap (-IntKind.u64.wrap (2 ^ m)) = 18446744073709551616 - 2 ^ m := by
  have h1 := Nat.one_le_two_pow (n := m)
  have h2 : (2 : Nat) ^ m < 18446744073709551616 := Nat.pow_lt_pow_right (a := 2) (by decide) h
  rw [wrap_pow h, IntKind.wrap_u64, ← cast_pow]
  generalize 2 ^ m = q at *
  omega
theorem top_less {m : Nat} (h : m < 64) : IntKind.u64.wrap (IntKind.u64.wrap (2 ^ m) - 1) = 2 ^ m - 1 := by
  have h1 := Nat.one_le_two_pow (n := m)
  have h2 : (2 : Nat) ^ m < 18446744073709551616 := Nat.pow_lt_pow_right (a := 2) (by decide) h
  rw [wrap_pow h, IntKind.wrap_u64, ← cast_pow]
  generalize 2 ^ m = q at *
  omega
theorem ext_top {n : Int} (h1 : 1 ≤ n) (h2 : n ≤ 64) : extZ (IntKind.u64.wrap (2 ^ (n.toNat - 1))) n true = 18446744073709551616 - 2 ^ (n.toNat - 1) := by
  obtain ⟨m, rfl⟩ : ∃ m : Nat, n = ((m + 1 : Nat) : Int) := ⟨(n - 1).toNat, by omega⟩
  rw [Int.toNat_natCast, show m + 1 - 1 = m from rfl, wrap_pow (by omega)]
  unfold extZ
  have h3 : (2 : Nat) ^ (m + 1) = 2 * 2 ^ m := by rw [Nat.pow_succ]; omega
  have h4 := Nat.one_le_two_pow (n := m)
  by_cases h63 : m < 63
  · rw [if_pos ⟨rfl, by omega, by omega⟩, Int.toNat_natCast]
    unfold ext1
    rw [lw_nat, show m + 1 - 1 = m from rfl, ← cast_pow, ← cast_pow, Nat.mod_eq_of_lt (by omega), if_neg (by omega), h3]
    generalize 2 ^ m = q at *
    omega
  · obtain rfl : m = 63 := by omega
    rw [if_neg (by omega), lowZ_nat _ (by omega), lw_nat]
    decide

theorem fits_out {v n : Int} {s : Bool} (h : ¬ (1 ≤ n ∧ n ≤ 64)) : fitsB v n s = false := by
  unfold fitsB
  by_cases h1 : 1 ≤ n
  · have h2 : ¬ n ≤ 64 := fun h2 => h ⟨h1, h2⟩
    simp [h2]
  · simp [h1]
theorem low_half {n : Int} (h1 : 1 ≤ n) (h2 : n ≤ 64) : lowZ 18446744073709551615 (n - 1) = 2 ^ (n.toNat - 1) - 1 := by
  have e : n - 1 = ((n.toNat - 1 : Nat) : Int) := by omega
  rw [e, lowZ_nat _ (by omega), lw_all (by omega)]
theorem fits_un {v n : Int} (hv : 0 ≤ v) (hv' : v < 18446744073709551616) (h1 : 1 ≤ n) (h2 : n ≤ 64) : decide (v ≤ eHi n false) = fitsB v n false := by
  obtain ⟨k, rfl⟩ : ∃ k : Nat, n = (k : Int) := ⟨n.toNat, by omega⟩
  have e1 : eHi (k : Int) false = 2 ^ k - 1 := by
    unfold eHi; rw [if_pos ⟨h1, h2⟩, if_neg (by simp), lowZ_nat _ (by omega), lw_all (by omega)]
  have e2 : extZ v (k : Int) false = lw v k := by unfold extZ; rw [if_neg (by simp), lowZ_nat _ (by omega)]
  unfold fitsB
  rw [e1, e2]
  have h3 := lw_lt v k
  rw [Bool.eq_iff_iff]
  simp only [decide_eq_true_eq, Bool.and_eq_true, beq_iff_eq]
  constructor
  · intro h; refine ⟨h1, h2, ?_⟩; unfold lw; exact Int.emod_eq_of_lt hv (by omega)
  · intro h; omega

theorem ext_nat {x m : Nat} (hx : x < 18446744073709551616) (h : m < 63) : ext1 (x : Int) (m + 1) = x ↔ x < 2 ^ m ∨ 18446744073709551616 - 2 ^ m ≤ x := by
  have h3 : (2 : Nat) ^ (m + 1) = 2 * 2 ^ m := by rw [Nat.pow_succ]; omega
  have h4 := Nat.one_le_two_pow (n := m)
  have hq : (2 : Nat) ^ m ≤ 4611686018427387904 := Nat.pow_le_pow_right (j := 62) (by decide) (by omega)
  have hd : (18446744073709551616 : Nat) = 2 ^ (m + 1) * 2 ^ (63 - m) := by rw [← Nat.pow_add, show m + 1 + (63 - m) = 64 from by omega]
  have hc : (x < 2 * 2 ^ m ∧ x % 2 ^ (m + 1) = x) ∨ (18446744073709551616 - 2 * 2 ^ m ≤ x ∧ x % 2 ^ (m + 1) + 18446744073709551616 = x + 2 * 2 ^ m) ∨ (2 * 2 ^ m ≤ x ∧ x < 18446744073709551616 - 2 * 2 ^ m) := by
    rcases Nat.lt_or_ge x (2 * 2 ^ m) with h1 | h1
    · exact .inl ⟨h1, Nat.mod_eq_of_lt (by omega)⟩
    · rcases Nat.lt_or_ge x (18446744073709551616 - 2 * 2 ^ m) with h2 | h2
      · exact .inr (.inr ⟨h1, h2⟩)
      · refine .inr (.inl ⟨h2, ?_⟩)
        have hp := Nat.one_le_two_pow (n := 63 - m)
        have h7 : 2 ^ (m + 1) * 1 ≤ 2 ^ (m + 1) * 2 ^ (63 - m) := Nat.mul_le_mul_left _ hp
        have h6 : x = 2 ^ (m + 1) * (2 ^ (63 - m) - 1) + (x - (18446744073709551616 - 2 ^ (m + 1))) := by
          rw [Nat.mul_sub, ← hd]; omega
        have h8 : x - (18446744073709551616 - 2 ^ (m + 1)) < 2 ^ (m + 1) := by omega
        have h9 : x % 2 ^ (m + 1) = x - (18446744073709551616 - 2 ^ (m + 1)) := by
          conv => lhs; rw [h6]
          rw [Nat.mul_add_mod, Nat.mod_eq_of_lt h8]
        omega
  have hlt : x % 2 ^ (m + 1) < 2 ^ (m + 1) := Nat.mod_lt _ (by omega)
  unfold ext1
  rw [lw_nat, show m + 1 - 1 = m from rfl, ← cast_pow, ← cast_pow]
  clear hd
  obtain ⟨r, hr⟩ : ∃ r, r = x % 2 ^ (m + 1) := ⟨_, rfl⟩
  rw [← hr] at hc hlt ⊢
  rw [h3] at hlt ⊢
  clear h3 hr
  obtain ⟨q, hq'⟩ : ∃ q, q = 2 ^ m := ⟨_, rfl⟩
  rw [← hq'] at hc hlt hq h4 ⊢
  clear hq'
  split <;> omega

theorem fits_si {v n : Int} (hv : 0 ≤ v) (hv' : v < 18446744073709551616) (h1 : 1 ≤ n) (h2 : n ≤ 64) : (decide (wrap64 (eLo n true) ≤ wrap64 v) && decide (wrap64 v ≤ wrap64 (eHi n true))) = fitsB v n true := by
  obtain ⟨m, rfl⟩ : ∃ m : Nat, n = ((m + 1 : Nat) : Int) := ⟨(n - 1).toNat, by omega⟩
  obtain ⟨x, rfl⟩ := Int.eq_ofNat_of_zero_le hv
  have h3 : (2 : Nat) ^ (m + 1) = 2 * 2 ^ m := by rw [Nat.pow_succ]; omega
  have h4 := Nat.one_le_two_pow (n := m)
  have h5 := pow_le64 (k := m + 1) (by omega)
  have e1 : eLo ((m + 1 : Nat) : Int) true = ((18446744073709551616 - 2 ^ m : Nat) : Int) := by
    unfold eLo; rw [if_pos ⟨h1, h2⟩, if_pos rfl, Int.toNat_natCast, show m + 1 - 1 = m from rfl, ← cast_pow]; omega
  have e2 : eHi ((m + 1 : Nat) : Int) true = ((2 ^ m - 1 : Nat) : Int) := by
    unfold eHi; rw [if_pos ⟨h1, h2⟩, if_pos rfl, Int.toNat_natCast, show m + 1 - 1 = m from rfl, ← cast_pow]; omega
  have e3 : extZ (x : Int) ((m + 1 : Nat) : Int) true = x ↔ x < 2 ^ m ∨ 18446744073709551616 - 2 ^ m ≤ x := by
    unfold extZ
    by_cases h63 : m < 63
    · rw [if_pos ⟨rfl, by omega, by omega⟩, Int.toNat_natCast, ext_nat (by omega) h63]
    · obtain rfl : m = 63 := by omega
      rw [if_neg (by omega), lowZ_nat _ (by omega), lw_nat, Nat.mod_eq_of_lt (by omega)]
      have h63 : (2 : Nat) ^ 63 = 9223372036854775808 := by decide
      rw [h63]
      constructor
      · intro _; omega
      · intro _; rfl
  rw [e1, e2]
  unfold fitsB
  rw [Bool.eq_iff_iff]
  simp only [decide_eq_true_eq, Bool.and_eq_true, beq_iff_eq]
  rw [e3]
  unfold wrap64
  rw [h3] at h5
  generalize 2 ^ m = q at *
  omega
end Go.Bus.rawK
