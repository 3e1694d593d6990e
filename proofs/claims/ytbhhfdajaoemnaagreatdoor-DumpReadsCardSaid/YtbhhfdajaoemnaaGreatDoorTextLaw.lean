/- Decimal numerals as plain lists of bytes: digits put one ahead of the other; what a text of digits tells; there and back. No condition. -/
import Derived.WalkKit
import Derived.Lib.ItoaNum
import Derived.Lib.ParseIntB
import Derived.Lib.ParseIntBCases
namespace Go.Bus.textK
open Go.Lib
set_option linter.unusedVariables false
def dgt (m : Nat) : UInt8 := UInt8.ofNat (48 + m % 10)
theorem dgt_toNat (m : Nat) : (dgt m).toNat = 48 + m % 10 := by
  unfold dgt
  rw [UInt8.toNat_ofNat']
  omega
theorem dec_small {u : Nat} (h : u < 10) : decDigits u = [dgt u] := by
  rw [decDigits, dif_pos h]; unfold dgt; rw [Nat.mod_eq_of_lt h]
theorem dec_big {u : Nat} (h : ¬ u < 10) : decDigits u = decDigits (u / 10) ++ [dgt u] := by
  rw [decDigits, dif_neg h]; rfl

/-- What the digits so far and what is left to be told come to. -/
def Tel (u k m : Nat) (t : List UInt8) : Prop := t.length = k ∧ m < 10 ^ (20 - k) ∧ ((k = 0 ∧ m = u ∧ t = []) ∨ (0 < k ∧ m = 0 ∧ t = decDigits u) ∨ (0 < k ∧ 0 < m ∧ decDigits m ++ t = decDigits u))
theorem Tel.start {u : Nat} (h : u < 100000000000000000000) : Tel u 0 u [] := ⟨rfl, h, .inl ⟨rfl, rfl, rfl⟩⟩
theorem Tel.step {u k m : Nat} {t : List UInt8} (h : Tel u k m t) (hk : k < 20) (hg : 0 < m ∨ k = 0) : Tel u (k + 1) (m / 10) (dgt m :: t) := by
  obtain ⟨h1, h2, h3⟩ := h
  have hp : (10 : Nat) ^ (20 - k) = 10 * 10 ^ (20 - (k + 1)) := by
    rw [show 20 - k = (20 - (k + 1)) + 1 by omega, Nat.pow_succ]; omega
  rw [hp] at h2
  refine ⟨by simp [h1], by omega, ?_⟩
  have key : decDigits m ++ t = decDigits u := by
    rcases h3 with ⟨rfl, rfl, rfl⟩ | ⟨_, rfl, _⟩ | ⟨_, _, h⟩
    · simp
    · omega
    · exact h
  by_cases hs : m < 10
  · refine .inr (.inl ⟨by omega, by omega, ?_⟩)
    rw [← key, dec_small hs]; rfl
  · refine .inr (.inr ⟨by omega, by omega, ?_⟩)
    rw [← key, dec_big hs]; simp
theorem Tel.done {u k m : Nat} {t : List UInt8} (h : Tel u k m t) (hx : k = 20 ∨ (m = 0 ∧ 0 < k)) : t = decDigits u := by
  obtain ⟨h1, h2, h3⟩ := h
  have hm : m = 0 := by
    rcases hx with rfl | ⟨h, _⟩
    · simpa using h2
    · exact h
  rcases h3 with ⟨h, _, _⟩ | ⟨_, _, h⟩ | ⟨_, h, _⟩
  · omega
  · exact h
  · omega

/-! ### What a text of digits tells -/
def isDig (c : UInt8) : Bool := decide (48 ≤ c.toNat) && decide (c.toNat ≤ 57)
theorem isDig_iff {c : UInt8} : isDig c = true ↔ 48 ≤ c.toNat ∧ c.toNat ≤ 57 := by simp [isDig]
def valF (a : Nat) (l : List UInt8) : Nat := l.foldl (fun a c => 10 * a + (c.toNat - 48)) a
def val (l : List UInt8) : Nat := valF 0 l
theorem valF_cons (a : Nat) (c : UInt8) (l : List UInt8) : valF a (c :: l) = valF (10 * a + (c.toNat - 48)) l := by unfold valF; rw [List.foldl_cons]
theorem valF_snoc (a : Nat) (l : List UInt8) (c : UInt8) : valF a (l ++ [c]) = 10 * valF a l + (c.toNat - 48) := by simp [valF]
theorem val_snoc (l : List UInt8) (c : UInt8) : val (l ++ [c]) = 10 * val l + (c.toNat - 48) := valF_snoc 0 l c
theorem valF_le : ∀ (l : List UInt8) (a : Nat), a ≤ valF a l
  | [], a => Nat.le_refl _
  | c :: l, a => Nat.le_trans (by omega) (valF_le l (10 * a + (c.toNat - 48)))
theorem parseM (M : Nat) (hM : M = 18446744073709551615) (l : List UInt8) : ∀ (a : Nat), a ≤ M → l.all isDig = true → parseUintM M a l = if valF a l ≤ M then .ok (valF a l) else .range := by
  induction l with
  | nil => intro a ha _; simp only [parseUintM]; rw [if_pos (show valF a [] ≤ M from ha)]; rfl
  | cons c l ih =>
    intro a ha h
    simp only [List.all_cons, Bool.and_eq_true] at h
    have hd := isDig_iff.1 h.1
    have hle := valF_le l (10 * a + (c.toNat - 48))
    obtain ⟨K, hK⟩ : ∃ K, K = 1844674407370955162 := ⟨_, rfl⟩
    rw [valF_cons, parseUintM, ← hK, if_pos hd]
    by_cases h1 : K ≤ a
    · rw [if_pos h1, if_neg (by omega)]
    · rw [if_neg h1]
      by_cases h2 : M < a * 10 + (c.toNat - 48)
      · rw [if_pos h2, if_neg (by omega)]
      · rw [if_neg h2, show a * 10 + (c.toNat - 48) = 10 * a + (c.toNat - 48) by omega]
        exact ih _ (by omega) h.2
theorem parseB {l : List UInt8} (h0 : l ≠ []) (h : l.all isDig = true) : parseUintB 64 l = if val l ≤ 18446744073709551615 then .ok (val l) else .range := by
  have e : (2 : Nat) ^ 64 - 1 = 18446744073709551615 := by decide
  rw [parseUintB, if_neg h0]
  generalize hM : (2 : Nat) ^ 64 - 1 = M at e ⊢
  rw [parseM M e l 0 (Nat.zero_le _) h]
  subst e
  rfl

/-- Digits, one at least, no nought ahead of another one. -/
def good (d : List UInt8) : Bool := !d.isEmpty && d.all isDig && (decide (d.length = 1) || !(d.head? == some 48))
theorem good_all {d : List UInt8} (h : good d = true) : d.all isDig = true := by simp [good] at h ⊢; exact h.1.2
theorem good_ne {d : List UInt8} (h : good d = true) : d ≠ [] := by simp [good] at h; exact h.1.1

theorem back_pos : ∀ (n : Nat) (l : List UInt8), l.length = n → l ≠ [] → l.all isDig = true → l.head? ≠ some 48 → decDigits (val l) = l ∧ 0 < val l
  | 0, l, hn, h0, _, _ => absurd (List.eq_nil_of_length_eq_zero hn) h0
  | n + 1, l, hn, h0, ha, hh => by
    obtain ⟨r, c, rfl⟩ : ∃ r c, l = r ++ [c] := ⟨l.dropLast, l.getLast h0, (List.dropLast_concat_getLast h0).symm⟩
    simp only [List.all_append, List.all_cons, List.all_nil, Bool.and_true, Bool.and_eq_true] at ha
    have hc := isDig_iff.1 ha.2
    have hcc : ∀ x, x % 10 = c.toNat - 48 → dgt x = c := by
      intro x hx
      apply UInt8.toNat_inj.1
      rw [dgt_toNat, hx]; omega
    rw [val_snoc]
    by_cases hr : r = []
    · subst hr
      have hne : c ≠ 48 := by simpa using hh
      have hne' : c.toNat ≠ 48 := fun e => hne (UInt8.toNat_inj.1 e)
      have hv : val [] = 0 := rfl
      rw [hv, dec_small (by omega), hcc _ (by omega)]
      exact ⟨rfl, by omega⟩
    · have hl : r.length = n := by simp at hn; exact hn
      obtain ⟨i1, i2⟩ := back_pos n r hl hr ha.1 (by
        cases r with
        | nil => exact absurd rfl hr
        | cons x y => simpa using hh)
      rw [dec_big (by omega), hcc _ (by omega), show (10 * val r + (c.toNat - 48)) / 10 = val r by omega, i1]
      exact ⟨rfl, by omega⟩
theorem back {l : List UInt8} (h : good l = true) : decDigits (val l) = l := by
  by_cases hh : l.head? = some 48
  · have h1 : l.length = 1 := by
      simp [good, hh] at h
      exact h.2
    obtain ⟨c, rfl⟩ := List.length_eq_one_iff.1 h1
    obtain rfl : c = 48 := by simpa using hh
    decide +kernel
  · exact (back_pos _ l rfl (good_ne h) (good_all h) hh).1
theorem val_zero_of {l : List UInt8} (h : good l = true) (hv : val l = 0) : l = [48] := by
  rw [← back h, hv]; decide +kernel

theorem dec_ne (u : Nat) : decDigits u ≠ [] := by
  by_cases h : u < 10
  · rw [dec_small h]; simp
  · rw [dec_big h]; simp
theorem dec_all (u : Nat) : (decDigits u).all isDig = true := by
  induction u using Nat.strongRecOn with
  | _ u ih =>
    have hd : isDig (dgt u) = true := isDig_iff.2 (by rw [dgt_toNat]; omega)
    by_cases h : u < 10
    · rw [dec_small h]; simp [hd]
    · rw [dec_big h, List.all_append, ih (u / 10) (by omega)]; simp [hd]
theorem dec_val (u : Nat) : val (decDigits u) = u := by
  induction u using Nat.strongRecOn with
  | _ u ih =>
    by_cases h : u < 10
    · rw [dec_small h]; show 10 * 0 + ((dgt u).toNat - 48) = u; rw [dgt_toNat]; omega
    · rw [dec_big h, val_snoc, ih (u / 10) (by omega), dgt_toNat]; omega
theorem dec_head (u : Nat) (h0 : 0 < u) : (decDigits u).head? ≠ some 48 := by
  induction u using Nat.strongRecOn with
  | _ u ih =>
    by_cases h : u < 10
    · rw [dec_small h]
      intro e
      have e1 : dgt u = 48 := by simpa using e
      have := dgt_toNat u
      rw [e1] at this
      have h48 : (48 : UInt8).toNat = 48 := rfl
      omega
    · rw [dec_big h]
      have hn := dec_ne (u / 10)
      have := ih (u / 10) (by omega) (by omega)
      cases hc : decDigits (u / 10) with
      | nil => exact absurd hc hn
      | cons x y => rw [hc] at this; simpa using this
theorem dec_good (u : Nat) : good (decDigits u) = true := by
  have h1 := dec_ne u
  have h2 := dec_all u
  have h3 : (decDigits u).length = 1 ∨ ¬ (decDigits u).head? = some 48 := by
    rcases Nat.eq_zero_or_pos u with rfl | h
    · left; rw [dec_small (by omega)]; rfl
    · exact .inr (dec_head u h)
  simp only [good, Bool.and_eq_true, Bool.not_eq_true', Bool.or_eq_true, decide_eq_true_eq, List.isEmpty_eq_false_iff, beq_eq_false_iff_ne]
  exact ⟨⟨h1, h2⟩, h3⟩

/-! ### raw's Print and Parse -/
/-- The number of a raw value, printed. -/
def prt (v : Int) (s : Bool) : List UInt8 := if s then itoa (IntKind.i64.wrap v) else decDigits v.toNat
/-- What stands behind a '-' that is taken. -/
def minus (l : List UInt8) (s : Bool) : Bool := s && decide (1 < l.length) && (l.head? == some 45) && !(l.tail.head? == some 48)
def body (l : List UInt8) (s : Bool) : List UInt8 := if minus l s then l.tail else l
/-- The value and the error's number. -/
def pz (l : List UInt8) (s : Bool) : Int × Int :=
  if good (body l s) = false then (0, 8)
  else if minus l s then (if 9223372036854775808 < val (body l s) then (0, 9) else (IntKind.u64.wrap (-(val (body l s) : Int)), 0))
  else if (if s then 9223372036854775808 else 18446744073709551616) ≤ val (body l s) then (0, 9) else (val (body l s), 0)
theorem pz_err (l : List UInt8) (s : Bool) : (pz l s).2 = 0 ∨ (pz l s).2 = 8 ∨ (pz l s).2 = 9 := by
  unfold pz; repeat' split
  all_goals simp
theorem pz_zero (l : List UInt8) (s : Bool) (h : (pz l s).2 ≠ 0) : (pz l s).1 = 0 := by
  by_cases g : good (body l s) = false
  · rw [pz, if_pos g]
  · by_cases m : minus l s = true
    · by_cases c : 9223372036854775808 < val (body l s)
      · rw [pz, if_neg g, if_pos m, if_pos c]
      · rw [pz, if_neg g, if_pos m, if_neg c] at h; exact absurd rfl h
    · by_cases c : (if s then 9223372036854775808 else 18446744073709551616) ≤ val (body l s)
      · rw [pz, if_neg g, if_neg m, if_pos c]
      · rw [pz, if_neg g, if_neg m, if_neg c] at h; exact absurd rfl h
theorem pz_bounds (l : List UInt8) (s : Bool) : 0 ≤ (pz l s).1 ∧ (pz l s).1 < 18446744073709551616 := by
  unfold pz
  rw [IntKind.wrap_u64]
  repeat' split
  all_goals (try simp only)
  all_goals omega

theorem i64_wrap (v : Int) (hv : 0 ≤ v) (hv' : v < 18446744073709551616) : IntKind.i64.wrap v = if v < 9223372036854775808 then v else v - 18446744073709551616 := by
  rw [IntKind.wrap_i64]; split <;> omega
theorem minus_false (l : List UInt8) : minus l false = false := rfl
theorem minus_digits {l : List UInt8} (h : l.head? ≠ some 45) (s : Bool) : minus l s = false := by simp [minus, h]
theorem head_digit {l : List UInt8} (h : l.all isDig = true) : l.head? ≠ some 45 := by
  cases l with
  | nil => simp
  | cons c r =>
    simp only [List.all_cons, Bool.and_eq_true] at h
    have := isDig_iff.1 h.1
    intro e
    obtain rfl : c = 45 := by simpa using e
    have h45 : (45 : UInt8).toNat = 45 := rfl
    omega
/-- What is printed is read as it was. -/
theorem there (v : Int) (s : Bool) (hv : 0 ≤ v) (hv' : v < 18446744073709551616) : pz (prt v s) s = (v, 0) := by
  cases s
  · obtain ⟨u, rfl⟩ := Int.eq_ofNat_of_zero_le hv
    have e : prt (u : Int) false = decDigits u := by simp [prt]
    rw [e, pz, minus_false]
    have hb : body (decDigits u) false = decDigits u := rfl
    rw [hb, if_neg (by rw [dec_good]; simp), if_neg (by simp), dec_val, if_neg (by simp; omega)]
  · by_cases hlt : v < 9223372036854775808
    · obtain ⟨u, rfl⟩ := Int.eq_ofNat_of_zero_le hv
      have e : prt (u : Int) true = decDigits u := by
        simp only [prt, if_pos]
        rw [i64_wrap _ hv hv', if_pos hlt, itoa, if_neg (by omega)]; simp
      have hm := minus_digits (head_digit (dec_all u)) true
      have hb : body (decDigits u) true = decDigits u := by rw [body, hm]; rfl
      rw [e, pz, hb, hm, if_neg (by rw [dec_good]; simp), if_neg (by simp), dec_val, if_neg (by simp; omega)]
    · obtain ⟨u, hu⟩ : ∃ u : Nat, v = 18446744073709551616 - (u : Int) := ⟨(18446744073709551616 - v).toNat, by omega⟩
      have e : prt v true = 45 :: decDigits u := by
        simp only [prt, if_pos]
        rw [i64_wrap _ hv hv', if_neg hlt, itoa, if_pos (by omega)]
        congr 2
        omega
      have hh := dec_head u (by omega)
      have hm : minus (45 :: decDigits u) true = true := by
        have hl := List.length_pos_iff.2 (dec_ne u)
        simp [minus, hh]
        omega
      have hb : body (45 :: decDigits u) true = decDigits u := by rw [body, hm]; rfl
      rw [e, pz, hb, hm, if_neg (by rw [dec_good]; simp), if_pos rfl, dec_val, if_neg (by omega), IntKind.wrap_u64]
      congr 1
      omega
/-- What is read is what is printed. -/
theorem print_back (l : List UInt8) (s : Bool) (h : (pz l s).2 = 0) : prt (pz l s).1 s = l := by
  by_cases g : good (body l s) = false
  · rw [pz, if_pos g] at h; cases h
  have g' : good (body l s) = true := by simpa using g
  by_cases m : minus l s = true
  · by_cases c : 9223372036854775808 < val (body l s)
    · rw [pz, if_neg g, if_pos m, if_pos c] at h; cases h
    · rw [pz, if_neg g, if_pos m, if_neg c]
      have hb : body l s = l.tail := by rw [body, m]; rfl
      have hs : s = true := by simp [minus] at m; exact m.1.1.1
      have hc : l.head? = some 45 := by simp [minus] at m; exact m.1.2
      have ht : ¬ l.tail.head? = some 48 := by have m' := m; simp [minus] at m'; simpa using m'.2
      subst hs
      have hl : l = 45 :: l.tail := by
        cases l with
        | nil => cases hc
        | cons x y => simp at hc; simp [hc]
      rw [hb] at g' c ⊢
      have hp := (back_pos _ l.tail rfl (good_ne g') (good_all g') ht)
      have hbk := hp.1
      have hpos := hp.2
      generalize hn : val l.tail = n at *
      simp only [prt, if_pos]
      rw [i64_wrap _ (by rw [IntKind.wrap_u64]; omega) (by rw [IntKind.wrap_u64]; omega), IntKind.wrap_u64, if_neg (by omega), itoa, if_pos (by omega)]
      rw [show ((-(n : Int)) % 18446744073709551616 - 18446744073709551616).natAbs = n by omega, hbk]
      exact hl.symm
  · have hb : body l s = l := by rw [body, if_neg m]
    by_cases c : (if s then 9223372036854775808 else 18446744073709551616) ≤ val (body l s)
    · rw [pz, if_neg g, if_neg m, if_pos c] at h; cases h
    · rw [pz, if_neg g, if_neg m, if_neg c]
      rw [hb] at g' c ⊢
      have hbk := back g'
      cases s
      · simp only [prt, Bool.false_eq_true, if_false, Int.toNat_natCast]
        exact hbk
      · simp only [if_true] at c
        simp only [prt, if_true]
        rw [i64_wrap _ (by omega) (by omega), if_pos (by omega), itoa, if_neg (by omega), Int.toNat_natCast]
        exact hbk
end Go.Bus.textK
