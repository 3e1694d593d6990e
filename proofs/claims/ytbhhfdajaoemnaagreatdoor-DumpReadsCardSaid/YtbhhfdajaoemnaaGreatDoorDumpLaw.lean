/- Plain: the lines of a trace as lists of bytes: printed, read, there and back. No program in sight. -/
import Derived.Test.YtbhhfdajaoemnaaGreatDoorHexLaw
import Derived.Test.YtbhhfdajaoemnaaGreatDoorTextLaw
import Derived.Lib.Case
import Derived.Lib.Repeat
namespace Go.Bus.dumpK
open Go.Bus.hexK Go.Bus.textK Go.Lib
set_option linter.unusedVariables false
def hexU (d : Nat) : UInt8 := if d < 10 then UInt8.ofNat (48 + d) else UInt8.ofNat (55 + d)
theorem upper_hexd {d : Nat} (h : d < 16) : upperB (hexd d) = hexU d := by
  have key : ∀ d : Fin 16, upperB (hexd d.val) = hexU d.val := by decide
  exact key ⟨d, h⟩
/-- n digits to the base b. -/
def numN (b : Nat) : Nat → Nat → List UInt8
  | 0, _ => []
  | n + 1, v => numN b n (v / b) ++ [hexU (v % b)]
theorem numN_len (b : Nat) : ∀ n v, (numN b n v).length = n
  | 0, _ => rfl
  | n + 1, v => by rw [numN, List.length_append, numN_len b n]; rfl
theorem numN_zero (b : Nat) : ∀ n, numN b n 0 = List.replicate n 48
  | 0 => rfl
  | n + 1 => by
    rw [numN, Nat.zero_div, Nat.zero_mod, numN_zero b n, List.replicate_succ']; rfl
/-- A text brought to n bytes by noughts ahead. -/
def padN (n : Nat) (t : List UInt8) : List UInt8 := repeatL [48] (n - t.length) ++ t
theorem repeat_one (c : UInt8) : ∀ n, repeatL [c] n = List.replicate n c
  | 0 => rfl
  | n + 1 => by rw [repeatL, repeat_one c n, List.replicate_succ]; rfl
theorem pad_law {b : Nat} (hb : 2 ≤ b) (hb16 : b ≤ 16) (f : Nat → List UInt8) (h1 : ∀ v, v < b → f v = [hexd v]) (h2 : ∀ v, ¬ v < b → f v = f (v / b) ++ [hexd (v % b)]) : ∀ n v, v < b ^ n → 1 ≤ n → (f v).length ≤ n ∧ padN n (toUpperA (f v)) = numN b n v := by
  intro n
  induction n with
  | zero => intro v _ h; omega
  | succ n ih =>
    intro v hv _
    by_cases h : v < b
    · rw [h1 v h]
      refine ⟨by simp, ?_⟩
      show repeatL [48] (n + 1 - 1) ++ [upperB (hexd v)] = numN b n (v / b) ++ [hexU (v % b)]
      rw [upper_hexd (by omega), Nat.div_eq_of_lt h, Nat.mod_eq_of_lt h, numN_zero, repeat_one, Nat.add_sub_cancel]
    · have hv' : v / b < b ^ n := by rw [Nat.pow_succ, Nat.mul_comm] at hv; exact Nat.div_lt_of_lt_mul hv
      have hn : 1 ≤ n := by
        rcases Nat.eq_zero_or_pos n with h0 | h0
        · subst h0; simp at hv; omega
        · exact h0
      obtain ⟨i1, i2⟩ := ih (v / b) hv' hn
      rw [h2 v h]
      refine ⟨by rw [List.length_append]; simp; omega, ?_⟩
      have hl : (toUpperA (f (v / b) ++ [hexd (v % b)])).length = (toUpperA (f (v / b))).length + 1 := by simp [toUpperA]
      have hm : v % b < 16 := by have := Nat.mod_lt v (show 0 < b by omega); omega
      unfold padN at i2 ⊢
      rw [hl, Nat.add_sub_add_right, numN, ← i2, List.append_assoc]
      congr 1
      unfold toUpperA
      rw [List.map_append, List.map_cons, List.map_nil, upper_hexd hm]
theorem dgt_hexd {m : Nat} : dgt m = hexd (m % 10) := by
  unfold dgt hexd
  rw [if_pos (Nat.mod_lt _ (by decide))]
theorem pad10 {v : Nat} (h : v < 1000000) : (decDigits v).length ≤ 6 ∧ padN 6 (toUpperA (decDigits v)) = numN 10 6 v :=
  pad_law (by decide) (by decide) decDigits (fun v h => by rw [dec_small h, dgt_hexd, Nat.mod_eq_of_lt h]) (fun v h => by rw [dec_big h, dgt_hexd]) 6 v h (by decide)
theorem pad16 {n v : Nat} (h : v < 16 ^ n) (hn : 1 ≤ n) : (hexs v).length ≤ n ∧ padN n (toUpperA (hexs v)) = numN 16 n v :=
  pad_law (by decide) (by decide) hexs (fun v h => hexs_lt h) (fun v h => hexs_ge h) n v h hn
/-! ## digits read -/
def dval (c : UInt8) : Option Nat := if 48 ≤ c.toNat ∧ c.toNat ≤ 57 then some (c.toNat - 48) else if 65 ≤ c.toNat ∧ c.toNat ≤ 70 then some (c.toNat - 55) else none
def dv (c : UInt8) : Nat := (dval c).getD 0
def isD (b : Nat) (c : UInt8) : Bool := match dval c with | some d => decide (d < b) | none => false
def allD (b : Nat) (l : List UInt8) : Bool := l.all (isD b)
def valN (b : Nat) (l : List UInt8) : Nat := l.foldl (fun a c => b * a + dv c) 0
theorem valN_snoc (b : Nat) (l : List UInt8) (c : UInt8) : valN b (l ++ [c]) = b * valN b l + dv c := by simp [valN]
theorem dval_hexU {d : Nat} (h : d < 16) : dval (hexU d) = some d := by
  have key : ∀ d : Fin 16, dval (hexU d.val) = some d.val := by decide
  exact key ⟨d, h⟩
theorem hexU_dval {c : UInt8} {d : Nat} (h : dval c = some d) : hexU d = c ∧ d < 16 := by
  have key : ∀ c : Fin 256, ∀ d : Fin 256, dval (UInt8.ofNat c.val) = some d.val → hexU d.val = UInt8.ofNat c.val ∧ d.val < 16 := by
    intro c d h
    unfold dval at h
    have hc : (UInt8.ofNat c.val).toNat = c.val := by rw [UInt8.toNat_ofNat']; omega
    rw [hc] at h
    split at h
    · have hd : c.val - 48 = d.val := Option.some.inj h
      unfold hexU
      refine ⟨?_, by omega⟩
      rw [if_pos (by omega)]
      congr 1; omega
    · split at h
      · have hd : c.val - 55 = d.val := Option.some.inj h
        unfold hexU
        refine ⟨?_, by omega⟩
        rw [if_neg (by omega)]
        congr 1; omega
      · cases h
  have hc : UInt8.ofNat c.toNat = c := by simp
  have hd : d < 256 := by
    unfold dval at h
    have := UInt8.toNat_lt c
    split at h
    · have := Option.some.inj h; omega
    · split at h
      · have := Option.some.inj h; omega
      · cases h
  have := key ⟨c.toNat, UInt8.toNat_lt c⟩ ⟨d, hd⟩ (by simpa using h)
  simpa using this
theorem isD_hexU {b d : Nat} (h : d < b) (hb : b ≤ 16) : isD b (hexU d) = true := by
  unfold isD; rw [dval_hexU (by omega)]; simpa using h
theorem dv_hexU {d : Nat} (h : d < 16) : dv (hexU d) = d := by unfold dv; rw [dval_hexU h]; rfl
theorem isD_dv {b : Nat} {c : UInt8} (h : isD b c = true) : dv c < b ∧ hexU (dv c) = c := by
  unfold isD at h
  unfold dv
  cases e : dval c with
  | none => rw [e] at h; cases h
  | some d =>
    rw [e] at h
    exact ⟨of_decide_eq_true h, (hexU_dval e).1⟩
theorem allD_numN {b : Nat} (hb : 1 ≤ b) (hb16 : b ≤ 16) : ∀ n v, allD b (numN b n v) = true
  | 0, _ => rfl
  | n + 1, v => by
    have ih := allD_numN hb hb16 n (v / b)
    unfold allD at ih ⊢
    rw [numN, List.all_append, ih, List.all_cons, isD_hexU (Nat.mod_lt _ hb) hb16]; rfl
theorem valN_numN {b : Nat} (hb : 1 ≤ b) (hb16 : b ≤ 16) : ∀ n v, v < b ^ n → valN b (numN b n v) = v
  | 0, v, h => by simp at h; subst h; rfl
  | n + 1, v, h => by
    have hv' : v / b < b ^ n := by rw [Nat.pow_succ, Nat.mul_comm] at h; exact Nat.div_lt_of_lt_mul h
    have hm := Nat.mod_lt v (show 0 < b by omega)
    rw [numN, valN_snoc, valN_numN hb hb16 n _ hv', dv_hexU (by omega), Nat.div_add_mod]
theorem snoc_cases (l : List UInt8) : l = [] ∨ ∃ r c, l = r ++ [c] := by
  rcases List.eq_nil_or_concat l with h | ⟨r, c, h⟩
  · exact .inl h
  · exact .inr ⟨r, c, by simpa using h⟩
theorem numN_valN {b : Nat} (hb : 1 ≤ b) : ∀ n (l : List UInt8), l.length = n → allD b l = true → numN b n (valN b l) = l ∧ valN b l < b ^ n := by
  intro n
  induction n with
  | zero => intro l h _; obtain rfl := List.eq_nil_of_length_eq_zero h; exact ⟨rfl, by simp [valN]⟩
  | succ n ih =>
    intro l h ha
    rcases snoc_cases l with rfl | ⟨r, c, rfl⟩
    · simp at h
    · unfold allD at ha
      rw [List.all_append, Bool.and_eq_true] at ha
      have hc : isD b c = true := by simpa using ha.2
      obtain ⟨i1, i2⟩ := ih r (by simpa using h) ha.1
      obtain ⟨d1, d2⟩ := isD_dv hc
      rw [valN_snoc]
      have e1 : (b * valN b r + dv c) / b = valN b r := by
        rw [Nat.mul_add_div (by omega), Nat.div_eq_of_lt d1, Nat.add_zero]
      have e2 : (b * valN b r + dv c) % b = dv c := by
        rw [Nat.mul_add_mod, Nat.mod_eq_of_lt d1]
      refine ⟨by rw [numN, e1, e2, i1, d2], ?_⟩
      have h3 : b * (valN b r + 1) ≤ b * b ^ n := Nat.mul_le_mul_left b i2
      rw [Nat.pow_succ, Nat.mul_comm (b ^ n) b]
      rw [Nat.mul_add, Nat.mul_one] at h3
      omega
theorem valN_append (b : Nat) (x : List UInt8) : ∀ (y : List UInt8), valN b (x ++ y) = valN b x * b ^ y.length + valN b y := by
  intro y
  have key : ∀ n (y : List UInt8), y.length = n → valN b (x ++ y) = valN b x * b ^ n + valN b y := by
    intro n
    induction n with
    | zero => intro y h; obtain rfl := List.eq_nil_of_length_eq_zero h; simp [valN]
    | succ n ih =>
      intro y h
      rcases snoc_cases y with rfl | ⟨r, c, rfl⟩
      · simp at h
      · rw [← List.append_assoc, valN_snoc, valN_snoc, ih r (by simpa using h), Nat.mul_add, Nat.pow_succ, Nat.add_assoc]
        congr 1
        rw [← Nat.mul_assoc, Nat.mul_comm b, Nat.mul_assoc, Nat.mul_comm b]
  exact key _ y rfl
theorem isD_dig {c : UInt8} : isD 10 c = isDig c := by
  have key : ∀ c : Fin 256, isD 10 (UInt8.ofNat c.val) = isDig (UInt8.ofNat c.val) := by decide +kernel
  have := key ⟨c.toNat, UInt8.toNat_lt c⟩
  simpa using this
theorem allD_dig (l : List UInt8) : allD 10 l = l.all isDig := by
  unfold allD
  congr 1
  funext c
  exact isD_dig
theorem dv_dig {c : UInt8} (h : isDig c = true) : dv c = c.toNat - 48 := by
  have := isDig_iff.1 h
  unfold dv dval
  rw [if_pos this]; rfl
theorem valN_val : ∀ n (l : List UInt8), l.length = n → l.all isDig = true → valN 10 l = val l := by
  intro n
  induction n with
  | zero => intro l h _; obtain rfl := List.eq_nil_of_length_eq_zero h; rfl
  | succ n ih =>
    intro l h ha
    rcases snoc_cases l with rfl | ⟨r, c, rfl⟩
    · rfl
    · rw [List.all_append, Bool.and_eq_true] at ha
      rw [valN_snoc, val_snoc, ih r (by simpa using h) ha.1, dv_dig (by simpa using ha.2)]
end Go.Bus.dumpK
