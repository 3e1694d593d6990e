/- Texts of this claim, one behind the other. No condition but those that each states. -/
import Derived.Lib.ItoaNum
import Derived.Lib.Fields

/- Numbers to the base 16. Plain. No condition. -/
namespace Go.Bus.hexK
set_option linter.unusedVariables false
def hexd (d : Nat) : UInt8 := if d < 10 then UInt8.ofNat (48 + d) else UInt8.ofNat (87 + d)
def hexs (n : Nat) : List UInt8 := if h : n < 16 then [hexd n] else hexs (n / 16) ++ [hexd (n % 16)]
termination_by n
decreasing_by omega
theorem hexs_lt {n : Nat} (h : n < 16) : hexs n = [hexd n] := by rw [hexs]; simp [h]
theorem hexs_ge {n : Nat} (h : ¬ n < 16) : hexs n = hexs (n / 16) ++ [hexd (n % 16)] := by rw [hexs]; simp [h]
theorem hexs_pos (n : Nat) : 1 ≤ (hexs n).length := by
  by_cases h : n < 16
  · rw [hexs_lt h]; simp
  · rw [hexs_ge h]; simp
theorem hexs_len {n k : Nat} (h : n < 16 ^ k) (hk : 1 ≤ k) : (hexs n).length ≤ k := by
  induction k generalizing n with
  | zero => omega
  | succ k ih =>
    by_cases h1 : n < 16
    · rw [hexs_lt h1]; simp
    · rw [hexs_ge h1]
      have hk1 : 1 ≤ k := by
        rcases Nat.eq_zero_or_pos k with h0 | h0
        · subst h0; simp at h; omega
        · exact h0
      have := ih (n := n / 16) (by rw [Nat.pow_succ, Nat.mul_comm] at h; exact Nat.div_lt_of_lt_mul h) hk1
      simp; omega
end Go.Bus.hexK

namespace Go.Bus.hexK
set_option linter.unusedVariables false
/-- The value of a digit, of either case. -/
def hexdig (c : UInt8) : Option Nat :=
  if 48 ≤ c.toNat ∧ c.toNat ≤ 57 then some (c.toNat - 48) else
  if 97 ≤ c.toNat ∧ c.toNat ≤ 102 then some (c.toNat - 87) else
  if 65 ≤ c.toNat ∧ c.toNat ≤ 70 then some (c.toNat - 55) else none
def hexRd : List UInt8 → Nat → Option Nat
  | [], n => some n
  | c :: r, n => match hexdig c with
    | none => none
    | some d => if n < 1152921504606846976 then hexRd r (n * 16 + d) else none
theorem hexdig_lt {c : UInt8} {d : Nat} (h : hexdig c = some d) : d < 16 := by
  unfold hexdig at h
  split at h
  · cases h; omega
  · split at h
    · cases h; omega
    · split at h
      · cases h; omega
      · cases h
theorem hexRd_append : ∀ (a b : List UInt8) (n : Nat), hexRd (a ++ b) n = (hexRd a n).bind fun m => hexRd b m
  | [], b, n => rfl
  | c :: a, b, n => by
    simp only [List.cons_append, hexRd]
    cases hexdig c with
    | none => rfl
    | some d =>
      simp only []
      by_cases h : n < 1152921504606846976
      · rw [if_pos h, if_pos h]; exact hexRd_append a b _
      · rw [if_neg h, if_neg h]; rfl
theorem hexdig_hexd : ∀ d : Nat, d < 16 → hexdig (hexd d) = some d := by
  have key : ∀ d : Fin 16, hexdig (hexd d.val) = some d.val := by decide
  intro d h
  exact key ⟨d, h⟩
theorem hexRd_hexs (m : Nat) : m < 18446744073709551616 → hexRd (hexs m) 0 = some m := by
  induction m using Nat.strongRecOn with
  | _ m ih =>
    intro hm
    by_cases h : m < 16
    · rw [hexs_lt h]
      simp only [hexRd, hexdig_hexd m h]
      simp
    · rw [hexs_ge h, hexRd_append, ih (m / 16) (by omega) (by omega)]
      simp only [Option.bind, hexRd, hexdig_hexd (m % 16) (by omega)]
      rw [if_pos (by omega)]
      congr 1; omega
end Go.Bus.hexK

/- Instructions and their bytes: what the layer code computes, on lists of integers. Plain. No condition. -/
namespace Go.Bus.codeK
inductive Wh | A | B | N | I
  deriving DecidableEq
structure Ins where
  op : Int
  a : Int
  b : Int
  n : Int
  imm : Int
  deriving DecidableEq
def Ins.at_ (x : Ins) : Wh → Int
  | .A => x.a | .B => x.b | .N => x.n | .I => x.imm
def Ins.put (x : Ins) (h : Wh) (v : Int) : Ins :=
  match h with
  | .A => { x with a := v } | .B => { x with b := v } | .N => { x with n := v } | .I => { x with imm := v }
structure Ins.Ok (x : Ins) : Prop where
  op : -9223372036854775808 ≤ x.op ∧ x.op ≤ 9223372036854775807
  a : -9223372036854775808 ≤ x.a ∧ x.a ≤ 9223372036854775807
  b : -9223372036854775808 ≤ x.b ∧ x.b ≤ 9223372036854775807
  n : -9223372036854775808 ≤ x.n ∧ x.n ≤ 9223372036854775807
  imm : 0 ≤ x.imm ∧ x.imm < 18446744073709551616
inductive Fk
  | small (h : Wh) (lo hi : Int) (s : ByteArray)
  | skip | bytes | number | sign
def Fk.wh : Fk → Wh
  | .small h _ _ _ => h | .skip => .N | .bytes => .N | .number => .I | .sign => .I
/-- What the kinds of a field bear in this program. -/
def Fk.ok : Fk → Prop
  | .small h lo hi s => h ≠ .I ∧ 0 ≤ lo ∧ hi < 256 ∧ s.size ≤ 1
  | _ => True
def rS : ByteArray := ⟨#[114]⟩
def eS : ByteArray := ⟨#[]⟩
def reg : Fk := .small .A 0 15 rS
def other : Fk := .small .B 0 15 rS
def slot : Fk := .small .B 0 63 eS
def start : Fk := .small .B 0 7 eS
def shift : Fk := .small .N 0 63 eS
def width : Fk := .small .N 1 64 eS
def fieldsN : Nat → Option (List Fk)
  | 0 => some []
  | 1 => some [reg, .number]
  | 2 => some [reg, other]
  | 3 => some [reg, other]
  | 4 => some [reg, other]
  | 5 => some [reg, other]
  | 6 => some [reg, shift]
  | 7 => some [reg, shift]
  | 8 => some [reg, .number]
  | 9 => some [reg, start, .bytes]
  | 10 => some [reg, start, .bytes]
  | 11 => some [reg, start, .bytes]
  | 12 => some [reg, start, .bytes]
  | 13 => some [reg, start, .bytes, .number]
  | 14 => some [reg, width]
  | 15 => some [reg, slot]
  | 16 => some [reg, slot]
  | 17 => some [reg, slot, width, .sign]
  | 18 => some [.skip]
  | 19 => some [reg, .skip, .number]
  | _ => none
def fieldsOf (op : Int) : Option (List Fk) := if 0 ≤ op then fieldsN op.toNat else none
def okF : Fk → Ins → Bool
  | .small h lo hi _, x => decide (lo ≤ x.at_ h) && decide (x.at_ h ≤ hi)
  | .skip, x => decide (0 ≤ x.n) && decide (x.n ≤ 16384)
  | .bytes, x => decide (1 ≤ x.n) && decide (x.n ≤ 8) && decide (x.b + x.n ≤ 8)
  | .number, _ => true
  | .sign, x => decide (x.imm ≤ 1)
/-- A number in sevens. -/
def sev (v : Nat) : List Int := if h : v < 128 then [(v : Int)] else ((v % 128 + 128 : Nat) : Int) :: sev (v / 128)
termination_by v
decreasing_by omega
def wrF : Fk → Ins → List Int
  | .small h _ _ _, x => [x.at_ h]
  | .skip, x => sev x.n.toNat
  | .bytes, x => [x.n]
  | .number, x => sev x.imm.toNat
  | .sign, x => sev x.imm.toNat
inductive Got | short | form | ok (v : Nat) (r : List Int)
/-- A number in sevens, read: the k-th byte on. -/
def sevGo : List Int → Nat → Nat → Got
  | [], _, _ => .short
  | c :: r, k, v => if (k = 9 ∧ 1 < c) ∨ (c = 0 ∧ 0 < k) then .form else if c < 128 then .ok (v + c.toNat * 128 ^ k) r else sevGo r (k + 1) (v + (c.toNat - 128) * 128 ^ k)
inductive Rd | short | form | got (r : List Int) (x : Ins)
def rdNum (h : Wh) (f : Nat → Int) (l : List Int) (x : Ins) : Rd :=
  match sevGo l 0 0 with
  | .short => .short | .form => .form | .ok v r => .got r (x.put h (f v))
def rdByte (h : Wh) (l : List Int) (x : Ins) : Rd :=
  match l with
  | [] => .short | c :: r => .got r (x.put h c)
def rdF : Fk → List Int → Ins → Rd
  | .small h _ _ _ => rdByte h
  | .bytes => rdByte .N
  | .skip => rdNum .N fun v => (min v 16385 : Nat)
  | .number => rdNum .I fun v => v
  | .sign => rdNum .I fun v => v
def setAll (fs : List Fk) (x y : Ins) : Ins := fs.foldl (fun y f => y.put f.wh (x.at_ f.wh)) y
def zero (op : Int) : Ins := ⟨op, 0, 0, 0, 0⟩
def rightB (x : Ins) : Bool :=
  match fieldsOf x.op with
  | none => false
  | some fs => fs.all (okF · x) && decide (setAll fs x (zero x.op) = x)
def bodyI (x : Ins) : List Int := ((fieldsOf x.op).getD []).flatMap (wrF · x)
def encI (x : Ins) : List Int := x.op :: bodyI x
def encP (p : List Ins) : List Int := p.flatMap encI
/-- The fields read one behind the other; or the error, and where. -/
def rdAll (L : Nat) : List Fk → List Int → Ins → Except (Int × Nat) (List Int × Ins)
  | [], l, x => .ok (l, x)
  | f :: fs, l, x =>
    match rdF f l x with
    | .short => .error (2, L)
    | .form => .error (4, L - l.length)
    | .got r y => rdAll L fs r y
def decGo (L : Nat) (l : List Int) (p : List Ins) : Except (Int × Nat) (List Ins) :=
  match l with
  | [] => .ok p
  | c :: r =>
    if p.length = 16384 then .error (5, L - (r.length + 1)) else
    match fieldsOf c with
    | none => .error (20, L - (r.length + 1))
    | some fs =>
      match rdAll L fs r (zero c) with
      | .error e => .error e
      | .ok (r', x) =>
        if rightB x then (if r'.length ≤ r.length then decGo L r' (p ++ [x]) else .error (0, 0)) else .error (20, L - (r.length + 1))
termination_by l.length
decreasing_by simp; omega
/-! ## laws -/
theorem Ins.at_put (x : Ins) (h : Wh) (v : Int) : (x.put h v).at_ h = v := by cases h <;> rfl
theorem Ins.at_put_ne (x : Ins) {h k : Wh} (hk : k ≠ h) (v : Int) : (x.put h v).at_ k = x.at_ k := by cases h <;> cases k <;> first | rfl | exact absurd rfl hk
theorem Ins.op_put (x : Ins) (h : Wh) (v : Int) : (x.put h v).op = x.op := by cases h <;> rfl
theorem sev_lt {v : Nat} (h : v < 128) : sev v = [(v : Int)] := by rw [sev]; simp [h]
theorem sev_ge {v : Nat} (h : ¬ v < 128) : sev v = ((v % 128 + 128 : Nat) : Int) :: sev (v / 128) := by rw [sev]; simp [h]
theorem sev_pos (v : Nat) : 1 ≤ (sev v).length := by
  by_cases h : v < 128
  · rw [sev_lt h]; simp
  · rw [sev_ge h]; simp
def Byte (c : Int) : Prop := 0 ≤ c ∧ c < 256
theorem sev_byte (v : Nat) : ∀ c ∈ sev v, Byte c := by
  induction v using Nat.strongRecOn with
  | ind v ih =>
    intro c hc
    by_cases h : v < 128
    · rw [sev_lt h] at hc; simp at hc; subst hc; exact ⟨by omega, by omega⟩
    · rw [sev_ge h] at hc
      rcases List.mem_cons.1 hc with rfl | h1
      · exact ⟨by omega, by omega⟩
      · exact ih _ (by omega) c h1
theorem k_cases {k : Nat} (h : k ≤ 9) : k = 0 ∨ k = 1 ∨ k = 2 ∨ k = 3 ∨ k = 4 ∨ k = 5 ∨ k = 6 ∨ k = 7 ∨ k = 8 ∨ k = 9 := by omega
theorem sevGo_sev (v : Nat) : ∀ (k u : Nat) (r : List Int), k ≤ 9 → (0 < k → v ≠ 0) → v * 128 ^ k < 18446744073709551616 → sevGo (sev v ++ r) k u = .ok (u + v * 128 ^ k) r := by
  induction v using Nat.strongRecOn with
  | ind v ih =>
    intro k u r hk h0 hv
    by_cases h : v < 128
    · rw [sev_lt h]
      simp only [List.cons_append, List.nil_append, sevGo]
      rw [if_neg (by
        rintro (⟨rfl, h1⟩ | ⟨h1, h2⟩)
        · simp at hv; omega
        · exact h0 h2 (by omega)), if_pos (by omega)]
      simp
    · have hk8 : k ≤ 8 := by
        rcases Nat.lt_or_ge k 9 with h1 | h1
        · omega
        · obtain rfl : k = 9 := by omega
          simp at hv; omega
      have e : v / 128 * 128 ^ (k + 1) + v % 128 * 128 ^ k = v * 128 ^ k := by
        rw [Nat.pow_succ, Nat.mul_comm (128 ^ k) 128, ← Nat.mul_assoc, ← Nat.add_mul]
        congr 1; omega
      rw [sev_ge h]
      simp only [List.cons_append, sevGo]
      rw [if_neg (by
        rintro (⟨rfl, h1⟩ | ⟨h1, h2⟩)
        · omega
        · omega), if_neg (by omega), ih (v / 128) (by omega) (k + 1) _ r (by omega) (by omega) (by omega)]
      congr 1
      have : ((v % 128 + 128 : Nat) : Int).toNat - 128 = v % 128 := by omega
      rw [this]; omega
theorem sev_bound {k d v : Nat} (hk : k ≤ 8) (hd : d < 128) (h : v * 128 ^ (k + 1) < 18446744073709551616) : (d + 128 * v) * 128 ^ k < 18446744073709551616 := by
  obtain ⟨Q, hQ⟩ : ∃ Q, 128 ^ (k + 1) * Q = 18446744073709551616 := by
    rcases k_cases (show k ≤ 9 by omega) with rfl | rfl | rfl | rfl | rfl | rfl | rfl | rfl | rfl | rfl
    · exact ⟨2 ^ 57, by decide⟩
    · exact ⟨2 ^ 50, by decide⟩
    · exact ⟨2 ^ 43, by decide⟩
    · exact ⟨2 ^ 36, by decide⟩
    · exact ⟨2 ^ 29, by decide⟩
    · exact ⟨2 ^ 22, by decide⟩
    · exact ⟨2 ^ 15, by decide⟩
    · exact ⟨2 ^ 8, by decide⟩
    · exact ⟨2, by decide⟩
    · omega
  rw [← hQ] at h ⊢
  have h1 : v < Q := by
    rw [Nat.mul_comm] at h
    exact Nat.lt_of_mul_lt_mul_left h
  have h2 : (d + 128 * v) * 128 ^ k < 128 * (v + 1) * 128 ^ k := Nat.mul_lt_mul_of_pos_right (by omega) (Nat.pow_pos (by decide))
  have h3 : 128 * (v + 1) * 128 ^ k = 128 ^ (k + 1) * (v + 1) := by rw [Nat.pow_succ, Nat.mul_comm (128 ^ k) 128, Nat.mul_assoc, Nat.mul_assoc, Nat.mul_comm (v + 1)]
  have h4 : 128 ^ (k + 1) * (v + 1) ≤ 128 ^ (k + 1) * Q := Nat.mul_le_mul_left _ h1
  omega
theorem sevGo_inv : ∀ (l : List Int) (k u v' : Nat) (r : List Int), (∀ c ∈ l, Byte c) → k ≤ 9 → sevGo l k u = .ok v' r →
    ∃ v, l = sev v ++ r ∧ v' = u + v * 128 ^ k ∧ (0 < k → v ≠ 0) ∧ v * 128 ^ k < 18446744073709551616 ∧ r.length < l.length
  | [], _, _, _, _, _, _, h => by simp [sevGo] at h
  | c :: l, k, u, v', r, hb, hk, h => by
    have hc := hb c (List.mem_cons_self ..)
    unfold Byte at hc
    simp only [sevGo] at h
    split at h
    · cases h
    · rename_i hn
      split at h
      · rename_i hlt
        cases h
        refine ⟨c.toNat, by rw [sev_lt (by omega)]; simp; omega, rfl, fun h0 he => hn (.inr ⟨by omega, h0⟩), ?_, by simp⟩
        rcases Nat.lt_or_ge k 9 with h1 | h1
        · have h2 : 128 ^ k ≤ 128 ^ 8 := Nat.pow_le_pow_right (by decide) (by omega)
          have h3 : c.toNat * 128 ^ k ≤ 127 * 128 ^ 8 := Nat.mul_le_mul (by omega) h2
          exact Nat.lt_of_le_of_lt h3 (by decide)
        · obtain rfl : k = 9 := by omega
          have : c.toNat ≤ 1 := by
            by_cases h2 : 1 < c
            · exact absurd (.inl ⟨rfl, h2⟩) hn
            · omega
          have h3 : c.toNat * 128 ^ 9 ≤ 1 * 128 ^ 9 := Nat.mul_le_mul_right _ this
          exact Nat.lt_of_le_of_lt h3 (by decide)
      · rename_i hge
        have hk8 : k ≤ 8 := by
          rcases Nat.lt_or_ge k 9 with h1 | h1
          · omega
          · exact absurd (.inl ⟨by omega, by omega⟩) hn
        obtain ⟨v1, h1, h2, h3, h4, h5⟩ := sevGo_inv l (k + 1) _ v' r (fun c hc => hb c (List.mem_cons_of_mem _ hc)) (by omega) h
        have hv1 := h3 (by omega)
        refine ⟨c.toNat - 128 + 128 * v1, ?_, ?_, by omega, ?_, by simp; omega⟩
        · rw [sev_ge (by omega), show (c.toNat - 128 + 128 * v1) % 128 = c.toNat - 128 from by omega, show (c.toNat - 128 + 128 * v1) / 128 = v1 from by omega, List.cons_append, ← h1]
          congr 1; omega
        · rw [h2, Nat.pow_succ, Nat.add_mul, Nat.mul_comm (128 ^ k) 128, ← Nat.mul_assoc, Nat.mul_comm v1 128]
          omega
        · have hd : c.toNat - 128 < 128 := by omega
          exact sev_bound hk8 hd h4
theorem rdByte_inv {h : Wh} {l r : List Int} {y z : Ins} (hr : rdByte h l y = .got r z) : ∃ v, z = y.put h v ∧ l = v :: r := by
  cases l with
  | nil => cases hr
  | cons c l => simp only [rdByte] at hr; cases hr; exact ⟨c, rfl, rfl⟩
theorem rdNum_inv {h : Wh} {f : Nat → Int} {l r : List Int} {y z : Ins} (hb : ∀ c ∈ l, Byte c) (hr : rdNum h f l y = .got r z) : ∃ v, z = y.put h (f v) ∧ l = sev v ++ r ∧ r.length < l.length := by
  unfold rdNum at hr
  split at hr
  · cases hr
  · cases hr
  · rename_i v r' he
    cases hr
    obtain ⟨u, h1, h2, _, _, h5⟩ := sevGo_inv l 0 0 v r hb (by omega) he
    exact ⟨u, by rw [h2]; simp, h1, h5⟩
theorem rdF_len {f : Fk} {l r : List Int} {y z : Ins} (hb : ∀ c ∈ l, Byte c) (hr : rdF f l y = .got r z) : r.length < l.length := by
  cases f with
  | small h lo hi s => obtain ⟨v, _, rfl⟩ := rdByte_inv hr; simp
  | bytes => obtain ⟨v, _, rfl⟩ := rdByte_inv hr; simp
  | skip => obtain ⟨_, _, _, h⟩ := rdNum_inv hb hr; exact h
  | number => obtain ⟨_, _, _, h⟩ := rdNum_inv hb hr; exact h
  | sign => obtain ⟨_, _, _, h⟩ := rdNum_inv hb hr; exact h
theorem rdF_inv {f : Fk} {l r : List Int} {y z : Ins} (hb : ∀ c ∈ l, Byte c) (hr : rdF f l y = .got r z) :
    ∃ v, z = y.put f.wh v ∧ (∀ x : Ins, x.at_ f.wh = v → okF f x = true → l = wrF f x ++ r) ∧ ∃ m, l = m ++ r := by
  cases f with
  | small h lo hi s =>
    obtain ⟨v, h1, rfl⟩ := rdByte_inv hr
    exact ⟨v, h1, fun x hx _ => by simp only [wrF]; rw [show x.at_ h = v from hx]; rfl, [v], rfl⟩
  | bytes =>
    obtain ⟨v, h1, rfl⟩ := rdByte_inv hr
    exact ⟨v, h1, fun x hx _ => by simp only [wrF]; rw [show x.n = v from hx]; rfl, [v], rfl⟩
  | skip =>
    obtain ⟨v, h1, h2, _⟩ := rdNum_inv hb hr
    refine ⟨_, h1, fun x hx ho => ?_, _, h2⟩
    simp only [okF, Bool.and_eq_true, decide_eq_true_eq] at ho
    have e : x.n = (min v 16385 : Nat) := hx
    rw [h2, wrF, show x.n.toNat = v from by omega]
  | number =>
    obtain ⟨v, h1, h2, _⟩ := rdNum_inv hb hr
    refine ⟨_, h1, fun x hx ho => ?_, _, h2⟩
    have e : x.imm = v := hx
    rw [h2, wrF, show x.imm.toNat = v from by omega]
  | sign =>
    obtain ⟨v, h1, h2, _⟩ := rdNum_inv hb hr
    refine ⟨_, h1, fun x hx ho => ?_, _, h2⟩
    have e : x.imm = v := hx
    rw [h2, wrF, show x.imm.toNat = v from by omega]
theorem rd_wr {f : Fk} {x : Ins} (ho : okF f x = true) (hx : x.Ok) (y : Ins) (r : List Int) : rdF f (wrF f x ++ r) y = .got r (y.put f.wh (x.at_ f.wh)) := by
  cases f with
  | small h lo hi s => rfl
  | bytes => rfl
  | skip =>
    simp only [okF, Bool.and_eq_true, decide_eq_true_eq] at ho
    simp only [rdF, wrF, rdNum]
    rw [sevGo_sev x.n.toNat 0 0 r (by omega) (by omega) (by omega)]
    simp only [Fk.wh, Ins.at_]
    congr 2; omega
  | number =>
    have := hx.imm
    simp only [rdF, wrF, rdNum]
    rw [sevGo_sev x.imm.toNat 0 0 r (by omega) (by omega) (by omega)]
    simp only [Fk.wh, Ins.at_]
    congr 2; omega
  | sign =>
    have := hx.imm
    simp only [rdF, wrF, rdNum]
    rw [sevGo_sev x.imm.toNat 0 0 r (by omega) (by omega) (by omega)]
    simp only [Fk.wh, Ins.at_]
    congr 2; omega
theorem rdAll_wr (L : Nat) {x : Ins} (hx : x.Ok) : ∀ (fs : List Fk) (y : Ins) (r : List Int), (∀ f ∈ fs, okF f x = true) → rdAll L fs (fs.flatMap (wrF · x) ++ r) y = .ok (r, setAll fs x y)
  | [], _, _, _ => rfl
  | f :: fs, y, r, h => by
    simp only [rdAll, List.flatMap_cons, List.append_assoc]
    rw [rd_wr (h f (List.mem_cons_self ..)) hx]
    simp only []
    rw [rdAll_wr L hx fs _ r fun g hg => h g (List.mem_cons_of_mem _ hg)]
    rfl
theorem rdAll_inv (L : Nat) : ∀ (fs : List Fk) (l r : List Int) (y z : Ins), (fs.map Fk.wh).Nodup → (∀ c ∈ l, Byte c) → rdAll L fs l y = .ok (r, z) →
    z.op = y.op ∧ (∀ h, h ∉ fs.map Fk.wh → z.at_ h = y.at_ h) ∧ ((∀ f ∈ fs, okF f z = true) → l = fs.flatMap (wrF · z) ++ r) ∧ ∃ m, l = m ++ r
  | [], l, r, y, z, _, _, h => by
    simp only [rdAll, Except.ok.injEq, Prod.mk.injEq] at h
    obtain ⟨rfl, rfl⟩ := h
    exact ⟨rfl, fun _ _ => rfl, fun _ => rfl, [], rfl⟩
  | f :: fs, l, r, y, z, hn, hb, h => by
    simp only [rdAll] at h
    simp only [List.map_cons, List.nodup_cons] at hn
    split at h
    · cases h
    · cases h
    · rename_i r1 y1 he
      obtain ⟨v, rfl, h1, m, hm⟩ := rdF_inv hb he
      have hb1 : ∀ c ∈ r1, Byte c := fun c hc => hb c (by rw [hm]; exact List.mem_append_right _ hc)
      obtain ⟨i1, i2, i3, m2, hm2⟩ := rdAll_inv L fs r1 r _ z hn.2 hb1 h
      refine ⟨by rw [i1, Ins.op_put], fun k hk => ?_, fun hk => ?_, m ++ m2, by rw [hm, hm2, List.append_assoc]⟩
      · simp only [List.map_cons, List.mem_cons, not_or] at hk
        rw [i2 k hk.2, Ins.at_put_ne _ hk.1]
      · have hv : z.at_ f.wh = v := by rw [i2 _ hn.1, Ins.at_put]
        rw [h1 z hv (hk f (List.mem_cons_self ..)), i3 fun g hg => hk g (List.mem_cons_of_mem _ hg), List.flatMap_cons, List.append_assoc]
theorem fields_cases {op : Int} {fs : List Fk} (h : fieldsOf op = some fs) : ∃ k : Nat, op = k ∧ k < 20 ∧ fieldsN k = some fs := by
  unfold fieldsOf at h
  split at h
  · refine ⟨op.toNat, by omega, ?_, h⟩
    rcases Nat.lt_or_ge op.toNat 20 with h1 | h1
    · exact h1
    · exfalso
      generalize op.toNat = k at *
      unfold fieldsN at h
      split at h <;> first | omega | cases h
  · cases h
theorem fields_lists {op : Int} {fs : List Fk} (h : fieldsOf op = some fs) :
    fs = [] ∨ fs = [reg, .number] ∨ fs = [reg, other] ∨ fs = [reg, shift] ∨ fs = [reg, start, .bytes] ∨ fs = [reg, start, .bytes, .number] ∨ fs = [reg, width] ∨ fs = [reg, slot] ∨ fs = [reg, slot, width, .sign] ∨ fs = [.skip] ∨ fs = [reg, .skip, .number] := by
  obtain ⟨k, _, _, h2⟩ := fields_cases h
  unfold fieldsN at h2
  split at h2 <;> cases h2 <;> simp
theorem fields_nodup {op : Int} {fs : List Fk} (h : fieldsOf op = some fs) : (fs.map Fk.wh).Nodup := by
  rcases fields_lists h with rfl | rfl | rfl | rfl | rfl | rfl | rfl | rfl | rfl | rfl | rfl <;> decide
theorem fields_ok {op : Int} {fs : List Fk} (h : fieldsOf op = some fs) : ∀ f ∈ fs, f.ok := by
  have a1 : reg.ok := ⟨by decide, by decide, by decide, by decide⟩
  have a2 : other.ok := ⟨by decide, by decide, by decide, by decide⟩
  have a3 : slot.ok := ⟨by decide, by decide, by decide, by decide⟩
  have a4 : start.ok := ⟨by decide, by decide, by decide, by decide⟩
  have a5 : shift.ok := ⟨by decide, by decide, by decide, by decide⟩
  have a6 : width.ok := ⟨by decide, by decide, by decide, by decide⟩
  have b1 : Fk.skip.ok := trivial
  have b2 : Fk.bytes.ok := trivial
  have b3 : Fk.number.ok := trivial
  have b4 : Fk.sign.ok := trivial
  rcases fields_lists h with rfl | rfl | rfl | rfl | rfl | rfl | rfl | rfl | rfl | rfl | rfl <;> intro f hf <;> simp at hf <;> (first | (rcases hf with rfl | rfl | rfl | rfl) | (rcases hf with rfl | rfl | rfl) | (rcases hf with rfl | rfl) | subst hf) <;> assumption
theorem fields_len {op : Int} {fs : List Fk} (h : fieldsOf op = some fs) : fs.length ≤ 4 := by
  rcases fields_lists h with rfl | rfl | rfl | rfl | rfl | rfl | rfl | rfl | rfl | rfl | rfl <;> simp
/-- Ahead of bytes stands the place where they begin. -/
theorem bytes_at {op : Int} {fs : List Fk} (h : fieldsOf op = some fs) {i : Nat} (hi : fs[i]? = some .bytes) : i = 2 ∧ fs[1]? = some start := by
  have key : ∀ (l : List Fk), (l = [] ∨ l = [reg, .number] ∨ l = [reg, other] ∨ l = [reg, shift] ∨ l = [reg, width] ∨ l = [reg, slot] ∨ l = [reg, slot, width, .sign] ∨ l = [.skip] ∨ l = [reg, .skip, .number]) → l[i]? ≠ some .bytes := by
    intro l hl he
    rcases hl with rfl | rfl | rfl | rfl | rfl | rfl | rfl | rfl | rfl <;>
    (match i, he with
      | 0, he => cases he
      | 1, he => cases he
      | 2, he => cases he
      | 3, he => cases he
      | k + 4, he => simp at he)
  rcases fields_lists h with h1 | h1 | h1 | h1 | h1 | h1 | h1 | h1 | h1 | h1 | h1
  · exact absurd hi (key fs (by simp [h1]))
  · exact absurd hi (key fs (by simp [h1]))
  · exact absurd hi (key fs (by simp [h1]))
  · exact absurd hi (key fs (by simp [h1]))
  · subst h1
    match i, hi with
    | 0, hi => cases hi
    | 1, hi => cases hi
    | 2, hi => exact ⟨rfl, rfl⟩
    | k + 3, hi => simp at hi
  · subst h1
    match i, hi with
    | 0, hi => cases hi
    | 1, hi => cases hi
    | 2, hi => exact ⟨rfl, rfl⟩
    | 3, hi => cases hi
    | k + 4, hi => simp at hi
  · exact absurd hi (key fs (by simp [h1]))
  · exact absurd hi (key fs (by simp [h1]))
  · exact absurd hi (key fs (by simp [h1]))
  · exact absurd hi (key fs (by simp [h1]))
  · exact absurd hi (key fs (by simp [h1]))
theorem right_some {x : Ins} (h : rightB x = true) : ∃ fs, fieldsOf x.op = some fs ∧ (∀ f ∈ fs, okF f x = true) ∧ setAll fs x (zero x.op) = x := by
  unfold rightB at h
  split at h
  · cases h
  · rename_i fs hf
    simp only [Bool.and_eq_true, List.all_eq_true, decide_eq_true_eq] at h
    exact ⟨fs, hf, h.1, h.2⟩
theorem encP_append (p q : List Ins) : encP (p ++ q) = encP p ++ encP q := by unfold encP; rw [List.flatMap_append]
theorem wr_byte {f : Fk} {x : Ins} (hf : f.ok) (h : okF f x = true) : ∀ c ∈ wrF f x, Byte c := by
  cases f with
  | small k lo hi s =>
    simp only [okF, Bool.and_eq_true, decide_eq_true_eq] at h
    unfold Fk.ok at hf
    intro c hc
    simp only [wrF, List.mem_singleton] at hc
    subst hc
    exact ⟨by omega, by omega⟩
  | bytes =>
    simp only [okF, Bool.and_eq_true, decide_eq_true_eq] at h
    intro c hc
    simp only [wrF, List.mem_singleton] at hc
    subst hc
    exact ⟨by omega, by omega⟩
  | skip => exact sev_byte _
  | number => exact sev_byte _
  | sign => exact sev_byte _
theorem encI_byte {x : Ins} (h : rightB x = true) : ∀ c ∈ encI x, Byte c := by
  obtain ⟨fs, h1, h2, h3⟩ := right_some h
  intro c hc
  unfold encI bodyI at hc
  rw [h1] at hc
  rcases List.mem_cons.1 hc with rfl | hc
  · obtain ⟨k, hk, hk2, _⟩ := fields_cases h1
    exact ⟨by omega, by omega⟩
  · obtain ⟨f, hf, hc⟩ := List.mem_flatMap.1 hc
    exact wr_byte (fields_ok h1 f hf) (h2 f hf) c hc
theorem decGo_nil (L : Nat) (p : List Ins) : decGo L [] p = .ok p := by rw [decGo]
theorem decGo_cons (L : Nat) (c : Int) (r : List Int) (p : List Ins) : decGo L (c :: r) p =
    if p.length = 16384 then .error (5, L - (r.length + 1)) else
    match fieldsOf c with
    | none => .error (20, L - (r.length + 1))
    | some fs =>
      match rdAll L fs r (zero c) with
      | .error e => .error e
      | .ok (r', x) =>
        if rightB x then (if r'.length ≤ r.length then decGo L r' (p ++ [x]) else .error (0, 0)) else .error (20, L - (r.length + 1)) := by rw [decGo]
/-- What is decoded is encoded as the very bytes. -/
theorem dec_only (L : Nat) : ∀ (n : Nat) (l : List Int) (p q : List Ins), l.length ≤ n → (∀ c ∈ l, Byte c) → p.length ≤ 16384 → decGo L l p = .ok q →
    ∃ p', q = p ++ p' ∧ l = encP p' ∧ (∀ x ∈ p', rightB x = true) ∧ q.length ≤ 16384 := by
  intro n
  induction n with
  | zero =>
    intro l p q hl hb hp h
    obtain rfl := List.eq_nil_of_length_eq_zero (by omega : l.length = 0)
    rw [decGo_nil] at h; cases h
    exact ⟨[], by simp, rfl, by simp, hp⟩
  | succ n ih =>
    intro l p q hl hb hp h
    cases l with
    | nil =>
      rw [decGo_nil] at h; cases h
      exact ⟨[], by simp, rfl, by simp, hp⟩
    | cons c r =>
      rw [decGo_cons] at h
      split at h
      · cases h
      · rename_i hne
        split at h
        · cases h
        · rename_i fs hf
          split at h
          · cases h
          · rename_i r' x hr
            split at h
            · rename_i hx
              split at h
              · have hb1 : ∀ c ∈ r, Byte c := fun d hd => hb d (List.mem_cons_of_mem _ hd)
                obtain ⟨i1, i2, i3, m, hm⟩ := rdAll_inv L fs r r' (zero c) x (fields_nodup hf) hb1 hr
                have hop : x.op = c := i1
                obtain ⟨fs', g1, g2, _⟩ := right_some hx
                rw [hop, hf] at g1
                cases g1
                have e := i3 g2
                obtain ⟨p', j1, j2, j3, j4⟩ := ih r' (p ++ [x]) q (by simp at hl; omega) (fun d hd => hb1 d (by rw [hm]; exact List.mem_append_right _ hd)) (by simp; omega) h
                refine ⟨x :: p', by rw [j1]; simp, ?_, ?_, j4⟩
                · unfold encP
                  rw [List.flatMap_cons]
                  unfold encI bodyI
                  rw [hop, hf, e, j2]
                  rfl
                · intro y hy
                  rcases List.mem_cons.1 hy with rfl | hy
                  · exact hx
                  · exact j3 y hy
              · cases h
            · cases h
/-- What is encoded is decoded as it was. -/
theorem dec_there (L : Nat) : ∀ (p' p : List Ins), (∀ x ∈ p', rightB x = true ∧ x.Ok) → p.length + p'.length ≤ 16384 → decGo L (encP p') p = .ok (p ++ p')
  | [], p, _, _ => by unfold encP; simp [decGo_nil]
  | x :: p', p, h, hl => by
    obtain ⟨hx, hk⟩ := h x (List.mem_cons_self ..)
    obtain ⟨fs, h1, h2, h3⟩ := right_some hx
    have e : encP (x :: p') = x.op :: (fs.flatMap (wrF · x) ++ encP p') := by
      unfold encP; rw [List.flatMap_cons]; unfold encI bodyI; rw [h1]; rfl
    rw [e, decGo_cons, if_neg (by simp at hl; omega), h1]
    simp only []
    rw [rdAll_wr L hk fs _ _ h2, h3]
    simp only []
    rw [if_pos hx, if_pos (by simp), dec_there L p' (p ++ [x]) (fun y hy => h y (List.mem_cons_of_mem _ hy)) (by simp at hl ⊢; omega)]
    simp
end Go.Bus.codeK

namespace Go.Bus.codeK
set_option linter.unusedVariables false
inductive Le | a | b | k | n | s | h | w | j | i | g
  deriving DecidableEq
def Le.c : Le → UInt8
  | .a => 97 | .b => 98 | .k => 107 | .n => 110 | .s => 115 | .h => 104 | .w => 119 | .j => 106 | .i => 105 | .g => 103
def Le.fk : Le → Fk
  | .a => reg | .b => other | .k => start | .n => .bytes | .s => slot | .h => shift | .w => width | .j => .skip | .i => .number | .g => .sign
def lettersN : Nat → Option (List Le)
  | 0 => some []
  | 1 => some [.a, .i]
  | 2 => some [.a, .b]
  | 3 => some [.a, .b]
  | 4 => some [.a, .b]
  | 5 => some [.a, .b]
  | 6 => some [.a, .h]
  | 7 => some [.a, .h]
  | 8 => some [.a, .i]
  | 9 => some [.a, .k, .n]
  | 10 => some [.a, .k, .n]
  | 11 => some [.a, .k, .n]
  | 12 => some [.a, .k, .n]
  | 13 => some [.a, .k, .n, .i]
  | 14 => some [.a, .w]
  | 15 => some [.a, .s]
  | 16 => some [.a, .s]
  | 17 => some [.a, .s, .w, .g]
  | 18 => some [.j]
  | 19 => some [.a, .j, .i]
  | _ => none
def lettersOf (op : Int) : Option (List Le) := if 0 ≤ op then lettersN op.toNat else none
def textOf (ls : List Le) : ByteArray := ⟨(ls.map Le.c).toArray⟩
theorem fieldsN_letters : ∀ (k : Nat), fieldsN k = (lettersN k).map (List.map Le.fk)
  | 0 => rfl
  | 1 => rfl
  | 2 => rfl
  | 3 => rfl
  | 4 => rfl
  | 5 => rfl
  | 6 => rfl
  | 7 => rfl
  | 8 => rfl
  | 9 => rfl
  | 10 => rfl
  | 11 => rfl
  | 12 => rfl
  | 13 => rfl
  | 14 => rfl
  | 15 => rfl
  | 16 => rfl
  | 17 => rfl
  | 18 => rfl
  | 19 => rfl
  | _ + 20 => rfl
theorem fields_letters (op : Int) : fieldsOf op = (lettersOf op).map (List.map Le.fk) := by
  unfold fieldsOf lettersOf
  split
  · exact fieldsN_letters _
  · rfl
theorem letters_fields {op : Int} {ls : List Le} (h : lettersOf op = some ls) : fieldsOf op = some (ls.map Le.fk) := by rw [fields_letters, h]; rfl
theorem letters_none {op : Int} (h : lettersOf op = none) : fieldsOf op = none := by rw [fields_letters, h]; rfl
theorem letters_cases {op : Int} {ls : List Le} (h : lettersOf op = some ls) : ∃ k : Nat, op = k ∧ k < 20 ∧ lettersN k = some ls := by
  obtain ⟨k, h1, h2, _⟩ := fields_cases (letters_fields h)
  refine ⟨k, h1, h2, ?_⟩
  unfold lettersOf at h
  rw [if_pos (by omega), h1] at h
  exact h
theorem letters_out {op : Int} (h : op < 0 ∨ 20 ≤ op) : lettersOf op = none := by
  cases e : lettersOf op with
  | none => rfl
  | some ls => obtain ⟨k, _, _, _⟩ := letters_cases e; omega
theorem letters_in {op : Int} (h : 0 ≤ op) (h' : op < 20) : ∃ ls, lettersOf op = some ls := by
  obtain ⟨k, rfl⟩ := Int.eq_ofNat_of_zero_le h
  have hk : k < 20 := by omega
  have key : ∀ k : Fin 20, (lettersN k.val).isSome = true := by decide
  have := key ⟨k, hk⟩
  obtain ⟨ls, hl⟩ := Option.isSome_iff_exists.1 this
  exact ⟨ls, by unfold lettersOf; rw [if_pos h]; exact hl⟩
theorem right_letters {x : Ins} {ls : List Le} (h : lettersOf x.op = some ls) : rightB x = ((ls.map Le.fk).all (okF · x) && decide (setAll (ls.map Le.fk) x (zero x.op) = x)) := by
  unfold rightB; rw [letters_fields h]
theorem right_none {x : Ins} (h : lettersOf x.op = none) : rightB x = false := by unfold rightB; rw [letters_none h]
theorem all_take {fs : List Fk} {x : Ins} {k : Nat} (h : k < fs.length) : (fs.take (k + 1)).all (okF · x) = ((fs.take k).all (okF · x) && okF fs[k] x) := by
  rw [List.take_succ_eq_append_getElem h, List.all_append]; simp
/-! ## reading -/
def rdR : Le → List Int → Ins → Rd
  | .j => rdNum .N fun v => (min v 4611686018427387904 : Nat)
  | l => rdF l.fk
def rdAllR (L : Nat) : List Le → List Int → Ins → Except (Int × Nat) (List Int × Ins)
  | [], l, x => .ok (l, x)
  | f :: fs, l, x =>
    match rdR f l x with
    | .short => .error (2, L)
    | .form => .error (4, L - l.length)
    | .got r y => rdAllR L fs r y
def seeR (E : Int × Nat) (z : Except (Int × Nat) (List Int × Ins)) : Except (Int × Nat) (List Int × Ins) :=
  match z with
  | .error e => .error e
  | .ok (r', x) => if rightB x then .ok (r', x) else .error E
theorem seeR_no {E : Int × Nat} {r : List Int} {x : Ins} (h : rightB x = false) : seeR E (.ok (r, x)) = .error E := by unfold seeR; simp [h]
theorem seeR_yes {E : Int × Nat} {r : List Int} {x : Ins} (h : rightB x = true) : seeR E (.ok (r, x)) = .ok (r, x) := by unfold seeR; simp [h]
/-- The instruction behind its first byte; or the error, and where. -/
def oneR (L : Nat) (c : Int) (r : List Int) : Except (Int × Nat) (List Int × Ins) :=
  match lettersOf c with
  | none => .error (20, L - (r.length + 1))
  | some ls => seeR (20, L - (r.length + 1)) (rdAllR L ls r (zero c))
theorem rdR_plain {l : Le} (h : l ≠ .j) : rdR l = rdF l.fk := by cases l <;> first | rfl | exact absurd rfl h
theorem rdAllR_plain (L : Nat) : ∀ (ls : List Le) (l : List Int) (x : Ins), (∀ y ∈ ls, y ≠ .j) → rdAllR L ls l x = rdAll L (ls.map Le.fk) l x
  | [], _, _, _ => rfl
  | f :: fs, l, x, h => by
    have ih := fun r y => rdAllR_plain L fs r y (fun z hz => h z (List.mem_cons_of_mem _ hz))
    simp only [rdAllR, List.map_cons, rdAll, rdR_plain (h f (List.mem_cons_self ..))]
    cases rdF f.fk l x <;> simp only [] <;> first | rfl | exact ih _ _
theorem wide18 {m : Int} (h : 16384 < m) : rightB ⟨18, 0, 0, m, 0⟩ = false := by
  unfold rightB
  rw [show fieldsOf (18 : Int) = some [.skip] from rfl]
  have : decide (m ≤ 16384) = false := by simp; omega
  simp [okF, this]
theorem wide19 {m a i : Int} (h : 16384 < m) : rightB ⟨19, a, 0, m, i⟩ = false := by
  unfold rightB
  rw [show fieldsOf (19 : Int) = some [reg, .skip, .number] from rfl]
  have : decide (m ≤ 16384) = false := by simp; omega
  simp [okF, this]
theorem oneR_18 (L : Nat) (r : List Int) (E : Int × Nat) : seeR E (rdAllR L [.j] r (zero 18)) = seeR E (rdAll L [.skip] r (zero 18)) := by
  simp only [rdAllR, rdAll, rdR, rdF, rdNum]
  cases sevGo r 0 0 with
  | short => rfl
  | form => rfl
  | ok v r' =>
    show seeR E (.ok (r', ⟨18, 0, 0, ((min v 4611686018427387904 : Nat) : Int), 0⟩)) = seeR E (.ok (r', ⟨18, 0, 0, ((min v 16385 : Nat) : Int), 0⟩))
    rcases Nat.lt_or_ge 16384 v with h | h
    · rw [seeR_no (wide18 (by omega)), seeR_no (wide18 (by omega))]
    · rw [show min v 4611686018427387904 = v from by omega, show min v 16385 = v from by omega]
theorem oneR_19 (L : Nat) (r : List Int) (E : Int × Nat) : seeR E (rdAllR L [.a, .j, .i] r (zero 19)) = seeR E (rdAll L [reg, .skip, .number] r (zero 19)) := by
  simp only [rdAllR, rdAll, rdR, Le.fk, reg, rdF, rdNum]
  cases r with
  | nil => rfl
  | cons c r =>
    simp only [rdByte]
    cases sevGo r 0 0 with
    | short => rfl
    | form => rfl
    | ok v r' =>
      simp only []
      cases sevGo r' 0 0 with
      | short => rfl
      | form => rfl
      | ok v2 r2 =>
        show seeR E (.ok (r2, ⟨19, c, 0, ((min v 4611686018427387904 : Nat) : Int), (v2 : Int)⟩)) = seeR E (.ok (r2, ⟨19, c, 0, ((min v 16385 : Nat) : Int), (v2 : Int)⟩))
        rcases Nat.lt_or_ge 16384 v with h | h
        · rw [seeR_no (wide19 (by omega)), seeR_no (wide19 (by omega))]
        · rw [show min v 4611686018427387904 = v from by omega, show min v 16385 = v from by omega]
theorem letters_j {k : Nat} {ls : List Le} (hk : k < 20) (h : lettersN k = some ls) : (∀ y ∈ ls, y ≠ .j) ∨ (k = 18 ∧ ls = [.j]) ∨ (k = 19 ∧ ls = [.a, .j, .i]) := by
  have key : ∀ k : Fin 20, ((lettersN k.val).getD []).all (fun y => decide (y ≠ Le.j)) = true ∨ (k.val = 18 ∧ (lettersN k.val).getD [] = [Le.j]) ∨ (k.val = 19 ∧ (lettersN k.val).getD [] = [Le.a, Le.j, Le.i]) := by decide
  have h1 := key ⟨k, hk⟩
  simp only [h, Option.getD_some] at h1
  rcases h1 with h1 | h1 | h1
  · left; intro y hy; have := List.all_eq_true.1 h1 y hy; simpa using this
  · exact .inr (.inl h1)
  · exact .inr (.inr h1)
theorem oneR_eq (L : Nat) {c : Int} {ls : List Le} (h : lettersOf c = some ls) (r : List Int) (E : Int × Nat) : seeR E (rdAllR L ls r (zero c)) = seeR E (rdAll L (ls.map Le.fk) r (zero c)) := by
  obtain ⟨k, rfl, hk, hl⟩ := letters_cases h
  rcases letters_j hk hl with h1 | ⟨rfl, rfl⟩ | ⟨rfl, rfl⟩
  · rw [rdAllR_plain L ls r _ h1]
  · exact oneR_18 L r E
  · exact oneR_19 L r E
/-- Decode, an instruction at a time. -/
theorem dec_one (L : Nat) (c : Int) (r : List Int) (p : List Ins) : decGo L (c :: r) p =
    if p.length = 16384 then .error (5, L - (r.length + 1)) else
    match oneR L c r with
    | .error e => .error e
    | .ok (r', x) => if r'.length ≤ r.length then decGo L r' (p ++ [x]) else .error (0, 0) := by
  rw [decGo_cons]
  unfold oneR
  split
  · rfl
  · cases h : lettersOf c with
    | none => rw [letters_none h]
    | some ls =>
      rw [letters_fields h]
      simp only []
      rw [oneR_eq L h r]
      cases rdAll L (ls.map Le.fk) r (zero c) with
      | error e => rfl
      | ok z =>
        obtain ⟨r', x⟩ := z
        cases hx : rightB x with
        | true => rw [seeR_yes hx]; simp [hx]
        | false => rw [seeR_no hx]; simp [hx]
theorem rdR_suffix {f : Le} {l r : List Int} {y z : Ins} (hb : ∀ c ∈ l, Byte c) (hr : rdR f l y = .got r z) : (∃ m, l = m ++ r) ∧ r.length < l.length := by
  by_cases hj : f = .j
  · subst hj
    obtain ⟨v, _, h2, h3⟩ := rdNum_inv (h := .N) (f := fun v => (min v 4611686018427387904 : Nat)) hb hr
    exact ⟨⟨_, h2⟩, h3⟩
  · rw [rdR_plain hj] at hr
    obtain ⟨_, _, _, m, hm⟩ := rdF_inv hb hr
    exact ⟨⟨m, hm⟩, rdF_len hb hr⟩
theorem rdAllR_suffix (L : Nat) : ∀ (ls : List Le) (l r : List Int) (y z : Ins), (∀ c ∈ l, Byte c) → rdAllR L ls l y = .ok (r, z) → ∃ m, l = m ++ r
  | [], l, r, y, z, _, h => by
    simp only [rdAllR, Except.ok.injEq, Prod.mk.injEq] at h
    obtain ⟨rfl, rfl⟩ := h
    exact ⟨[], rfl⟩
  | f :: fs, l, r, y, z, hb, h => by
    simp only [rdAllR] at h
    split at h
    · cases h
    · cases h
    · rename_i r1 y1 he
      obtain ⟨⟨m, hm⟩, _⟩ := rdR_suffix hb he
      obtain ⟨m2, hm2⟩ := rdAllR_suffix L fs r1 r _ z (fun c hc => hb c (by rw [hm]; exact List.mem_append_right _ hc)) h
      exact ⟨m ++ m2, by rw [hm, hm2, List.append_assoc]⟩
theorem seeR_ok {E : Int × Nat} {z : Except (Int × Nat) (List Int × Ins)} {y : List Int × Ins} (h : seeR E z = .ok y) : z = .ok y ∧ rightB y.2 = true := by
  unfold seeR at h
  split at h
  · cases h
  · split at h
    · cases h; exact ⟨rfl, by assumption⟩
    · cases h
theorem oneR_suffix {L : Nat} {c : Int} {r r' : List Int} {x : Ins} (hb : ∀ d ∈ r, Byte d) (h : oneR L c r = .ok (r', x)) : ∃ m, r = m ++ r' := by
  unfold oneR at h
  split at h
  · cases h
  · rename_i ls hl
    exact rdAllR_suffix L ls r _ _ _ hb (seeR_ok h).1
theorem oneR_no {L : Nat} {c : Int} {r : List Int} {e : Int × Nat} (h : oneR L c r = .error e) : 1 ≤ e.1 ∧ e.1 ≤ 26 := by
  unfold oneR at h
  split at h
  · cases h; exact ⟨by simp, by simp⟩
  · rename_i ls hl
    have key : ∀ (ls : List Le) (l : List Int) (x : Ins) (e : Int × Nat), rdAllR L ls l x = .error e → 1 ≤ e.1 ∧ e.1 ≤ 26 := by
      intro ls
      induction ls with
      | nil => intro l x e h; cases h
      | cons f fs ih =>
        intro l x e h
        simp only [rdAllR] at h
        split at h
        · cases h; exact ⟨by simp, by simp⟩
        · cases h; exact ⟨by simp, by simp⟩
        · exact ih _ _ _ h
    unfold seeR at h
    split at h
    · rename_i e2 he; cases h; exact key _ _ _ _ he
    · split at h
      · cases h
      · cases h; exact ⟨by simp, by simp⟩
theorem firstBad_of {p : List Ins} {i : Nat} (hi : i < p.length) (h : ∀ x ∈ p.take i, rightB x = true) (hb : rightB p[i] = false) : p.findIdx? (fun x => !rightB x) = some i := by
  rw [List.findIdx?_eq_some_iff_getElem]
  refine ⟨hi, by rw [hb]; rfl, fun j hj => ?_⟩
  have := h p[j] (List.mem_iff_getElem.2 ⟨j, by simp; omega, by rw [List.getElem_take]⟩)
  rw [this]; simp
end Go.Bus.codeK

namespace Go.Bus.codeK
open Go.Bus.hexK Go.Lib
set_option linter.unusedVariables false
def nameN : Nat → List UInt8
  | 0 => [104, 97, 108, 116]
  | 1 => [99, 111, 110, 115, 116]
  | 2 => [109, 111, 118, 101]
  | 3 => [97, 110, 100]
  | 4 => [111, 114]
  | 5 => [120, 111, 114]
  | 6 => [115, 104, 108]
  | 7 => [115, 104, 114]
  | 8 => [109, 97, 115, 107]
  | 9 => [108, 111, 97, 100]
  | 10 => [108, 111, 97, 100, 98, 105, 103]
  | 11 => [115, 116, 111, 114, 101]
  | 12 => [115, 116, 111, 114, 101, 98, 105, 103]
  | 13 => [98, 108, 101, 110, 100]
  | 14 => [115, 105, 103, 110]
  | 15 => [105, 110]
  | 16 => [111, 117, 116]
  | 17 => [102, 105, 116, 115]
  | 18 => [115, 107, 105, 112]
  | 19 => [115, 107, 105, 112, 110, 101]
  | _ => []
def namesB : ByteArray := ⟨#[104, 97, 108, 116, 32, 99, 111, 110, 115, 116, 32, 109, 111, 118, 101, 32, 97, 110, 100, 32, 111, 114, 32, 120, 111, 114, 32, 115, 104, 108, 32, 115, 104, 114, 32, 109, 97, 115, 107, 32, 108, 111, 97, 100, 32, 108, 111, 97, 100, 98, 105, 103, 32, 115, 116, 111, 114, 101, 32, 115, 116, 111, 114, 101, 98, 105, 103, 32, 98, 108, 101, 110, 100, 32, 115, 105, 103, 110, 32, 105, 110, 32, 111, 117, 116, 32, 102, 105, 116, 115, 32, 115, 107, 105, 112, 32, 115, 107, 105, 112, 110, 101]⟩
def signedT : List UInt8 := [115, 105, 103, 110, 101, 100]
def unsignedT : List UInt8 := [117, 110, 115, 105, 103, 110, 101, 100]
def txtF : Fk → Ins → List UInt8
  | .small h _ _ s, x => s.data.toList ++ itoa (x.at_ h)
  | .skip, x => itoa x.n
  | .bytes, x => itoa x.n
  | .number, x => [48, 120] ++ hexs x.imm.toNat
  | .sign, x => if x.imm = 1 then signedT else unsignedT
def lineF (fs : List Fk) (x : Ins) : List UInt8 := fs.flatMap fun f => 32 :: txtF f x
def lineI (x : Ins) : List UInt8 := nameN x.op.toNat ++ lineF ((fieldsOf x.op).getD []) x
theorem lineF_take (fs : List Fk) (x : Ins) {k : Nat} (h : k < fs.length) : lineF (fs.take (k + 1)) x = lineF (fs.take k) x ++ (32 :: txtF fs[k] x) := by
  unfold lineF
  rw [List.take_succ_eq_append_getElem h, List.flatMap_append]; simp
theorem fields_names : fields namesB.data.toList = (List.range 20).map nameN := by decide
theorem names_ascii : ∀ (j : Nat) (b : UInt8), namesB.data.toList[j]? = some b → b.toNat < 128 := by
  have h : namesB.data.toList.all (fun b => decide (b.toNat < 128)) = true := by decide
  intro j b hj
  have := List.all_eq_true.1 h b (List.mem_of_getElem? hj)
  simpa using this
theorem name_at {k : Nat} (h : k < 20) : ((List.range 20).map nameN)[k]? = some (nameN k) := by simp [h]
/-! ## the document's digits and words -/
def digsB (b n : Nat) : List UInt8 := if h : n < b ∨ b < 2 then [hexd n] else digsB b (n / b) ++ [hexd (n % b)]
termination_by n
decreasing_by exact Nat.div_lt_self (by omega) (by omega)
theorem digsB_lt {b n : Nat} (h : n < b) : digsB b n = [hexd n] := by rw [digsB]; simp [h]
theorem digsB_ge {b n : Nat} (h : ¬ n < b) (hb : 2 ≤ b) : digsB b n = digsB b (n / b) ++ [hexd (n % b)] := by
  rw [digsB, dif_neg (by omega)]
theorem digs16 (n : Nat) : digsB 16 n = hexs n := by
  induction n using Nat.strongRecOn with
  | _ n ih =>
    by_cases h : n < 16
    · rw [digsB_lt h, hexs_lt h]
    · rw [digsB_ge h (by decide), hexs_ge h, ih (n / 16) (by omega)]
theorem hexd_dec {d : Nat} (h : d < 10) : hexd d = UInt8.ofNat (48 + d) := by unfold hexd; rw [if_pos h]
theorem digs10 (n : Nat) : digsB 10 n = decDigits n := by
  induction n using Nat.strongRecOn with
  | _ n ih =>
    by_cases h : n < 10
    · rw [digsB_lt h, decDigits, dif_pos h, hexd_dec h]
    · rw [digsB_ge h (by decide), decDigits, dif_neg h, ih (n / 10) (by omega), hexd_dec (Nat.mod_lt _ (by decide))]
theorem dec_len {n k : Nat} (h : n < 10 ^ k) (hk : 1 ≤ k) : (decDigits n).length ≤ k := by
  induction k generalizing n with
  | zero => omega
  | succ k ih =>
    by_cases h1 : n < 10
    · rw [decDigits, dif_pos h1]; simp
    · rw [decDigits, dif_neg h1]
      have hk1 : 1 ≤ k := by
        rcases Nat.eq_zero_or_pos k with h0 | h0
        · subst h0; simp at h; omega
        · exact h0
      have := ih (n := n / 10) (by rw [Nat.pow_succ, Nat.mul_comm] at h; exact Nat.div_lt_of_lt_mul h) hk1
      simp; omega
theorem itoa_len {n : Int} (h0 : -9223372036854775808 ≤ n) (h1 : n ≤ 9223372036854775807) : (itoa n).length ≤ 20 := by
  unfold itoa
  split
  · have := dec_len (n := n.natAbs) (k := 19) (by rw [show (10 : Nat) ^ 19 = 10000000000000000000 from by decide]; omega) (by decide)
    simp; omega
  · have := dec_len (n := n.toNat) (k := 20) (by rw [show (10 : Nat) ^ 20 = 100000000000000000000 from by decide]; omega) (by decide)
    exact this
def wordL : Le → Ins → List UInt8
  | .a, x => 114 :: digsB 10 x.a.toNat
  | .b, x => 114 :: digsB 10 x.b.toNat
  | .k, x => digsB 10 x.b.toNat
  | .s, x => digsB 10 x.b.toNat
  | .i, x => [48, 120] ++ digsB 16 x.imm.toNat
  | .g, x => if x.imm = 1 then signedT else unsignedT
  | .n, x => digsB 10 x.n.toNat
  | .h, x => digsB 10 x.n.toNat
  | .w, x => digsB 10 x.n.toNat
  | .j, x => digsB 10 x.n.toNat
theorem itoa_pos {n : Int} (h : 0 ≤ n) : itoa n = decDigits n.toNat := by unfold itoa; rw [if_neg (by omega)]
/-- Of a right field the document's word is the program's text. -/
theorem lo_of {a b x : Int} (h : (decide (a ≤ x) && decide (x ≤ b)) = true) : a ≤ x := by
  rw [Bool.and_eq_true] at h
  exact of_decide_eq_true h.1
theorem lo_of3 {a b x : Int} {c : Bool} (h : (decide (a ≤ x) && decide (x ≤ b) && c) = true) : a ≤ x := by
  rw [Bool.and_eq_true] at h
  exact lo_of h.1
theorem word_txt {l : Le} {x : Ins} (h : okF l.fk x = true) : wordL l x = txtF l.fk x := by
  cases l with
  | a =>
    have hn : 0 ≤ x.a := lo_of h
    show 114 :: digsB 10 x.a.toNat = rS.data.toList ++ itoa x.a
    rw [digs10, itoa_pos hn]
    rfl
  | b =>
    have hn : 0 ≤ x.b := lo_of h
    show 114 :: digsB 10 x.b.toNat = rS.data.toList ++ itoa x.b
    rw [digs10, itoa_pos hn]
    rfl
  | k =>
    have hn : 0 ≤ x.b := lo_of h
    show digsB 10 x.b.toNat = eS.data.toList ++ itoa x.b
    rw [digs10, itoa_pos hn]
    rfl
  | s =>
    have hn : 0 ≤ x.b := lo_of h
    show digsB 10 x.b.toNat = eS.data.toList ++ itoa x.b
    rw [digs10, itoa_pos hn]
    rfl
  | h =>
    have hn : 0 ≤ x.n := lo_of h
    show digsB 10 x.n.toNat = eS.data.toList ++ itoa x.n
    rw [digs10, itoa_pos hn]
    rfl
  | w =>
    have hn : 1 ≤ x.n := lo_of h
    show digsB 10 x.n.toNat = eS.data.toList ++ itoa x.n
    rw [digs10, itoa_pos (by omega)]
    rfl
  | n =>
    have hn : 1 ≤ x.n := lo_of3 h
    show digsB 10 x.n.toNat = itoa x.n
    rw [digs10, itoa_pos (by omega)]
  | j =>
    have hn : 0 ≤ x.n := lo_of h
    show digsB 10 x.n.toNat = itoa x.n
    rw [digs10, itoa_pos hn]
  | i =>
    show [48, 120] ++ digsB 16 x.imm.toNat = [48, 120] ++ hexs x.imm.toNat
    rw [digs16]
  | g => rfl
def lineL (ls : List Le) (x : Ins) : List UInt8 := ls.flatMap fun l => 32 :: wordL l x
theorem lineL_take (ls : List Le) (x : Ins) {k : Nat} (h : k < ls.length) : lineL (ls.take (k + 1)) x = lineL (ls.take k) x ++ (32 :: wordL ls[k] x) := by
  unfold lineL
  rw [List.take_succ_eq_append_getElem h, List.flatMap_append]; simp
theorem line_words {x : Ins} {ls : List Le} (hl : lettersOf x.op = some ls) (hr : rightB x = true) : nameN x.op.toNat ++ lineL ls x = lineI x := by
  obtain ⟨fs, h1, h2, -⟩ := right_some hr
  rw [letters_fields hl] at h1
  obtain rfl := Option.some.inj h1
  unfold lineI
  rw [letters_fields hl]
  simp only [Option.getD_some]
  congr 1
  unfold lineL lineF
  clear h1 hl hr
  induction ls with
  | nil => rfl
  | cons l ls ih =>
    simp only [List.flatMap_cons, List.map_cons]
    rw [word_txt (h2 l.fk (by simp)), ih fun f hf => h2 f (by simp at hf ⊢; exact .inr hf)]
end Go.Bus.codeK
