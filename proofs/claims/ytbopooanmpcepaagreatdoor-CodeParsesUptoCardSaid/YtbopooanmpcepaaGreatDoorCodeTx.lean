/- The lines of instructions: what the layer code and the document print, as lists of bytes. Plain. No condition. -/
import Derived.Test.YtbopooanmpcepaaGreatDoorCodeRl
import Derived.Test.YtbopooanmpcepaaGreatDoorHexLaw
import Derived.Lib.ItoaNum
import Derived.Lib.Fields
namespace Go.Bus.codeK
open Go.Bus.hexK Go.Lib
set_option linter.unusedVariables false
def nameN : Nat → List UInt8
  | 0 => [104, 97, 108, 116]
  | 1 => [99, 111, 110, 115, 116]
  | 2 => [109, 111, 118, 101]
  | 3 => [97, 110, 100]
  | 4 => [111, 114]
  | 5 => [120, 111, 114]
  | 6 => [115, 104, 108]
  | 7 => [115, 104, 114]
  | 8 => [109, 97, 115, 107]
  | 9 => [108, 111, 97, 100]
  | 10 => [108, 111, 97, 100, 98, 105, 103]
  | 11 => [115, 116, 111, 114, 101]
  | 12 => [115, 116, 111, 114, 101, 98, 105, 103]
  | 13 => [98, 108, 101, 110, 100]
  | 14 => [115, 105, 103, 110]
  | 15 => [105, 110]
  | 16 => [111, 117, 116]
  | 17 => [102, 105, 116, 115]
  | 18 => [115, 107, 105, 112]
  | 19 => [115, 107, 105, 112, 110, 101]
  | _ => []
def namesB : ByteArray := ⟨#[104, 97, 108, 116, 32, 99, 111, 110, 115, 116, 32, 109, 111, 118, 101, 32, 97, 110, 100, 32, 111, 114, 32, 120, 111, 114, 32, 115, 104, 108, 32, 115, 104, 114, 32, 109, 97, 115, 107, 32, 108, 111, 97, 100, 32, 108, 111, 97, 100, 98, 105, 103, 32, 115, 116, 111, 114, 101, 32, 115, 116, 111, 114, 101, 98, 105, 103, 32, 98, 108, 101, 110, 100, 32, 115, 105, 103, 110, 32, 105, 110, 32, 111, 117, 116, 32, 102, 105, 116, 115, 32, 115, 107, 105, 112, 32, 115, 107, 105, 112, 110, 101]⟩
def signedT : List UInt8 := [115, 105, 103, 110, 101, 100]
def unsignedT : List UInt8 := [117, 110, 115, 105, 103, 110, 101, 100]
def txtF : Fk → Ins → List UInt8
  | .small h _ _ s, x => s.data.toList ++ itoa (x.at_ h)
  | .skip, x => itoa x.n
  | .bytes, x => itoa x.n
  | .number, x => [48, 120] ++ hexs x.imm.toNat
  | .sign, x => if x.imm = 1 then signedT else unsignedT
def lineF (fs : List Fk) (x : Ins) : List UInt8 := fs.flatMap fun f => 32 :: txtF f x
def lineI (x : Ins) : List UInt8 := nameN x.op.toNat ++ lineF ((fieldsOf x.op).getD []) x
theorem lineF_take (fs : List Fk) (x : Ins) {k : Nat} (h : k < fs.length) : lineF (fs.take (k + 1)) x = lineF (fs.take k) x ++ (32 :: txtF fs[k] x) := by
  unfold lineF
  rw [List.take_succ_eq_append_getElem h, List.flatMap_append]; simp
theorem fields_names : fields namesB.data.toList = (List.range 20).map nameN := by decide
theorem names_ascii : ∀ (j : Nat) (b : UInt8), namesB.data.toList[j]? = some b → b.toNat < 128 := by
  have h : namesB.data.toList.all (fun b => decide (b.toNat < 128)) = true := by decide
  intro j b hj
  have := List.all_eq_true.1 h b (List.mem_of_getElem? hj)
  simpa using this
theorem name_at {k : Nat} (h : k < 20) : ((List.range 20).map nameN)[k]? = some (nameN k) := by simp [h]
/-! ## the document's digits and words -/
def digsB (b n : Nat) : List UInt8 := if h : n < b ∨ b < 2 then [hexd n] else digsB b (n / b) ++ [hexd (n % b)]
termination_by n
decreasing_by exact Nat.div_lt_self (by omega) (by omega)
theorem digsB_lt {b n : Nat} (h : n < b) : digsB b n = [hexd n] := by rw [digsB]; simp [h]
theorem digsB_ge {b n : Nat} (h : ¬ n < b) (hb : 2 ≤ b) : digsB b n = digsB b (n / b) ++ [hexd (n % b)] := by
  rw [digsB, dif_neg (by omega)]
theorem digs16 (n : Nat) : digsB 16 n = hexs n := by
  induction n using Nat.strongRecOn with
  | _ n ih =>
    by_cases h : n < 16
    · rw [digsB_lt h, hexs_lt h]
    · rw [digsB_ge h (by decide), hexs_ge h, ih (n / 16) (by omega)]
theorem hexd_dec {d : Nat} (h : d < 10) : hexd d = UInt8.ofNat (48 + d) := by unfold hexd; rw [if_pos h]
theorem digs10 (n : Nat) : digsB 10 n = decDigits n := by
  induction n using Nat.strongRecOn with
  | _ n ih =>
    by_cases h : n < 10
    · rw [digsB_lt h, decDigits, dif_pos h, hexd_dec h]
    · rw [digsB_ge h (by decide), decDigits, dif_neg h, ih (n / 10) (by omega), hexd_dec (Nat.mod_lt _ (by decide))]
theorem dec_len {n k : Nat} (h : n < 10 ^ k) (hk : 1 ≤ k) : (decDigits n).length ≤ k := by
  induction k generalizing n with
  | zero => omega
  | succ k ih =>
    by_cases h1 : n < 10
    · rw [decDigits, dif_pos h1]; simp
    · rw [decDigits, dif_neg h1]
      have hk1 : 1 ≤ k := by
        rcases Nat.eq_zero_or_pos k with h0 | h0
        · subst h0; simp at h; omega
        · exact h0
      have := ih (n := n / 10) (by rw [Nat.pow_succ, Nat.mul_comm] at h; exact Nat.div_lt_of_lt_mul h) hk1
      simp; omega
theorem itoa_len {n : Int} (h0 : -9223372036854775808 ≤ n) (h1 : n ≤ 9223372036854775807) : (itoa n).length ≤ 20 := by
  unfold itoa
  split
  · have := dec_len (n := n.natAbs) (k := 19) (by rw [show (10 : Nat) ^ 19 = 10000000000000000000 from by decide]; omega) (by decide)
    simp; omega
  · have := dec_len (n := n.toNat) (k := 20) (by rw [show (10 : Nat) ^ 20 = 100000000000000000000 from by decide]; omega) (by decide)
    exact this
def wordL : Le → Ins → List UInt8
  | .a, x => 114 :: digsB 10 x.a.toNat
  | .b, x => 114 :: digsB 10 x.b.toNat
  | .k, x => digsB 10 x.b.toNat
  | .s, x => digsB 10 x.b.toNat
  | .i, x => [48, 120] ++ digsB 16 x.imm.toNat
  | .g, x => if x.imm = 1 then signedT else unsignedT
  | .n, x => digsB 10 x.n.toNat
  | .h, x => digsB 10 x.n.toNat
  | .w, x => digsB 10 x.n.toNat
  | .j, x => digsB 10 x.n.toNat
theorem itoa_pos {n : Int} (h : 0 ≤ n) : itoa n = decDigits n.toNat := by unfold itoa; rw [if_neg (by omega)]
/-- Of a right field the document's word is the program's text. -/
theorem lo_of {a b x : Int} (h : (decide (a ≤ x) && decide (x ≤ b)) = true) : a ≤ x := by
  rw [Bool.and_eq_true] at h
  exact of_decide_eq_true h.1
theorem lo_of3 {a b x : Int} {c : Bool} (h : (decide (a ≤ x) && decide (x ≤ b) && c) = true) : a ≤ x := by
  rw [Bool.and_eq_true] at h
  exact lo_of h.1
theorem word_txt {l : Le} {x : Ins} (h : okF l.fk x = true) : wordL l x = txtF l.fk x := by
  cases l with
  | a =>
    have hn : 0 ≤ x.a := lo_of h
    show 114 :: digsB 10 x.a.toNat = rS.data.toList ++ itoa x.a
    rw [digs10, itoa_pos hn]
    rfl
  | b =>
    have hn : 0 ≤ x.b := lo_of h
    show 114 :: digsB 10 x.b.toNat = rS.data.toList ++ itoa x.b
    rw [digs10, itoa_pos hn]
    rfl
  | k =>
    have hn : 0 ≤ x.b := lo_of h
    show digsB 10 x.b.toNat = eS.data.toList ++ itoa x.b
    rw [digs10, itoa_pos hn]
    rfl
  | s =>
    have hn : 0 ≤ x.b := lo_of h
    show digsB 10 x.b.toNat = eS.data.toList ++ itoa x.b
    rw [digs10, itoa_pos hn]
    rfl
  | h =>
    have hn : 0 ≤ x.n := lo_of h
    show digsB 10 x.n.toNat = eS.data.toList ++ itoa x.n
    rw [digs10, itoa_pos hn]
    rfl
  | w =>
    have hn : 1 ≤ x.n := lo_of h
    show digsB 10 x.n.toNat = eS.data.toList ++ itoa x.n
    rw [digs10, itoa_pos (by omega)]
    rfl
  | n =>
    have hn : 1 ≤ x.n := lo_of3 h
    show digsB 10 x.n.toNat = itoa x.n
    rw [digs10, itoa_pos (by omega)]
  | j =>
    have hn : 0 ≤ x.n := lo_of h
    show digsB 10 x.n.toNat = itoa x.n
    rw [digs10, itoa_pos hn]
  | i =>
    show [48, 120] ++ digsB 16 x.imm.toNat = [48, 120] ++ hexs x.imm.toNat
    rw [digs16]
  | g => rfl
def lineL (ls : List Le) (x : Ins) : List UInt8 := ls.flatMap fun l => 32 :: wordL l x
theorem lineL_take (ls : List Le) (x : Ins) {k : Nat} (h : k < ls.length) : lineL (ls.take (k + 1)) x = lineL (ls.take k) x ++ (32 :: wordL ls[k] x) := by
  unfold lineL
  rw [List.take_succ_eq_append_getElem h, List.flatMap_append]; simp
theorem line_words {x : Ins} {ls : List Le} (hl : lettersOf x.op = some ls) (hr : rightB x = true) : nameN x.op.toNat ++ lineL ls x = lineI x := by
  obtain ⟨fs, h1, h2, -⟩ := right_some hr
  rw [letters_fields hl] at h1
  obtain rfl := Option.some.inj h1
  unfold lineI
  rw [letters_fields hl]
  simp only [Option.getD_some]
  congr 1
  unfold lineL lineF
  clear h1 hl hr
  induction ls with
  | nil => rfl
  | cons l ls ih =>
    simp only [List.flatMap_cons, List.map_cons]
    rw [word_txt (h2 l.fk (by simp)), ih fun f hf => h2 f (by simp at hf ⊢; exact .inr hf)]
end Go.Bus.codeK
