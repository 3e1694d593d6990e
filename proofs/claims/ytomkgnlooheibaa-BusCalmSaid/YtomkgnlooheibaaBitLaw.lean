/- A number's bits, the highest first; the sum of 15 bits as a step on numbers. Plain. -/
import Derived.WalkKit
import Derived.Test.YtomkgnlooheibaaRawLaw
namespace Go.Bus.bitK
open Go.RowKit
set_option linter.unusedVariables false
def bitI (v : Int) (i : Nat) : Bool := decide (v / 2 ^ i % 2 = 1)
/-- The lowest n bits of a number, the highest first. -/
def msb (v : Int) (n : Nat) : List Bool := (List.range n).map fun j => bitI v (n - 1 - j)
theorem msb_length (v : Int) (n : Nat) : (msb v n).length = n := by simp [msb]
theorem msb_take (v : Int) (n k : Nat) (h : k < n) : ((msb v n).map Value.bool).take k ++ [Value.bool (bitI v (n - 1 - k))] = ((msb v n).map Value.bool).take (k + 1) := by
  have h1 : ((msb v n).map Value.bool)[k]? = some (Value.bool (bitI v (n - 1 - k))) := by simp [msb, h]
  rw [List.take_add_one, h1]; rfl
theorem msb_all (v : Int) (n : Nat) : ((msb v n).map Value.bool).take n = (msb v n).map Value.bool := List.take_of_length_le (by simp [msb_length])

theorem div_bounds {v : Int} {m : Nat} {B : Int} (h0 : 0 ≤ v) (h1 : v < B) : 0 ≤ v / 2 ^ m ∧ v / 2 ^ m < B := by
  obtain ⟨x, rfl⟩ := Int.eq_ofNat_of_zero_le h0
  have hle : x / 2 ^ m ≤ x := Nat.div_le_self _ _
  rw [← rawK.cast_pow, ← Int.natCast_ediv]
  generalize x / 2 ^ m = y at *
  omega
theorem bit32 {v : Int} (i : Nat) (h0 : 0 ≤ v) (h1 : v < 4294967296) : (bits BinOp.and IntKind.u32 (v / 2 ^ i) 1 == 1) = bitI v i := by
  have hb := div_bounds (m := i) h0 h1
  unfold bitI
  rw [u32_and _ 1 hb.1 hb.2 (by omega) (by omega), show (1 : Int).toNat = 1 from rfl, nat_mask1, Bool.eq_iff_iff]
  simp only [beq_iff_eq, decide_eq_true_eq]
  omega
theorem bit64 {v : Int} (i : Nat) (h0 : 0 ≤ v) (h1 : v < 18446744073709551616) : (bits BinOp.and IntKind.u64 (v / 2 ^ i) 1 == 1) = bitI v i := by
  have hb := div_bounds (m := i) h0 h1
  unfold bitI
  rw [u64_and _ 1 hb.1 hb.2 (by omega) (by omega), show (1 : Int).toNat = 1 from rfl, nat_mask1, Bool.eq_iff_iff]
  simp only [beq_iff_eq, decide_eq_true_eq]
  omega
theorem bit16 {v : Int} (i : Nat) (h0 : 0 ≤ v) (h1 : v < 65536) : (bits BinOp.and IntKind.u16 (v / 2 ^ i) 1 == 1) = bitI v i := by
  have hb := div_bounds (m := i) h0 h1
  unfold bitI
  rw [u16_and _ 1 hb.1 hb.2 (by omega) (by omega), show (1 : Int).toNat = 1 from rfl, nat_mask1, Bool.eq_iff_iff]
  simp only [beq_iff_eq, decide_eq_true_eq]
  omega

/-- One step of the sum of 15 bits; the sum of a list. -/
def crcI (r : Int) (bit : Bool) : Int :=
  if (!((bits BinOp.and IntKind.u16 r 16384 != 0) == bit)) = true then bits BinOp.xor IntKind.u16 (bits BinOp.and IntKind.u16 (r * 2) 32767) 17817 else bits BinOp.and IntKind.u16 (r * 2) 32767
def crcS (l : List Bool) : Int := l.foldl crcI 0
theorem and_bd {r : Int} (h : 0 ≤ r) (h' : r < 32768) : bits BinOp.and IntKind.u16 (r * 2) 32767 = r * 2 % 32768 := by
  rw [u16_and _ _ (by omega) (by omega) (by omega) (by omega), show (32767 : Int).toNat = 32767 from rfl, nat_mask15]; omega
theorem crcI_bd {r : Int} (bit : Bool) (h : 0 ≤ r) (h' : r < 32768) : 0 ≤ crcI r bit ∧ crcI r bit < 32768 := by
  unfold crcI
  rw [and_bd h h']
  split
  · rw [u16_xor _ _ (by omega) (by omega) (by omega) (by omega)]
    have h1 : (r * 2 % 32768).toNat < 2 ^ 15 := by omega
    have h2 := Nat.xor_lt_two_pow h1 (show (17817 : Int).toNat < 2 ^ 15 from by decide)
    omega
  · omega
theorem crcS_snoc (l : List Bool) (b : Bool) : crcS (l ++ [b]) = crcI (crcS l) b := by simp [crcS, List.foldl_append]
theorem crcS_bd (l : List Bool) : 0 ≤ crcS l ∧ crcS l < 32768 := by
  have : ∀ (l : List Bool) (r : Int), 0 ≤ r ∧ r < 32768 → 0 ≤ l.foldl crcI r ∧ l.foldl crcI r < 32768 := by
    intro l
    induction l with
    | nil => intro r h; exact h
    | cons b l ih => intro r h; exact ih _ (crcI_bd b h.1 h.2)
  exact this l 0 (by omega)

/-- A frame's bits: what stands ahead of the sum; all. -/
def headF (id : Int) (wide : Bool) : List Bool := if wide = true then msb (id / 262144) 11 ++ (msb 3 2 ++ (msb id 18 ++ msb 0 3)) else msb id 11 ++ msb 0 3
def dataF (l : List Int) : List Bool := l.flatMap fun b => msb b 8
def preF (id : Int) (wide : Bool) (l : List Int) : List Bool := [false] ++ headF id wide ++ msb l.length 4 ++ dataF l
def bitsF (id : Int) (wide : Bool) (l : List Int) : List Bool := preF id wide l ++ msb (crcS (preF id wide l)) 15
theorem dataF_length (l : List Int) : (dataF l).length = 8 * l.length := by
  induction l with
  | nil => rfl
  | cons b l ih => simp [dataF, List.flatMap_cons, msb_length] at *; omega
theorem headF_length (id : Int) (wide : Bool) : (headF id wide).length = if wide = true then 34 else 14 := by
  unfold headF; split <;> simp [msb_length]
theorem preF_length (id : Int) (wide : Bool) (l : List Int) : (preF id wide l).length = (if wide = true then 39 else 19) + 8 * l.length := by
  unfold preF
  simp only [List.length_append, headF_length, dataF_length, msb_length, List.length_cons, List.length_nil]
  split <;> omega
theorem bitsF_length (id : Int) (wide : Bool) (l : List Int) : (bitsF id wide l).length = (if wide = true then 54 else 34) + 8 * l.length := by
  unfold bitsF
  rw [List.length_append, preF_length, msb_length]
  split <;> omega
theorem dataF_snoc (l : List Int) (k : Nat) (h : k < l.length) : dataF (l.take k) ++ msb l[k] 8 = dataF (l.take (k + 1)) := by
  unfold dataF; rw [List.take_succ_eq_append_getElem h, List.flatMap_append, List.flatMap_cons, List.flatMap_nil, List.append_nil]
end Go.Bus.bitK
