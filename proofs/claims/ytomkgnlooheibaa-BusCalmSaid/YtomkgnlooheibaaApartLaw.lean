/- Two frames' bits of one length differ in six places at least, or nowhere; and where they differ nowhere the frames are one. Plain. -/
import Derived.Test.YtomkgnlooheibaaCrcLaw
namespace Go.Bus.crcLaw
open Go.RowKit Go.Bus.bitK
set_option linter.unusedVariables false
theorem and_top : ∀ v : BitVec 15, (v.toNat &&& 16384 != 0) = v.msb := by decide +kernel
theorem crcI_V (v : BitVec 15) (b : Bool) : crcI (v.toNat : Int) b = ((stepV v b).toNat : Int) := by
  have hv := v.isLt
  unfold crcI stepV
  rw [and_bd (by omega) (by omega), u16_and _ _ (by omega) (by omega) (by omega) (by omega)]
  have h1 : ((((v.toNat : Int).toNat &&& (16384 : Int).toNat : Nat) : Int) != 0) = v.msb := by
    rw [← and_top v, Int.toNat_natCast, show (16384 : Int).toNat = 16384 from rfl]
    cases h : (v.toNat &&& 16384) <;> simp
    omega
  have h2 : (v <<< 1).toNat = v.toNat * 2 % 32768 := by
    rw [BitVec.toNat_shiftLeft, Nat.shiftLeft_eq]
  rw [h1]
  have h3 : (v.toNat : Int) * 2 % 32768 = ((v.toNat * 2 % 32768 : Nat) : Int) := by omega
  rw [h3]
  have hx : bits BinOp.xor IntKind.u16 ((v.toNat * 2 % 32768 : Nat) : Int) 17817 = (((v <<< 1) ^^^ 0x4599#15).toNat : Int) := by
    rw [u16_xor _ _ (by omega) (by omega) (by omega) (by omega), BitVec.toNat_xor, h2, Int.toNat_natCast]; rfl
  cases hm : v.msb <;> cases b <;> first
    | (rw [if_neg (by decide), if_neg (by decide), h2])
    | (rw [if_pos (by decide), if_pos (by decide), hx])
theorem crcS_V (l : List Bool) : crcS l = ((sumV 0#15 l).toNat : Int) := by
  have : ∀ (l : List Bool) (v : BitVec 15), l.foldl crcI (v.toNat : Int) = ((sumV v l).toNat : Int) := by
    intro l
    induction l with
    | nil => intro v; rfl
    | cons b l ih => intro v; rw [List.foldl_cons, crcI_V]; exact ih _
  exact this l 0#15
theorem bitI_V (v : BitVec 15) (i : Nat) : bitI (v.toNat : Int) i = v.getLsbD i := by
  unfold bitI
  rw [← BitVec.testBit_toNat, Nat.testBit_eq_decide_div_mod_eq, Bool.eq_iff_iff]
  simp only [decide_eq_true_eq]
  rw [← rawK.cast_pow, ← Int.natCast_ediv]
  omega
theorem run_out (v : BitVec 15) : ∀ k, k ≤ 15 → sumV v ((List.range k).map fun j => v.getLsbD (14 - j)) = v <<< k
  | 0, _ => by simp [sumV]
  | k + 1, h => by
    have ih := run_out v k (by omega)
    unfold sumV at ih ⊢
    rw [List.range_succ, List.map_append, List.foldl_append, ih, List.map_cons, List.map_nil, List.foldl_cons, List.foldl_nil]
    unfold stepV
    have h1 : (v <<< k).msb = v.getLsbD (14 - k) := by
      rw [BitVec.msb_eq_getLsbD_last, BitVec.getLsbD_shiftLeft]
      simp
      omega
    rw [h1]
    simp only [bne_self_eq_false, Bool.false_eq_true, if_false]
    rw [← BitVec.shiftLeft_add]
theorem sum_all (l : List Bool) : sumV 0#15 (l ++ msb (crcS l) 15) = 0#15 := by
  have h : sumV 0#15 (l ++ msb (crcS l) 15) = sumV (sumV 0#15 l) (msb (crcS l) 15) := by simp [sumV, List.foldl_append]
  rw [h, crcS_V]
  generalize sumV 0#15 l = v
  have h2 : msb (v.toNat : Int) 15 = (List.range 15).map fun j => v.getLsbD (14 - j) := by
    unfold msb
    apply List.map_congr_left
    intro j hj
    exact bitI_V v (14 - j)
  rw [h2, run_out v 15 (by omega)]
  apply BitVec.eq_of_toNat_eq
  simp

theorem diff_length : ∀ (l m : List Bool), l.length = m.length → (diff l m).length = l.length
  | [], [], _ => rfl
  | a :: l, b :: m, h => by simp [diff, diff_length l m (by simpa using h)]
  | [], _ :: _, h => by simp at h
  | _ :: _, [], h => by simp at h
theorem diff_none : ∀ (l m : List Bool), l.length = m.length → (diff l m).count true = 0 → l = m
  | [], [], _, _ => rfl
  | a :: l, b :: m, h, hc => by
    rw [diff, List.count_cons] at hc
    have h1 := diff_none l m (by simpa using h) (by omega)
    have h2 : a = b := by
      cases a <;> cases b <;> simp at hc ⊢
    rw [h1, h2]
  | [], _ :: _, h, _ => by simp at h
  | _ :: _, [], h, _ => by simp at h
theorem few_none {i j : Int} {wide : Bool} {l m : List Int} (hl : l.length = m.length) (h8 : l.length ≤ 8) (hc : (diff (bitsF i wide l) (bitsF j wide m)).count true ≤ 5) : bitsF i wide l = bitsF j wide m := by
  have he : (bitsF i wide l).length = (bitsF j wide m).length := by rw [bitsF_length, bitsF_length, hl]
  refine diff_none _ _ he (zero_word _ ?_ ?_ hc)
  · rw [diff_length _ _ he, bitsF_length]; split <;> omega
  · have h := sumV_xor (bitsF i wide l) (bitsF j wide m) 0#15 0#15 he
    rw [BitVec.xor_self] at h
    rw [h]
    unfold bitsF
    rw [sum_all, sum_all, BitVec.xor_self]

theorem msb_succ (v : Int) (n : Nat) : msb v (n + 1) = bitI v n :: msb v n := by
  unfold msb
  rw [List.range_succ_eq_map, List.map_cons, List.map_map]
  congr 1
  apply List.map_congr_left
  intro j hj
  have : n + 1 - 1 - (j + 1) = n - 1 - j := by omega
  simp only [Function.comp, Nat.succ_eq_add_one, this]
theorem msb_inj : ∀ (n : Nat) (x y : Nat), msb (x : Int) n = msb (y : Int) n → x % 2 ^ n = y % 2 ^ n
  | 0, x, y, _ => by simp [Nat.mod_one]
  | n + 1, x, y, h => by
    rw [msb_succ, msb_succ] at h
    have h1 := List.cons.inj h
    have h2 := msb_inj n x y h1.2
    have h3 := h1.1
    unfold bitI at h3
    rw [← rawK.cast_pow, ← Int.natCast_ediv, ← Int.natCast_ediv, Bool.eq_iff_iff] at h3
    simp only [decide_eq_true_eq] at h3
    rw [Nat.pow_succ, Nat.mod_mul, Nat.mod_mul, h2]
    have h4 : x / 2 ^ n % 2 = y / 2 ^ n % 2 := by omega
    rw [h4]
theorem msb_one {n : Nat} {v w : Int} (hv : 0 ≤ v) (hv' : v < 2 ^ n) (hw : 0 ≤ w) (hw' : w < 2 ^ n) (h : msb v n = msb w n) : v = w := by
  obtain ⟨x, rfl⟩ := Int.eq_ofNat_of_zero_le hv
  obtain ⟨y, rfl⟩ := Int.eq_ofNat_of_zero_le hw
  have h1 := msb_inj n x y h
  rw [← rawK.cast_pow] at hv' hw'
  rw [Nat.mod_eq_of_lt (by omega), Nat.mod_eq_of_lt (by omega)] at h1
  rw [h1]
theorem dataF_inj : ∀ (l m : List Int), l.length = m.length → (∀ x ∈ l, 0 ≤ x ∧ x < 256) → (∀ x ∈ m, 0 ≤ x ∧ x < 256) → dataF l = dataF m → l = m
  | [], [], _, _, _, _ => rfl
  | a :: l, b :: m, h, hl, hm, e => by
    unfold dataF at e
    rw [List.flatMap_cons, List.flatMap_cons] at e
    have h1 := List.append_inj e (by rw [msb_length, msb_length])
    have ha := hl a (by simp)
    have hb := hm b (by simp)
    rw [msb_one (n := 8) ha.1 ha.2 hb.1 hb.2 h1.1, dataF_inj l m (by simpa using h) (fun x hx => hl x (by simp [hx])) (fun x hx => hm x (by simp [hx])) h1.2]
  | [], _ :: _, h, _, _, _ => by simp at h
  | _ :: _, [], h, _, _, _ => by simp at h
theorem bitsF_inj {i j : Int} {wide : Bool} {l m : List Int} (hl : l.length = m.length) (bl : ∀ x ∈ l, 0 ≤ x ∧ x < 256) (bm : ∀ x ∈ m, 0 ≤ x ∧ x < 256)
    (hi : 0 ≤ i) (hi' : i < if wide = true then 536870912 else 2048) (hj : 0 ≤ j) (hj' : j < if wide = true then 536870912 else 2048) (e : bitsF i wide l = bitsF j wide m) : i = j ∧ l = m := by
  unfold bitsF at e
  have h1 := (List.append_inj e (by rw [preF_length, preF_length, hl])).1
  unfold preF at h1
  have h2 := List.append_inj h1 (by simp [headF_length, msb_length])
  have h3 := List.append_inj h2.1 (by simp [headF_length])
  have h4 := (List.append_inj h3.1 rfl).2
  refine ⟨?_, dataF_inj l m hl bl bm h2.2⟩
  unfold headF at h4
  cases wide
  · simp only [Bool.false_eq_true, if_false] at h4 hi' hj'
    have h5 := (List.append_inj h4 (by rw [msb_length, msb_length])).1
    exact msb_one (n := 11) hi hi' hj hj' h5
  · simp only [if_true] at h4 hi' hj'
    have h5 := List.append_inj h4 (by rw [msb_length, msb_length])
    have h6 := msb_one (n := 11) (by omega) (by omega) (by omega) (by omega) h5.1
    have h7 := (List.append_inj h5.2 rfl).2
    have h8 := (List.append_inj h7 (by rw [msb_length, msb_length])).1
    obtain ⟨x, rfl⟩ := Int.eq_ofNat_of_zero_le hi
    obtain ⟨y, rfl⟩ := Int.eq_ofNat_of_zero_le hj
    have h9 := msb_inj 18 x y h8
    omega
end Go.Bus.crcLaw
