/- The sum of 15 bits tells every row of at most 118 bits from every other one that differs in at most five places. Plain. -/
import Derived.Test.YtomkgnlooheibaaCrcTab
namespace Go.Bus.crcLaw
open Go.RowKit Go.Bus.bitK
set_option linter.unusedVariables false
theorem tab_set : (tabL.drop 1).all (fun x => setT.testBit x) = true := by decide +kernel

abbrev zeros (n : Nat) : List Bool := List.replicate n false
theorem diff_zeros : ∀ d : List Bool, diff (zeros d.length) d = d
  | [] => rfl
  | b :: d => by
    show (false != b) :: diff (zeros d.length) d = b :: d
    rw [diff_zeros d]; cases b <;> rfl
theorem lin (r : BitVec 15) (d : List Bool) : sumV r d = sumV r (zeros d.length) ^^^ sumV 0#15 d := by
  have h := sumV_xor (zeros d.length) d r 0#15 (by simp)
  rw [BitVec.xor_zero, diff_zeros] at h
  exact h
theorem sum_cons (r : BitVec 15) (b : Bool) (d : List Bool) : sumV r (b :: d) = sumV (stepV r b) d := rfl
theorem S_add (k : Nat) : ∀ n, sumV (S k) (zeros n) = S (k + n)
  | 0 => rfl
  | n + 1 => by
    have h : ∀ (n : Nat) (r : BitVec 15), sumV (stepV r false) (zeros n) = stepV (sumV r (zeros n)) false := by
      intro n
      induction n with
      | zero => intro r; rfl
      | succ n ih => intro r; exact ih (stepV r false)
    show sumV (stepV (S k) false) (zeros n) = S (k + n + 1)
    rw [h, S_add k n]; rfl
theorem zero_sum : ∀ n, sumV 0#15 (zeros n) = 0#15
  | 0 => rfl
  | n + 1 => by
    show sumV (stepV 0#15 false) (zeros n) = 0#15
    rw [show stepV 0#15 false = 0#15 from by decide]; exact zero_sum n
theorem zeros_inj : ∀ (n : Nat) (r : BitVec 15), sumV r (zeros n) = 0#15 → r = 0#15
  | 0, r, h => h
  | n + 1, r, h => step_zero r (zeros_inj n _ h)
theorem zeros_xor (n : Nat) (r s : BitVec 15) : sumV (r ^^^ s) (zeros n) = sumV r (zeros n) ^^^ sumV s (zeros n) := by
  have h := sumV_xor (zeros n) (zeros n) r s rfl
  have e := diff_zeros (zeros n)
  rw [List.length_replicate] at e
  rw [e] at h
  exact h

/-- Where the bits that are 1 stand, told by how many stand behind. -/
def pos : List Bool → List Nat
  | [] => []
  | b :: d => if b = true then d.length :: pos d else pos d
def xorS : List Nat → BitVec 15
  | [] => 0#15
  | k :: r => S k ^^^ xorS r
theorem sum_pos : ∀ d : List Bool, sumV 0#15 d = xorS (pos d)
  | [] => rfl
  | true :: d => by
    rw [sum_cons, lin, show stepV 0#15 true = S 0 from by decide, S_add, sum_pos d, Nat.zero_add]; rfl
  | false :: d => by
    rw [sum_cons, show stepV 0#15 false = 0#15 from by decide, sum_pos d]; rfl
theorem pos_count : ∀ d : List Bool, (pos d).length = d.count true
  | [] => rfl
  | true :: d => by simp [pos, pos_count d]
  | false :: d => by simp [pos, pos_count d]
theorem pos_lt : ∀ (d : List Bool), ∀ k ∈ pos d, k < d.length
  | [], k, h => by cases h
  | true :: d, k, h => by
    simp only [pos, if_true, List.mem_cons] at h
    rcases h with rfl | h
    · simp
    · have := pos_lt d k h; simp; omega
  | false :: d, k, h => by
    simp only [pos] at h
    have := pos_lt d k h; simp; omega
theorem pos_down : ∀ d : List Bool, (pos d).Pairwise (fun a b => b < a)
  | [] => List.Pairwise.nil
  | true :: d => by
    show (d.length :: pos d).Pairwise _
    exact List.Pairwise.cons (fun k h => pos_lt d k h) (pos_down d)
  | false :: d => pos_down d

/-! Parity -/
def oddV (v : BitVec 15) : Bool := odd15 v.toNat
theorem odd_xor (a b : BitVec 15) : oddV (a ^^^ b) = (oddV a != oddV b) := by
  unfold oddV odd15
  rw [BitVec.toNat_xor]
  have h : ∀ (l : List Nat) (p q : Bool), l.foldl (fun p i => p != (a.toNat ^^^ b.toNat).testBit i) (p != q) = (l.foldl (fun p i => p != a.toNat.testBit i) p != l.foldl (fun p i => p != b.toNat.testBit i) q) := by
    intro l
    induction l with
    | nil => intro p q; rfl
    | cons i l ih =>
      intro p q
      rw [List.foldl_cons, List.foldl_cons, List.foldl_cons, ← ih, Nat.testBit_xor]
      congr 1
      cases p <;> cases q <;> cases a.toNat.testBit i <;> cases b.toNat.testBit i <;> rfl
  exact h _ false false
theorem S_tab {k : Nat} (h : k < 118) : tabL[k]? = some (S k).toNat := by
  rw [tab_is, List.getElem?_map, List.getElem?_range h]; rfl
theorem S_odd {k : Nat} (h : k < 118) : oddV (S k) = true := by
  have := List.all_eq_true.1 tab_odd _ (List.mem_of_getElem? (S_tab h))
  exact this
theorem S_mem {k : Nat} (h0 : 0 < k) (h : k < 118) : (S k).toNat ∈ tabL.drop 1 := by
  have := S_tab h
  apply List.mem_of_getElem? (i := k - 1)
  rw [List.getElem?_drop, show 1 + (k - 1) = k from by omega]; exact this
theorem S_ne {k : Nat} (h0 : 0 < k) (h : k < 118) : S k ≠ S 0 := by
  intro e
  have := List.all_eq_true.1 tab_first _ (S_mem h0 h)
  rw [e] at this
  revert this; decide
theorem pairs_at : ∀ (l : List Nat), pairsOK l = true → ∀ (i j : Nat) (x y : Nat), i < j → l[i]? = some x → l[j]? = some y → setT.testBit (x ^^^ y ^^^ 17817) = false
  | [], _, i, j, x, y, _, h, _ => by simp at h
  | z :: r, h, i, j, x, y, hij, hi, hj => by
    simp only [pairsOK, Bool.and_eq_true] at h
    obtain ⟨j, rfl⟩ : ∃ j', j = j' + 1 := ⟨j - 1, by omega⟩
    rw [List.getElem?_cons_succ] at hj
    cases i with
    | zero =>
      obtain rfl : z = x := by simpa using hi
      have := List.all_eq_true.1 h.1 _ (List.mem_of_getElem? hj)
      simpa using this
    | succ i =>
      rw [List.getElem?_cons_succ] at hi
      exact pairs_at r h.2 i j x y (by omega) hi hj
theorem no_three {a b c : Nat} (h0 : 0 < c) (h1 : c < b) (h2 : b < a) (h3 : a < 118) : S a ^^^ (S b ^^^ (S c ^^^ S 0)) ≠ 0#15 := by
  intro e
  have hb : (tabL.drop 1)[b - 1]? = some (S b).toNat := by
    rw [List.getElem?_drop, show 1 + (b - 1) = b from by omega]; exact S_tab (by omega)
  have hc : (tabL.drop 1)[c - 1]? = some (S c).toNat := by
    rw [List.getElem?_drop, show 1 + (c - 1) = c from by omega]; exact S_tab (by omega)
  have h4 := pairs_at _ tab_pairs (c - 1) (b - 1) _ _ (by omega) hc hb
  have h5 := List.all_eq_true.1 tab_set _ (S_mem (by omega) h3)
  have h6 : (S a) = S c ^^^ S b ^^^ S 0 := by
    have h7 := congrArg (fun x => S a ^^^ x) e
    simp only [xor_back, BitVec.xor_zero] at h7
    rw [← h7, BitVec.xor_assoc]
    exact xor_left _ _ _
  have h8 : (S a).toNat = (S c).toNat ^^^ (S b).toNat ^^^ 17817 := by
    rw [h6, BitVec.toNat_xor, BitVec.toNat_xor]; rfl
  rw [h8, h4] at h5
  cases h5
theorem down (d n : Nat) (h : d ≤ n) : S n = sumV (S (n - d)) (zeros d) := by rw [S_add, show n - d + d = n from by omega]

theorem few_zero (ps : List Nat) (hd : ps.Pairwise (fun a b => b < a)) (hl : ∀ k ∈ ps, k < 118) (h5 : ps.length ≤ 5) (h0 : xorS ps = 0#15) : ps = [] := by
  match ps, hd, hl, h5, h0 with
  | [], _, _, _, _ => rfl
  | [a], _, hl, _, h0 =>
    have := congrArg oddV h0
    simp only [xorS, BitVec.xor_zero] at this
    rw [S_odd (hl a (by simp))] at this
    exact absurd this (by decide)
  | [a, b], hd, hl, _, h0 =>
    have hab : b < a := by simp at hd; exact hd
    have ha := hl a (by simp)
    simp only [xorS, BitVec.xor_zero] at h0
    rw [down b a (by omega), down b b (Nat.le_refl _), Nat.sub_self, ← zeros_xor] at h0
    have h1 := zeros_inj _ _ h0
    have h2 : S (a - b) = S 0 := by
      have h3 := congrArg (fun x => x ^^^ S 0) h1
      simpa [BitVec.xor_assoc] using h3
    exact absurd h2 (S_ne (by omega) (by omega))
  | [a, b, c], _, hl, _, h0 =>
    have := congrArg oddV h0
    simp only [xorS, BitVec.xor_zero, odd_xor] at this
    rw [S_odd (hl a (by simp)), S_odd (hl b (by simp)), S_odd (hl c (by simp))] at this
    exact absurd this (by decide)
  | [a, b, c, d], hd, hl, _, h0 =>
    have ha := hl a (by simp)
    simp only [List.pairwise_cons, List.mem_cons, List.not_mem_nil, or_false, forall_eq_or_imp, forall_eq] at hd
    simp only [xorS, BitVec.xor_zero] at h0
    rw [down d a (by omega), down d b (by omega), down d c (by omega), down d d (Nat.le_refl _), Nat.sub_self, ← zeros_xor, ← zeros_xor, ← zeros_xor] at h0
    have h1 := zeros_inj _ _ h0
    exact absurd h1 (no_three (by omega) (by omega) (by omega) (by omega))
  | [a, b, c, d, e], _, hl, _, h0 =>
    have := congrArg oddV h0
    simp only [xorS, BitVec.xor_zero, odd_xor] at this
    rw [S_odd (hl a (by simp)), S_odd (hl b (by simp)), S_odd (hl c (by simp)), S_odd (hl d (by simp)), S_odd (hl e (by simp))] at this
    exact absurd this (by decide)
  | _ :: _ :: _ :: _ :: _ :: _ :: _, _, _, h5, _ => simp at h5

/-- A row whose sum comes to nothing, of which at most five bits are 1, has none. -/
theorem zero_word (d : List Bool) (hl : d.length ≤ 118) (h0 : sumV 0#15 d = 0#15) (hw : d.count true ≤ 5) : d.count true = 0 := by
  have h := few_zero (pos d) (pos_down d) (fun k hk => by have := pos_lt d k hk; omega) (by rw [pos_count]; exact hw) (by rw [← sum_pos]; exact h0)
  rw [← pos_count, h]; rfl
end Go.Bus.crcLaw
