/- Reading a frame's bits, field by field: what the fields' answers come to. -/
import Derived.Test.YtomkgnlooheibaaReadData
import Derived.Test.YtomkgnlooheibaaAllLaw
namespace Go.Proofs.Ytomkgnlooheibaa
open Go.RowKit Go.Bus Go.Bus.bitK Go.Bus.numK Go.Bus.decK Go.Bus.stuffK
set_option linter.unusedVariables false
namespace decW
open readW
def thenF : Except (Nat × Nat) (List Bool) → Except Err (Int × Bool × List Int)
  | .error x => .error (unErr x)
  | .ok m => decE m
theorem all_eq {l : List Bool} {n : Nat} (h10 : ¬ l.length < 10) (hn : l.length - 10 = n) (hb : nb l n 10 = 1023) : allF l = thenF (unF (false, 0) 0 (l.take n)) := by
  unfold allF
  rw [if_neg h10, hn, if_neg (by rw [hb]; simp)]
  cases unF (false, 0) 0 (l.take n) <;> rfl
def wideF (m : List Bool) : Bool := decide (nb m 13 1 = 1)
theorem id_none {m : List Bool} (h : idE m = none) : 14 ≤ m.length ∧ nb m 0 1 = 0 ∧ nb m 12 1 = nb m 13 1 := by
  unfold idE at h
  split at h
  · cases h
  · split at h
    · cases h
    · omega
theorem rest_none {m : List Bool} {W : Bool} (hl : 14 ≤ m.length) (h : restE m W = none) : restA W + 4 ≤ m.length := by
  unfold restE at h
  unfold restA
  cases W
  · simp only [if_true] at h
    split at h
    · cases h
    · simp; omega
  · simp only [Bool.true_eq_false, if_false] at h
    split at h
    · cases h
    · simp; omega
theorem len_none {m : List Bool} {a : Nat} (h : lenE m a = none) : nb m a 4 ≤ 8 ∧ m.length - (a + 4) = 8 * nb m a 4 + 15 := by
  unfold lenE at h
  split at h
  · cases h
  · split at h
    · cases h
    · split at h
      · cases h
      · omega
theorem dec_id {m : List Bool} {k : Nat} (h : idE m = some k) : decE m = .error (k, none) := by
  unfold idE at h
  unfold decE decF
  split at h
  · rename_i h1; cases h; rw [if_pos h1]
  · rename_i h1
    split at h
    · rename_i h2; cases h; rw [if_neg h1, if_pos h2]
    · cases h
theorem dec_from {m : List Bool} (h0 : idE m = none) :
    decF m = match restE m (wideF m) with | some k => .error k | none => tailF m (restI m (wideF m) : Nat) (wideF m) (restA (wideF m)) := by
  obtain ⟨a1, a2, a3⟩ := id_none h0
  unfold decF wideF restE restI restA
  rw [if_neg (by omega), if_neg (by omega)]
  rcases one_bit (m := m) (a := 13) (by omega) with h | h
  · rw [if_pos h, decide_eq_false (by omega)]
    simp only [if_true, Bool.false_eq_true, if_false]
    by_cases h5 : m.length - 14 < 5
    · rw [if_pos h5, if_pos h5]
    · rw [if_neg h5, if_neg h5]
      by_cases h6 : nb m 14 1 ≠ 0
      · rw [if_pos h6, if_pos h6]
      · rw [if_neg h6, if_neg h6]
  · rw [if_neg (by omega), decide_eq_true h]
    simp only [if_true, Bool.true_eq_false, if_false]
    by_cases h5 : m.length - 14 < 25
    · rw [if_pos h5, if_pos h5]
    · rw [if_neg h5, if_neg h5]
      by_cases h6 : nb m 32 3 ≠ 0
      · rw [if_pos h6, if_pos h6]
      · rw [if_neg h6, if_neg h6]
theorem dec_rest {m : List Bool} {k : Nat} (h0 : idE m = none) (h : restE m (wideF m) = some k) : decE m = .error (k, none) := by
  unfold decE
  rw [dec_from h0, h]
theorem dec_len {m : List Bool} {k : Nat} (h0 : idE m = none) (h1 : restE m (wideF m) = none) (h : lenE m (restA (wideF m)) = some k) : decE m = .error (k, none) := by
  unfold decE
  rw [dec_from h0, h1]
  simp only
  unfold lenE at h
  unfold tailF
  split at h
  · rename_i c; cases h; rw [if_pos c]
  · rename_i c1
    split at h
    · rename_i c; cases h; rw [if_neg c1, if_pos c]
    · rename_i c2
      split at h
      · rename_i c; cases h; rw [if_neg c1, if_neg c2, if_pos c]
      · cases h
theorem dec_tail {m : List Bool} (h0 : idE m = none) (h1 : restE m (wideF m) = none) (h : lenE m (restA (wideF m)) = none) :
    decE m = if (nb m (restA (wideF m) + 4 + 8 * nb m (restA (wideF m)) 4) 15 : Int) ≠ crcS (m.take (restA (wideF m) + 4 + 8 * nb m (restA (wideF m)) 4)) then .error (23, none)
      else .ok ((restI m (wideF m) : Nat), wideF m, bytesF m (restA (wideF m) + 4) (nb m (restA (wideF m)) 4)) := by
  obtain ⟨a1, a2⟩ := len_none h
  unfold decE
  rw [dec_from h0, h1]
  simp only
  unfold tailF
  rw [if_neg (by omega), if_neg (by omega), if_neg (by omega)]
  by_cases hc : (nb m (restA (wideF m) + 4 + 8 * nb m (restA (wideF m)) 4) 15 : Int) ≠ crcS (m.take (restA (wideF m) + 4 + 8 * nb m (restA (wideF m)) 4))
  · rw [if_pos hc, if_pos hc]
  · rw [if_neg hc, if_neg hc]
end decW
end Go.Proofs.Ytomkgnlooheibaa
