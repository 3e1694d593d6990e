/- How long a stuffed row is. Plain. -/
import Derived.Test.YtibegijfaeehnaaStuffLaw
namespace Go.Bus.stuffK
set_option linter.unusedVariables false
/-- Behind n bits: four bits at least stand ahead of each one put in. -/
def Fine (n : Nat) (s : (Bool × Nat) × List Bool) : Prop := n ≤ s.2.length ∧ 4 * (s.2.length - n) + s.1.2 ≤ n ∧ s.1.2 ≤ 4 ∧ (0 < n → 1 ≤ s.1.2)
theorem fine_step {n : Nat} {s : (Bool × Nat) × List Bool} (h : Fine n s) (b : Bool) : Fine (n + 1) (stepS s b) := by
  obtain ⟨h1, h2, h3, h4⟩ := h
  have h6 : 1 ≤ (seeN s.1 b).2 ∧ (seeN s.1 b).2 ≤ s.1.2 + 1 := by
    unfold seeN
    split
    · constructor <;> simp
    · constructor <;> simp
  unfold stepS Fine
  split
  · rename_i h5
    simp only [List.length_append, List.length_cons, List.length_nil]
    omega
  · rename_i h5
    simp only [List.length_append, List.length_cons, List.length_nil]
    omega
theorem fine_all : ∀ (l : List Bool) (n : Nat) (s : (Bool × Nat) × List Bool), Fine n s → Fine (n + l.length) (l.foldl stepS s)
  | [], n, s, h => h
  | b :: l, n, s, h => by
    have := fine_all l (n + 1) (stepS s b) (fine_step h b)
    rw [List.length_cons, show n + (l.length + 1) = n + 1 + l.length from by omega]
    exact this
theorem stuff_len (l : List Bool) : l.length ≤ (stuffF l).length ∧ (stuffF l).length ≤ l.length + (l.length - 1) / 4 := by
  have h := fine_all l 0 ((false, 0), []) ⟨Nat.le_refl _, by simp, by simp, by simp⟩
  rw [Nat.zero_add] at h
  obtain ⟨h1, h2, h3, h4⟩ := h
  unfold stuffF runS
  refine ⟨h1, ?_⟩
  rcases Nat.eq_zero_or_pos l.length with h0 | h0
  · omega
  · have := h4 h0
    omega
end Go.Bus.stuffK
