/- Stuffing as a fold: what counts alike bits, what comes out. Plain. -/
import Derived.WalkKit
namespace Go.Bus.stuffK
set_option linter.unusedVariables false
/-- How many are alike, and which. -/
def seeN (s : Bool × Nat) (b : Bool) : Bool × Nat := if 0 < s.2 ∧ s.1 = b then (b, s.2 + 1) else (b, 1)
/-- Behind one bit: the count, what is out. -/
def stepS (s : (Bool × Nat) × List Bool) (b : Bool) : (Bool × Nat) × List Bool :=
  if (seeN s.1 b).2 = 5 then ((!b, 1), s.2 ++ [b, !b]) else (seeN s.1 b, s.2 ++ [b])
def runS (l : List Bool) : (Bool × Nat) × List Bool := l.foldl stepS ((false, 0), [])
def stuffF (l : List Bool) : List Bool := (runS l).2
theorem runS_snoc (l : List Bool) (b : Bool) : runS (l ++ [b]) = stepS (runS l) b := by simp [runS, List.foldl_append]
theorem runS_take (l : List Bool) (k : Nat) (h : k < l.length) : runS (l.take (k + 1)) = stepS (runS (l.take k)) l[k] := by
  rw [List.take_succ_eq_append_getElem h, runS_snoc]
theorem run_bd (l : List Bool) : (runS l).1.2 ≤ 4 ∧ (runS l).2.length ≤ 2 * l.length := by
  have : ∀ (n : Nat) (l : List Bool), l.length = n → (runS l).1.2 ≤ 4 ∧ (runS l).2.length ≤ 2 * l.length := by
    intro n
    induction n with
    | zero =>
      intro l h
      obtain rfl := List.eq_nil_of_length_eq_zero h
      simp [runS]
    | succ n ih =>
      intro l h
      have hl : l = l.take n ++ [l[n]] := by
        have := List.take_succ_eq_append_getElem (l := l) (i := n) (by omega)
        rw [List.take_of_length_le (by omega)] at this
        exact this
      have hi := ih (l.take n) (by rw [List.length_take]; omega)
      rw [List.length_take, Nat.min_eq_left (by omega)] at hi
      rw [hl, runS_snoc]
      unfold stepS
      split
      · simp only [List.length_append, List.length_cons, List.length_nil, List.length_take]; omega
      · rename_i h5
        have h6 : (seeN (runS (l.take n)).1 l[n]).2 ≤ 5 := by unfold seeN; split <;> simp <;> omega
        simp only [List.length_append, List.length_cons, List.length_nil, List.length_take]; omega
  exact this _ l rfl
end Go.Bus.stuffK
