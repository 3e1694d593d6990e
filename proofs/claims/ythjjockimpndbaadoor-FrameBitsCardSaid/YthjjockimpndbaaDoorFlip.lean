/- The first places of a row of bools turned. Plain. -/
import Derived.Test.YthjjockimpndbaaDoorFarm2
namespace Go.Bus.flipK
open Go.RowKit Go.Bus Go.Bus.farmK
set_option linter.unusedVariables false
def flipTo (t : Nat) (y : List Bool) : List Bool := (y.take t).map (!·) ++ y.drop t
theorem flip_length (t : Nat) (y : List Bool) : (flipTo t y).length = y.length := by
  unfold flipTo; rw [List.length_append, List.length_map, List.length_take, List.length_drop]; omega
theorem flip_zero (y : List Bool) : flipTo 0 y = y := by simp [flipTo]
theorem flip_get {t i : Nat} {y : List Bool} (h : i < y.length) : (flipTo t y)[i]'(by rw [flip_length]; exact h) = if i < t then !y[i] else y[i] := by
  unfold flipTo
  by_cases hi : i < t
  · rw [List.getElem_append_left (by rw [List.length_map, List.length_take]; omega), List.getElem_map, List.getElem_take, if_pos hi]
  · rw [List.getElem_append_right (by rw [List.length_map, List.length_take]; omega), List.getElem_drop, if_neg hi]
    congr 1
    rw [List.length_map, List.length_take]; omega
theorem flip_set {t : Nat} {y : List Bool} (h : t < y.length) : (flipTo t y).set t (!y[t]) = flipTo (t + 1) y := by
  apply List.ext_getElem
  · rw [List.length_set, flip_length, flip_length]
  · intro i h1 h2
    have hi : i < y.length := by rw [List.length_set, flip_length] at h1; exact h1
    rw [flip_get hi]
    by_cases hit : t = i
    · subst hit; rw [List.getElem_set_self, if_pos (by omega)]
    · rw [List.getElem_set_ne hit, flip_get hi]
      by_cases h3 : i < t
      · rw [if_pos h3, if_pos (by omega)]
      · rw [if_neg h3, if_neg (by omega)]
end Go.Bus.flipK
