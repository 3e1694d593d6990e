/- Plain: when a line's pieces are shaped as they should be. No program in sight. -/
import Derived.Test.YtbhhfdajaoemnaaGreatDoorDumpTx
namespace Go.Bus.dumpK
open Go.Bus.hexK Go.Bus.textK Go.Lib
set_option linter.unusedVariables false
theorem empty_pos {α : Type} (l : List α) : (!l.isEmpty) = true ↔ 0 < l.length := by cases l <;> simp
theorem shaped_iff (p : Pcs) : shaped p = true ↔ (0 < p.a.length ∧ allD 10 p.a = true ∧ (p.a.length = 1 ∨ p.a.head? ≠ some 48)) ∧ p.b.length = 6 ∧ allD 10 p.b = true ∧ 0 < p.c.length ∧ (p.d.length = 3 ∨ p.d.length = 8) ∧ allD 16 p.d = true ∧ p.e.length % 2 = 0 ∧ allD 16 p.e = true := by
  have hh : ((!(p.a.head? == some 48)) = true) ↔ p.a.head? ≠ some 48 := by
    rw [Bool.not_eq_true', beq_eq_false_iff_ne]
  unfold shaped good
  rw [allD_dig p.a]
  simp only [Bool.and_eq_true, Bool.or_eq_true, decide_eq_true_eq, empty_pos, hh, and_assoc]
end Go.Bus.dumpK
