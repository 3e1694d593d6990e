/- Results that lie in a block known whole: a struct alone, a struct and a word beside it. Plain. -/
import Derived.Test.YtdibfkcddcjiiaaBase
import Derived.Deep.MidRow
namespace Go.Bus
open Go.RowKit
set_option linter.unusedVariables false
set_option linter.unusedSimpArgs false
variable {P : Program} {w : World} {g T p ty u : Nat} {cs cs' : Array Value} {d : TypeDesc} {fn : Func} {tmps : Array Value}
theorem Has.new1 (w : World) (o : Obj) (t : TypeId) (cs : Array Value) : Has ((w.alloc o).alloc (.cells cs t)) (w.heap.size + 1) t cs := by
  have := Has.new (w.alloc o) t cs
  simpa using this
theorem Has.new2 (w : World) (o o2 : Obj) (t : TypeId) (cs : Array Value) : Has (((w.alloc o).alloc o2).alloc (.cells cs t)) (w.heap.size + 1 + 1) t cs := by
  have := Has.new1 (w.alloc o) o2 t cs
  simpa using this
theorem load_has (hg : Has w g T cs) (hu : P.underlying ty = some d) (hd : d.isRow = true) (hi : (P.info? ty).map (·.size) = some cs.size) : (loadVar ty ⟨g, 0, none⟩).run P w = .ok (.agg cs) w :=
  run_loadVar_row w g T ty cs (0, 0) d hg hu (by cases d <;> simp_all) hi
theorem results_block (h : fn.results = #[.cell p ty]) (ht : tmps.getD p undef = .pointer (some ⟨g, 0, none⟩)) (hg : Has w g T cs) (hcs : cs = cs') (hu : P.underlying ty = some d) (hd : d.isRow = true) (hi : (P.info? ty).map (·.size) = some cs'.size) :
    (results fn tmps).run P w = .ok (.agg cs') w := by
  subst hcs
  have hl := load_has (P := P) hg hu hd hi
  rw [Array.getD_eq_getD_getElem?] at ht
  simp only [results, h]
  simp [Sem.run_bind, Result.andThen, ht, asAddr, hl]
theorem results_block2 (h : fn.results = #[.cell p ty, .tmp u]) (ht : tmps.getD p undef = .pointer (some ⟨g, 0, none⟩)) (hg : Has w g T cs) (hcs : cs = cs') (hu : P.underlying ty = some d) (hd : d.isRow = true) (hi : (P.info? ty).map (·.size) = some cs'.size) :
    (results fn tmps).run P w = .ok (.tuple #[.agg cs', tmps.getD u undef]) w := by
  subst hcs
  have hl := load_has (P := P) hg hu hd hi
  rw [Array.getD_eq_getD_getElem?] at ht
  simp only [results, h]
  simp [Sem.run_bind, Result.andThen, ht, asAddr, hl]
end Go.Bus
