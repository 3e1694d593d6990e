/- A whole struct out of and into a block known whole, at a plain region's list: no unrolling. Plain. -/
import Derived.Test.YtllbpanfhlbbgaaDoorRes
import Derived.Laws.Tables
import Derived.Laws.CopyOwn
namespace Go.Bus
open Go.RowKit
set_option linter.unusedVariables false
set_option linter.unusedSimpArgs false
section
variable {P : Program} {w : World} {g T ty : Nat} {cs cs' : Array Value} {d : TypeDesc} {ops : Array Oper} {rest : List Oper} {op : Oper} {a : Act} {Q : Exit → Act → World → Prop}
theorem wpList_load_has (hgd : op.guard = none) (ty : TypeId) (x : Operand) (ho : op.op = .load ty x) (g : Nat) (hx : a.eval x = .pointer (some ⟨g, 0, none⟩)) (hg : Has w g T cs)
    (hu : P.underlying ty = some d) (hd : d.isRow = true) (hi : (P.info? ty).map (·.size) = some cs.size) (h : wpList P ops Q rest (a.put op.dst (.agg cs)) w) : wpList P ops Q (op :: rest) a w :=
  wpList_plain hgd fun K hK => by
    unfold Oper.wp execOp
    simp only [ho, hx, Instr.loadAt, Instr.sureAddr, Sem.run_bind, Sem.run_pure, Result.andThen_ok, load_has (P := P) hg hu hd hi]
    exact hK _ _ h
theorem wpList_store_has (hgd : op.guard = none) (ty : TypeId) (x y : Operand) (ho : op.op = .store ty x y) (g : Nat) (hx : a.eval x = .pointer (some ⟨g, 0, none⟩)) (hy : a.eval y = .agg cs') (hg : Has w g T cs)
    (hi : (P.info? ty).map (·.size) = some cs'.size) (hs : cs.size = cs'.size) (h1 : cs'.all (·.oneCell') = true) (h : wpList P ops Q rest (a.put op.dst undef) (w.setRow g cs')) : wpList P ops Q (op :: rest) a w :=
  wpList_plain hgd fun K hK => by
    unfold Oper.wp execOp
    simp only [ho, hx, hy, Instr.storeAt, Instr.sureAddr, Sem.run_bind, Sem.run_pure, Result.andThen_ok, run_storeVar_row (P := P) w g T ty cs cs' hg hi hs h1]
    exact hK _ _ h
theorem setRow_last (w : World) (c c' : Array Value) (t : TypeId) : (w.alloc (.cells c t)).setRow w.heap.size c' = w.alloc (.cells c' t) := by
  simp only [World.setRow, World.alloc]
  congr 1
  apply Array.ext_getElem?
  intro i
  rw [Array.getElem?_modify]
  by_cases h : w.heap.size = i
  · subst h
    simp
  · have h' : ¬ i = w.heap.size := fun e => h e.symm
    simp [h, h', Array.getElem?_push]
/-- Into the block that was made last. -/
theorem wpList_store_last (hgd : op.guard = none) (ty : TypeId) (x y : Operand) (ho : op.op = .store ty x y) (t : TypeId) (c : Array Value) (hx : a.eval x = .pointer (some ⟨w.heap.size, 0, none⟩)) (hy : a.eval y = .agg cs')
    (hi : (P.info? ty).map (·.size) = some cs'.size) (hs : c.size = cs'.size) (h1 : cs'.all (·.oneCell') = true) (h : wpList P ops Q rest (a.put op.dst undef) (w.alloc (.cells cs' t))) : wpList P ops Q (op :: rest) a (w.alloc (.cells c t)) :=
  wpList_store_has hgd ty x y ho w.heap.size hx hy (Has.new w t c) hi hs h1 (by rw [setRow_last]; exact h)
theorem wpList_store_last1 {o1 : Obj} (hgd : op.guard = none) (ty : TypeId) (x y : Operand) (ho : op.op = .store ty x y) (t : TypeId) (c : Array Value) (hx : a.eval x = .pointer (some ⟨w.heap.size + 1, 0, none⟩)) (hy : a.eval y = .agg cs')
    (hi : (P.info? ty).map (·.size) = some cs'.size) (hs : c.size = cs'.size) (h1 : cs'.all (·.oneCell') = true) (h : wpList P ops Q rest (a.put op.dst undef) ((w.alloc o1).alloc (.cells cs' t))) : wpList P ops Q (op :: rest) a ((w.alloc o1).alloc (.cells c t)) :=
  wpList_store_last hgd ty x y ho t c (by rw [hx]; simp) hy hi hs h1 h
theorem wpList_store_last2 {o1 o2 : Obj} (hgd : op.guard = none) (ty : TypeId) (x y : Operand) (ho : op.op = .store ty x y) (t : TypeId) (c : Array Value) (hx : a.eval x = .pointer (some ⟨w.heap.size + 1 + 1, 0, none⟩)) (hy : a.eval y = .agg cs')
    (hi : (P.info? ty).map (·.size) = some cs'.size) (hs : c.size = cs'.size) (h1 : cs'.all (·.oneCell') = true) (h : wpList P ops Q rest (a.put op.dst undef) (((w.alloc o1).alloc o2).alloc (.cells cs' t))) : wpList P ops Q (op :: rest) a (((w.alloc o1).alloc o2).alloc (.cells c t)) :=
  wpList_store_last1 hgd ty x y ho t c (by rw [hx]; simp) hy hi hs h1 h
theorem Has.row (h : Has w g T cs) (cs' : Array Value) : Has (w.setRow g cs') g T cs' := setRow_heap w g cs cs' T (0, 0) h
theorem Has.rowFar {g' : Nat} (h : Has w g T cs) (hne : g ≠ g') (c : Array Value) : Has (w.setRow g' c) g T cs := (setRow_other w g' g c hne).trans h
end
end Go.Bus
