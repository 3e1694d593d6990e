/- asked's way out: three marks, and the result in its box. No condition. -/
import Derived.Test.YthjjockimpndbaaDoorRefQueue
import Derived.Test.YthjjockimpndbaaDoorQVals
import Derived.RangeFuncWrites
namespace Go.Proofs.YthjjockimpndbaaDoor
open Go.RowKit Go.Shelf Go.Bus
set_option linter.unusedVariables false
attribute [local go_sem] Oper.semAt_some
namespace askedK
theorem put_other {w : World} {i j : Nat} {o : Obj} {x : Option Obj} (h : w.heap[i]? = x) (hne : i ≠ j) : (w.putObj j o).heap[i]? = x := (World.putObj_heap_other (fun e => hne (by first | exact e | exact e.symm))).trans h
set_option maxRecDepth 100000 in
theorem leave3 {n : Nat} {tmps : Array Value} (w V : World) (D10 D8 D6 : Nat) (h10 : V.heap[D10]? = some (.deferred (some []))) (h8 : V.heap[D8]? = some (.deferred (some []))) (h6 : V.heap[D6]? = some (.deferred (some [])))
    (n1 : D8 ≠ D10) (n2 : D6 ≠ D10) (n3 : D6 ≠ D8) (hc : V.cell? ⟨w.heap.size + 2, 0, none⟩ = some (.bool true)) (hB : Below w.heap.size w V) (b10 : w.heap.size ≤ D10) (b8 : w.heap.size ≤ D8) (b6 : w.heap.size ≤ D6)
    (ht : tmps[6]? = some (.pointer (some ⟨w.heap.size + 2, 0, none⟩))) :
    bodyPostM Fence.wide n Tryd.prog Tryd.f15 (fun e w' => e = .returned (.bool true) ∧ Below w.heap.size w w') .ret { tmps := tmps, defers := [{ target := .collected D10, args := #[] }, { target := .collected D8, args := #[] }, { target := .collected D6, args := #[] }] } V := by
  have h8a := put_other (o := .deferred none) h8 n1
  have h6a := put_other (o := .deferred none) (put_other (o := .deferred none) h6 n2) n3
  refine ⟨by simp, .inl ⟨_, _, rfl, run_takeDeferred h10, ⟨by simp, .inl ⟨_, _, rfl, run_takeDeferred h8a, ⟨by simp, .inl ⟨_, _, rfl, run_takeDeferred h6a, ?_⟩⟩⟩⟩⟩⟩
  have c1 := cell_kept hc (grownBy_putObj' V D10 (.deferred none)) (fun r e => by cases e; exact ⟨_, h10, rfl⟩)
  have c2 := cell_kept c1 (grownBy_putObj' _ D8 (.deferred none)) (fun r e => by cases e; exact ⟨_, h8a, rfl⟩)
  have c3 := cell_kept c2 (grownBy_putObj' _ D6 (.deferred none)) (fun r e => by cases e; exact ⟨_, h6a, rfl⟩)
  refine ⟨.bool true, ?_, rfl, ((hB.trans (belowK_b (w := w) (Nat.le_refl _) V D10 _ _ b10 h10 rfl rfl)).trans (belowK_b (w := w) (Nat.le_refl _) _ D8 _ _ b8 h8a rfl rfl)).trans (belowK_b (w := w) (Nat.le_refl _) _ D6 _ _ b6 h6a rfl rfl)⟩
  simp [results, Tryd.results15, go_sem, ht, c3]
end askedK
end Go.Proofs.YthjjockimpndbaaDoor
