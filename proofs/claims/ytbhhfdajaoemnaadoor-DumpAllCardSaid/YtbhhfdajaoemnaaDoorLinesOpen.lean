/- A list of lines that came in, opened. No condition. -/
import Derived.Test.YtbhhfdajaoemnaaDoorLineOpen
import Derived.Test.YtbhhfdajaoemnaaDoorSameLn
namespace Go.Proofs.YtbhhfdajaoemnaaDoor
open Go.RowKit Go.Bus Go.Bus.cellK Go.Bus.dumpK Go.Joins Go.ChangeShapes Go.WideShapes
set_option linter.unusedVariables false
namespace linesA
def Fit (x : Ln) : Prop := x.Ok ∧ x.port.length ≤ 140737488351232
set_option maxRecDepth 100000 in
theorem open_lines {H : Type} {enc : TypeId × Value → H} {w : World} {r : Reach} {b0 : Nat} {v : Value} {d : DataW H} {p : List MemPlace} (hv : Value.okWide Tryd.prog w r b0 22 v)
    (h : DataW.Trod enc Tryd.prog w 0 (fun _ => true) true 22 v d p) (hw : ∀ m ∈ d.weights Tryd.prog 22, m ≤ reachBytes) :
    ∃ l : List Ln, SlK 5 dumpW.lineR w (Old w.heap.size) v l ∧ (∀ x ∈ l, Fit x) ∧ l.length * 56 ≤ 140737488351232 := by
  obtain ⟨a0, n0, c0, rfl⟩ := Go.WideShapes.okWide_slice Tryd.underlying22 hv
  obtain ⟨m, hm⟩ := h
  obtain ⟨l, h1, h2, h3⟩ := open_slk (y := (d, p)) (R := dumpW.lineR) (Q := Fit) Tryd.underlying22 (show Tryd.prog.cellsOf 34 = 5 from by kernel_rfl) (by decide) hm hw (fun m cs z hl h hw => by
    obtain ⟨l, sv, rfl, ho, hs, hp, hd⟩ := lineA.line_el h hw
    exact ⟨l, ⟨sv, rfl, dumpW.slk_sl hs⟩, ho, hp⟩)
  rw [show Tryd.prog.bytesOf 34 = 56 from by kernel_rfl] at h3
  exact ⟨l, h1, h2, h3⟩
end linesA
end Go.Proofs.YtbhhfdajaoemnaaDoor
