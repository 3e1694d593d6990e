/- A list of bytes that came in, opened. No condition. -/
import Derived.Test.YtdjippdcgfcfgaaGreatDoorOpen
import Derived.Test.YtdjippdcgfcfgaaGreatDoorCodeE
namespace Go.Proofs.YtdjippdcgfcfgaaGreatDoor
open Go.RowKit Go.Bus Go.Bus.codeK Go.Joins Go.ChangeShapes Go.WideShapes
set_option linter.unusedVariables false
namespace bytesA
set_option maxRecDepth 100000 in
theorem open_bytes {H : Type} {enc : TypeId × Value → H} {w : World} {r : Reach} {b0 : Nat} {v : Value} {d : DataW H} {p : List MemPlace} (hv : Value.okWide Tryz.prog w r b0 23 v)
    (h : DataW.Trod enc Tryz.prog w 0 (fun _ => true) true 23 v d p) (hw : ∀ m ∈ d.weights Tryz.prog 23, m ≤ reachBytes) :
    ∃ l : List Int, Sl w w.heap.size codeW.byteV v l ∧ (∀ x ∈ l, Byte x) ∧ l.length ≤ 140737488351232 := by
  obtain ⟨a0, n0, c0, rfl⟩ := Go.WideShapes.okWide_slice Tryz.underlying23 hv
  obtain ⟨m, hm⟩ := h
  obtain ⟨l, hs, hwf, hb⟩ := open_sl Tryz.underlying23 Tryz.underlying5 (by kernel_rfl) hm
  have hb' := hb hw
  rw [show Tryz.prog.bytesOf 5 = 1 from by kernel_rfl] at hb'
  exact ⟨l, hs, fun x hx => wf_u8 (hwf x hx), by omega⟩
end bytesA
end Go.Proofs.YtdjippdcgfcfgaaGreatDoor
