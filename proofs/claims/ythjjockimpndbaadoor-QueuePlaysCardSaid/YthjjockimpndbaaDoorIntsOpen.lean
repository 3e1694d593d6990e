/- A list of ints that came in, opened. No condition. -/
import Derived.Test.YthjjockimpndbaaDoorOpen
import Derived.Test.YthjjockimpndbaaDoorProg
namespace Go.Proofs.YthjjockimpndbaaDoor
open Go.RowKit Go.Bus Go.Joins Go.ChangeShapes Go.WideShapes
set_option linter.unusedVariables false
namespace intsA
theorem wf_int {n : Int} (h : (Lit.int .i64 n).wf = true) : -9223372036854775808 ≤ n ∧ n < 9223372036854775808 := by
  simp [Lit.wf, IntKind.min, IntKind.max, IntKind.signed, IntKind.bits] at h; omega
set_option maxRecDepth 100000 in
theorem open_intl {H : Type} {enc : TypeId × Value → H} {w : World} {r : Reach} {b0 : Nat} {v : Value} {d : DataW H} {p : List MemPlace} (hv : Value.okWide Tryd.prog w r b0 70 v)
    (h : DataW.Trod enc Tryd.prog w 0 (fun _ => true) true 70 v d p) (hw : ∀ m ∈ d.weights Tryd.prog 70, m ≤ reachBytes) :
    ∃ l : List Int, Sl w w.heap.size (Value.int .i64) v l ∧ (∀ x ∈ l, -9223372036854775808 ≤ x ∧ x < 9223372036854775808) ∧ l.length ≤ 140737488351232 := by
  obtain ⟨a0, n0, c0, rfl⟩ := Go.WideShapes.okWide_slice Tryd.underlying70 hv
  obtain ⟨m, hm⟩ := h
  obtain ⟨l, hs, hwf, hb⟩ := open_sl Tryd.underlying70 Tryd.underlying3 (by kernel_rfl) hm
  have hb' := hb hw
  rw [show Tryd.prog.bytesOf 3 = 8 from by kernel_rfl] at hb'
  exact ⟨l, hs, fun x hx => wf_int (hwf x hx), by omega⟩
end intsA
end Go.Proofs.YthjjockimpndbaaDoor
