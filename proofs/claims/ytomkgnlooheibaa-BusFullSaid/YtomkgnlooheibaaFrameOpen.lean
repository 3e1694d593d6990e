/- A frame that came in, opened: an identifier, a width, bytes. A list of bools that came in, opened. No condition. -/
import Derived.Test.YtomkgnlooheibaaOpen
import Derived.Test.YtomkgnlooheibaaProg
namespace Go.Proofs.Ytomkgnlooheibaa
open Go.RowKit Go.Bus Go.Joins Go.ChangeShapes Go.WideShapes
set_option linter.unusedVariables false
namespace frameA
set_option maxRecDepth 100000 in
theorem open_frame {H : Type} {enc : TypeId × Value → H} {w : World} {r : Reach} {b0 : Nat} {v : Value} {d : DataW H} {p : List MemPlace} (hv : Value.okWide Try.prog w r b0 35 v)
    (h : DataW.Trod enc Try.prog w 0 (fun _ => true) true 35 v d p) (hw : ∀ m ∈ d.weights Try.prog 35, m ≤ reachBytes) :
    ∃ (id : Int) (wide : Bool) (sv : Value) (l : List Int), v = .agg #[.int .u32 id, .bool wide, sv] ∧ 0 ≤ id ∧ id < 4294967296 ∧ Sl w w.heap.size (Value.int .u8) sv l ∧ (∀ x ∈ l, 0 ≤ x ∧ x < 256) ∧ l.length ≤ 140737488351232 := by
  obtain ⟨c0, c1, c2, y0, y1, y2, m, rfl, rfl, rfl, h0, h1, h2⟩ := open_agg3 Try.underlying35 (by kernel_rfl) (by kernel_rfl) hv h
  obtain ⟨id, e0, _, w0⟩ := DataW.trod_int Try.underlying32 h0
  obtain ⟨wide, e1, _⟩ := DataW.trod_bool Try.underlying4 h1
  obtain rfl : c0 = .int .u32 id := by simpa using e0
  obtain rfl : c1 = .bool wide := by simpa using e1
  obtain ⟨l, hs, hwf, hb⟩ := open_sl Try.underlying33 Try.underlying5 (by kernel_rfl) h2
  have hid := wf_u32 w0
  have hb' := hb fun m hm => hw m (by
    simp only [DataW.weights, Try.underlying35, DataW.weightsEach, List.map_cons, List.map_nil, List.mem_append]
    exact Or.inr (Or.inr (Or.inl hm)))
  rw [show Try.prog.bytesOf 5 = 1 from by kernel_rfl] at hb'
  exact ⟨id, wide, c2, l, rfl, hid.1, hid.2, hs, fun x hx => wf_u8 (hwf x hx), by omega⟩

end frameA
end Go.Proofs.Ytomkgnlooheibaa
