/- A frame that came in, opened: an identifier, a width, bytes. A list of bools that came in, opened. No condition. -/
import Derived.Test.YtpeeonfpmgddoaaDoorOpen
import Derived.Test.YtpeeonfpmgddoaaDoorProg
namespace Go.Proofs.YtpeeonfpmgddoaaDoor
open Go.RowKit Go.Bus Go.Joins Go.ChangeShapes Go.WideShapes
set_option linter.unusedVariables false
namespace frameA
set_option maxRecDepth 100000 in
theorem open_frame {H : Type} {enc : TypeId × Value → H} {w : World} {r : Reach} {b0 : Nat} {v : Value} {d : DataW H} {p : List MemPlace} (hv : Value.okWide Tryd.prog w r b0 26 v)
    (h : DataW.Trod enc Tryd.prog w 0 (fun _ => true) true 26 v d p) (hw : ∀ m ∈ d.weights Tryd.prog 26, m ≤ reachBytes) :
    ∃ (id : Int) (wide : Bool) (sv : Value) (l : List Int), v = .agg #[.int .u32 id, .bool wide, sv] ∧ 0 ≤ id ∧ id < 4294967296 ∧ Sl w w.heap.size (Value.int .u8) sv l ∧ (∀ x ∈ l, 0 ≤ x ∧ x < 256) ∧ l.length ≤ 140737488351232 := by
  obtain ⟨c0, c1, c2, y0, y1, y2, m, rfl, rfl, rfl, h0, h1, h2⟩ := open_agg3 Tryd.underlying26 (by kernel_rfl) (by kernel_rfl) hv h
  obtain ⟨id, e0, _, w0⟩ := DataW.trod_int Tryd.underlying23 h0
  obtain ⟨wide, e1, _⟩ := DataW.trod_bool Tryd.underlying4 h1
  obtain rfl : c0 = .int .u32 id := by simpa using e0
  obtain rfl : c1 = .bool wide := by simpa using e1
  obtain ⟨l, hs, hwf, hb⟩ := open_sl Tryd.underlying24 Tryd.underlying5 (by kernel_rfl) h2
  have hid := wf_u32 w0
  have hb' := hb fun m hm => hw m (by
    simp only [DataW.weights, Tryd.underlying26, DataW.weightsEach, List.map_cons, List.map_nil, List.mem_append]
    exact Or.inr (Or.inr (Or.inl hm)))
  rw [show Tryd.prog.bytesOf 5 = 1 from by kernel_rfl] at hb'
  exact ⟨id, wide, c2, l, rfl, hid.1, hid.2, hs, fun x hx => wf_u8 (hwf x hx), by omega⟩

end frameA
end Go.Proofs.YtpeeonfpmgddoaaDoor
