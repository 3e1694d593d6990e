/- A trace's line that came in, opened. No condition. -/
import Derived.Test.YtbhhfdajaoemnaaDoorOpen
import Derived.Test.YtbhhfdajaoemnaaDoorCells
import Derived.Test.YtbhhfdajaoemnaaDoorDumpPr
import Derived.Test.YtbhhfdajaoemnaaDoorProg
namespace Go.Proofs.YtbhhfdajaoemnaaDoor
open Go.RowKit Go.Bus Go.Bus.cellK Go.Bus.dumpK Go.Joins Go.ChangeShapes Go.WideShapes
set_option linter.unusedVariables false
namespace lineA
section
variable {H : Type} {enc : TypeId × Value → H} {w : World} {r : Reach} {b0 : Nat} {n : Nat} {cs : List Value} {z : DataW H × List MemPlace}
set_option maxRecDepth 100000 in
theorem frame_el (h : DataW.trod enc Tryd.prog w 0 (fun _ => true) true n 32 cs = some z) (hw : ∀ q ∈ z.1.weights Tryd.prog 32, q ≤ reachBytes) :
    ∃ (id : Int) (wide : Bool) (sv : Value) (l : List Int), cs = [.int .u32 id, .bool wide, sv] ∧ 0 ≤ id ∧ id < 4294967296 ∧ Sl w w.heap.size (Value.int .u8) sv l ∧ (∀ x ∈ l, 0 ≤ x ∧ x < 256) ∧ l.length ≤ 140737488351232 := by
  obtain ⟨hl, hf⟩ := field_of Tryd.underlying32 h hw
  rw [show Tryd.prog.cellsOf 32 = 3 from by kernel_rfl] at hl
  match cs, hl with
  | [c0, c1, c2], _ =>
    obtain ⟨y0, m0, g0, w0⟩ := hf 0 30 0 1 rfl (by kernel_rfl)
    obtain ⟨id, e0, _, oid⟩ := DataW.trod_int Tryd.underlying30 g0
    obtain rfl : c0 = .int .u32 id := by simpa using e0
    obtain ⟨y1, m1, g1, w1⟩ := hf 1 4 1 1 rfl (by kernel_rfl)
    obtain ⟨wide, e1, _⟩ := DataW.trod_bool Tryd.underlying4 g1
    obtain rfl : c1 = .bool wide := by simpa using e1
    obtain ⟨y2, m2, g2, w2⟩ := hf 2 24 2 1 rfl (by kernel_rfl)
    obtain ⟨l, hs, hwf, hb⟩ := open_sl Tryd.underlying24 Tryd.underlying5 (by kernel_rfl) (show DataW.trod enc Tryd.prog w 0 (fun _ => true) true m2 24 [c2] = some y2 from g2)
    have hb' := hb w2
    rw [show Tryd.prog.bytesOf 5 = 1 from by kernel_rfl] at hb'
    exact ⟨id, wide, c2, l, rfl, (wf_u32 oid).1, (wf_u32 oid).2, hs, fun x hx => wf_u8 (hwf x hx), by omega⟩
set_option maxRecDepth 100000 in
theorem line_el (h : DataW.trod enc Tryd.prog w 0 (fun _ => true) true n 34 cs = some z) (hw : ∀ q ∈ z.1.weights Tryd.prog 34, q ≤ reachBytes) :
    ∃ (l : Ln) (sv : Value), cs = lnC l sv ∧ l.Ok ∧ Sl w w.heap.size (Value.int .u8) sv l.data ∧ l.port.length ≤ 140737488351232 ∧ l.data.length ≤ 140737488351232 := by
  obtain ⟨hl, hf⟩ := field_of Tryd.underlying34 h hw
  rw [show Tryd.prog.cellsOf 34 = 5 from by kernel_rfl] at hl
  match cs, hl with
  | [c0, c1, c2, c3, c4], _ =>
    obtain ⟨y0, m0, g0, w0⟩ := hf 0 29 0 1 rfl (by kernel_rfl)
    obtain ⟨time, e0, _, ot⟩ := DataW.trod_int Tryd.underlying29 g0
    obtain rfl : c0 = .int .u64 time := by simpa using e0
    obtain ⟨y1, m1, g1, w1⟩ := hf 1 9 1 1 rfl (by kernel_rfl)
    obtain ⟨port, e1, op⟩ := str_of Tryd.underlying9 g1 w1
    obtain rfl : c1 = .string port := by simpa using e1
    obtain ⟨y2, m2, g2, w2⟩ := hf 2 32 2 3 rfl (by kernel_rfl)
    obtain ⟨id, wide, sv, l, e2, i0, i1, hs, hb, hn⟩ := frame_el g2 w2
    obtain ⟨rfl, rfl, rfl⟩ : c2 = .int .u32 id ∧ c3 = .bool wide ∧ c4 = sv := by simpa using e2
    have ht := wf_u64 ot
    obtain ⟨t, rfl⟩ := Int.eq_ofNat_of_zero_le ht.1
    obtain ⟨d, rfl⟩ := Int.eq_ofNat_of_zero_le i0
    refine ⟨⟨t, port.data.toList, d, wide, l⟩, c4, ?_, ⟨by show t < 18446744073709551616; omega, by show d < 4294967296; omega, hb⟩, hs, ?_, hn⟩
    · show _ = [Value.int .u64 (t : Nat), .string ⟨port.data.toList.toArray⟩, .int .u32 (d : Nat), .bool wide, c4]
      simp
    · show port.data.toList.length ≤ _
      simpa using op
set_option maxRecDepth 100000 in
theorem open_line {v : Value} {d : DataW H} {p : List MemPlace} (hv : Value.okWide Tryd.prog w r b0 34 v)
    (h : DataW.Trod enc Tryd.prog w 0 (fun _ => true) true 34 v d p) (hw : ∀ m ∈ d.weights Tryd.prog 34, m ≤ reachBytes) :
    ∃ (l : Ln) (sv : Value), v = .agg (lnC l sv).toArray ∧ l.Ok ∧ Sl w w.heap.size (Value.int .u8) sv l.data ∧ l.port.length ≤ 140737488351232 ∧ l.data.length ≤ 140737488351232 := by
  obtain ⟨cs, rfl, hsz⟩ := okWide_struct Tryd.underlying34 hv
  obtain ⟨fuel, hf⟩ := h
  obtain ⟨l, sv, he, h1, h2, h3, h4⟩ := line_el (z := (d, p)) hf hw
  exact ⟨l, sv, by rw [← he]; show Value.agg cs = Value.agg cs.toList.toArray; rw [Array.toArray_toList], h1, h2, h3, h4⟩
end
end lineA
end Go.Proofs.YtbhhfdajaoemnaaDoor
