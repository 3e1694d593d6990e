/- A program that came in, opened: a list of instructions. No condition. -/
import Derived.Test.YtdjippdcgfcfgaaGreatDoorCodeE
namespace Go.Proofs.YtdjippdcgfcfgaaGreatDoor
open Go.RowKit Go.Bus Go.Bus.cellK Go.Bus.codeK Go.Joins Go.ChangeShapes Go.WideShapes
set_option linter.unusedVariables false
namespace inssA
section
variable {H : Type} {enc : TypeId × Value → H} {w : World} {r : Reach} {b0 : Nat} {n : Nat} {cs : List Value} {z : DataW H × List MemPlace}
set_option maxRecDepth 100000 in
theorem ins_el (hl : cs.length = 5) (h : DataW.trod enc Tryz.prog w 0 (fun _ => true) true n 35 cs = some z) (hw : ∀ q ∈ z.1.weights Tryz.prog 35, q ≤ reachBytes) : ∃ x, codeW.insE w (Old w.heap.size) cs x ∧ x.Ok := by
  clear hl
  obtain ⟨hl, hf⟩ := field_of Tryz.underlying35 h hw
  rw [show Tryz.prog.cellsOf 35 = 5 from by kernel_rfl] at hl
  match cs, hl with
  | [c0, c1, c2, c3, c4], _ =>
    obtain ⟨y0, m0, g0, _⟩ := hf 0 3 0 1 rfl (by kernel_rfl)
    obtain ⟨op, e0, _, o0⟩ := DataW.trod_int Tryz.underlying3 g0
    obtain rfl : c0 = .int .i64 op := by simpa using e0
    obtain ⟨y1, m1, g1, _⟩ := hf 1 3 1 1 rfl (by kernel_rfl)
    obtain ⟨a, e1, _, o1⟩ := DataW.trod_int Tryz.underlying3 g1
    obtain rfl : c1 = .int .i64 a := by simpa using e1
    obtain ⟨y2, m2, g2, _⟩ := hf 2 3 2 1 rfl (by kernel_rfl)
    obtain ⟨b, e2, _, o2⟩ := DataW.trod_int Tryz.underlying3 g2
    obtain rfl : c2 = .int .i64 b := by simpa using e2
    obtain ⟨y3, m3, g3, _⟩ := hf 3 3 3 1 rfl (by kernel_rfl)
    obtain ⟨n', e3, _, o3⟩ := DataW.trod_int Tryz.underlying3 g3
    obtain rfl : c3 = .int .i64 n' := by simpa using e3
    obtain ⟨y4, m4, g4, _⟩ := hf 4 33 4 1 rfl (by kernel_rfl)
    obtain ⟨imm, e4, _, o4⟩ := DataW.trod_int Tryz.underlying33 g4
    obtain rfl : c4 = .int .u64 imm := by simpa using e4
    exact ⟨⟨op, a, b, n', imm⟩, rfl, ⟨wf_i64 o0, wf_i64 o1, wf_i64 o2, wf_i64 o3, wf_u64 o4⟩⟩
end
set_option maxRecDepth 100000 in
theorem open_inss {H : Type} {enc : TypeId × Value → H} {w : World} {r : Reach} {b0 : Nat} {v : Value} {d : DataW H} {p : List MemPlace} (hv : Value.okWide Tryz.prog w r b0 22 v)
    (h : DataW.Trod enc Tryz.prog w 0 (fun _ => true) true 22 v d p) (hw : ∀ m ∈ d.weights Tryz.prog 22, m ≤ reachBytes) :
    ∃ l : List Ins, SlK 5 codeW.insE w (Old w.heap.size) v l ∧ (∀ x ∈ l, x.Ok) ∧ l.length * 40 ≤ 140737488351232 := by
  obtain ⟨a0, n0, c0, rfl⟩ := Go.WideShapes.okWide_slice Tryz.underlying22 hv
  obtain ⟨m, hm⟩ := h
  obtain ⟨l, h1, h2, h3⟩ := open_slk (y := (d, p)) (R := codeW.insE) (Q := Ins.Ok) Tryz.underlying22 (show Tryz.prog.cellsOf 35 = 5 from by kernel_rfl) (by decide) hm hw (fun m cs z hl h hw => ins_el hl h hw)
  rw [show Tryz.prog.bytesOf 35 = 40 from by kernel_rfl] at h3
  exact ⟨l, h1, h2, h3⟩
end inssA
end Go.Proofs.YtdjippdcgfcfgaaGreatDoor
