/- A signal and rows that came in, opened; numbers within bounds. No condition. -/
import Derived.Test.YtllbpanfhlbbgaaDoorDbData
import Derived.Test.YtllbpanfhlbbgaaDoorProg
namespace Go.Proofs.YtllbpanfhlbbgaaDoor
open Go.RowKit Go.Bus Go.Bus.cellK Go.Bus.dbK Go.Joins Go.ChangeShapes Go.WideShapes
set_option linter.unusedVariables false
namespace sigA
section
variable {H : Type} {enc : TypeId × Value → H} {w : World} {r : Reach} {b0 : Nat} {n : Nat} {cs : List Value} {z : DataW H × List MemPlace}
set_option maxRecDepth 100000 in
theorem places {T : Nat} {f0 f1 : Field} {t0 : TypeId} (hT : Tryd.prog.underlying T = some (.struct #[f0, f1])) (h0 : f0.type = t0 ∧ f0.offset = 0) (h1 : f1.type = t0 ∧ f1.offset = 1) (hc : Tryd.prog.cellsOf t0 = 1) (hi : Tryd.prog.underlying t0 = some (.int .i64)) (hC : Tryd.prog.cellsOf T = 2)
    (h : DataW.trod enc Tryd.prog w 0 (fun _ => true) true n T cs = some z) (hw : ∀ q ∈ z.1.weights Tryd.prog T, q ≤ reachBytes) :
    ∃ a b, cs = [.int .i64 a, .int .i64 b] ∧ I64 a ∧ I64 b := by
  obtain ⟨hl, hf⟩ := field_of hT h hw
  rw [hC] at hl
  match cs, hl with
  | [c0, c1], _ =>
    obtain ⟨y0, m0, g0, _⟩ := hf 0 t0 0 1 (by simp [h0]) hc
    obtain ⟨y1, m1, g1, _⟩ := hf 1 t0 1 1 (by simp [h1]) hc
    obtain ⟨a, e0, _, w0⟩ := DataW.trod_int hi g0
    obtain ⟨b, e1, _, w1⟩ := DataW.trod_int hi g1
    obtain rfl : c0 = .int .i64 a := by simpa using e0
    obtain rfl : c1 = .int .i64 b := by simpa using e1
    exact ⟨a, b, rfl, wf_i64 w0, wf_i64 w1⟩

theorem text_el (hl : cs.length = 1) (h : DataW.trod enc Tryd.prog w 0 (fun _ => true) true n 9 cs = some z) (hw : ∀ q ∈ z.1.weights Tryd.prog 9, q ≤ reachBytes) : ∃ x, strE w (Old w.heap.size) cs x ∧ Str x := by
  obtain ⟨s, rfl, hs⟩ := str_of Tryd.underlying9 h hw
  exact ⟨s, rfl, hs⟩

set_option maxRecDepth 100000 in
theorem row_el (hl : cs.length = 2) (h : DataW.trod enc Tryd.prog w 0 (fun _ => true) true n 51 cs = some z) (hw : ∀ q ∈ z.1.weights Tryd.prog 51, q ≤ reachBytes) : ∃ x, rowE w (Old w.heap.size) cs x ∧ RowOk x := by
  clear hl
  obtain ⟨hl, hf⟩ := field_of Tryd.underlying51 h hw
  rw [show Tryd.prog.cellsOf 51 = 2 from by kernel_rfl] at hl
  match cs, hl with
  | [c0, c1], _ =>
    obtain ⟨y0, m0, g0, w0⟩ := hf 0 2 0 1 rfl (by kernel_rfl)
    obtain ⟨val, e0, _, oval⟩ := DataW.trod_int Tryd.underlying2 g0
    obtain rfl : c0 = .int .i64 val := by simpa using e0
    obtain ⟨y1, m1, g1, w1⟩ := hf 1 9 1 1 rfl (by kernel_rfl)
    obtain ⟨text, e1, otext⟩ := str_of Tryd.underlying9 g1 w1
    obtain rfl : c1 = .string text := by simpa using e1
    exact ⟨⟨val, text⟩, rfl, ⟨(wf_i64 oval), otext⟩⟩
set_option maxRecDepth 100000 in
theorem sig_el (hl : cs.length = 19) (h : DataW.trod enc Tryd.prog w 0 (fun _ => true) true n 29 cs = some z) (hw : ∀ q ∈ z.1.weights Tryd.prog 29, q ≤ reachBytes) : ∃ x, sigE w (Old w.heap.size) cs x ∧ SigOk x := by
  clear hl
  obtain ⟨hl, hf⟩ := field_of Tryd.underlying29 h hw
  rw [show Tryd.prog.cellsOf 29 = 19 from by kernel_rfl] at hl
  match cs, hl with
  | [c0, c1, c2, c3, c4, c5, c6, c7, c8, c9, c10, c11, c12, c13, c14, c15, c16, c17, c18], _ =>
    obtain ⟨y0, m0, g0, w0⟩ := hf 0 23 0 2 rfl (by kernel_rfl)
    obtain ⟨line, col, e0, oline, ocol⟩ := places Tryd.underlying23 ⟨rfl, rfl⟩ ⟨rfl, rfl⟩ (by kernel_rfl) Tryd.underlying3 (by kernel_rfl) g0 w0
    obtain ⟨rfl, rfl⟩ : c0 = .int .i64 line ∧ c1 = .int .i64 col := by simpa using e0
    obtain ⟨y1, m1, g1, w1⟩ := hf 1 9 2 1 rfl (by kernel_rfl)
    obtain ⟨name, e1, oname⟩ := str_of Tryd.underlying9 g1 w1
    obtain rfl : c2 = .string name := by simpa using e1
    obtain ⟨y2, m2, g2, w2⟩ := hf 2 3 3 1 rfl (by kernel_rfl)
    obtain ⟨role, e2, _, orole⟩ := DataW.trod_int Tryd.underlying3 g2
    obtain rfl : c3 = .int .i64 role := by simpa using e2
    obtain ⟨y3, m3, g3, w3⟩ := hf 3 24 4 1 rfl (by kernel_rfl)
    obtain ⟨branch, e3, _, obranch⟩ := DataW.trod_int Tryd.underlying24 g3
    obtain rfl : c4 = .int .u64 branch := by simpa using e3
    obtain ⟨y4, m4, g4, w4⟩ := hf 4 3 5 1 rfl (by kernel_rfl)
    obtain ⟨start, e4, _, ostart⟩ := DataW.trod_int Tryd.underlying3 g4
    obtain rfl : c5 = .int .i64 start := by simpa using e4
    obtain ⟨y5, m5, g5, w5⟩ := hf 5 3 6 1 rfl (by kernel_rfl)
    obtain ⟨size, e5, _, osize⟩ := DataW.trod_int Tryd.underlying3 g5
    obtain rfl : c6 = .int .i64 size := by simpa using e5
    obtain ⟨y6, m6, g6, w6⟩ := hf 6 4 7 1 rfl (by kernel_rfl)
    obtain ⟨mot, e6, _⟩ := DataW.trod_bool Tryd.underlying4 g6
    obtain rfl : c7 = .bool mot := by simpa using e6
    obtain ⟨y7, m7, g7, w7⟩ := hf 7 4 8 1 rfl (by kernel_rfl)
    obtain ⟨sgn, e7, _⟩ := DataW.trod_bool Tryd.underlying4 g7
    obtain rfl : c8 = .bool sgn := by simpa using e7
    obtain ⟨y8, m8, g8, w8⟩ := hf 8 26 9 2 rfl (by kernel_rfl)
    obtain ⟨sn, sd, e8, osn, osd⟩ := places Tryd.underlying26 ⟨rfl, rfl⟩ ⟨rfl, rfl⟩ (by kernel_rfl) Tryd.underlying2 (by kernel_rfl) g8 w8
    obtain ⟨rfl, rfl⟩ : c9 = .int .i64 sn ∧ c10 = .int .i64 sd := by simpa using e8
    obtain ⟨y9, m9, g9, w9⟩ := hf 9 26 11 2 rfl (by kernel_rfl)
    obtain ⟨on, od, e9, oon, ood⟩ := places Tryd.underlying26 ⟨rfl, rfl⟩ ⟨rfl, rfl⟩ (by kernel_rfl) Tryd.underlying2 (by kernel_rfl) g9 w9
    obtain ⟨rfl, rfl⟩ : c11 = .int .i64 on ∧ c12 = .int .i64 od := by simpa using e9
    obtain ⟨y10, m10, g10, w10⟩ := hf 10 26 13 2 rfl (by kernel_rfl)
    obtain ⟨mn, md, e10, omn, omd⟩ := places Tryd.underlying26 ⟨rfl, rfl⟩ ⟨rfl, rfl⟩ (by kernel_rfl) Tryd.underlying2 (by kernel_rfl) g10 w10
    obtain ⟨rfl, rfl⟩ : c13 = .int .i64 mn ∧ c14 = .int .i64 md := by simpa using e10
    obtain ⟨y11, m11, g11, w11⟩ := hf 11 26 15 2 rfl (by kernel_rfl)
    obtain ⟨xn, xd, e11, oxn, oxd⟩ := places Tryd.underlying26 ⟨rfl, rfl⟩ ⟨rfl, rfl⟩ (by kernel_rfl) Tryd.underlying2 (by kernel_rfl) g11 w11
    obtain ⟨rfl, rfl⟩ : c15 = .int .i64 xn ∧ c16 = .int .i64 xd := by simpa using e11
    obtain ⟨y12, m12, g12, w12⟩ := hf 12 9 17 1 rfl (by kernel_rfl)
    obtain ⟨unit, e12, ounit⟩ := str_of Tryd.underlying9 g12 w12
    obtain rfl : c17 = .string unit := by simpa using e12
    obtain ⟨y13, m13, g13, w13⟩ := hf 13 27 18 1 rfl (by kernel_rfl)
    obtain ⟨to, sto, qto, oto⟩ := open_slk (R := strE) (Q := Str) Tryd.underlying27 (show Tryd.prog.cellsOf 9 = 1 from by kernel_rfl) (by decide) g13 w13 (fun _ _ _ hl h hw => text_el hl h hw)
    rw [show Tryd.prog.bytesOf 9 = 16 from by kernel_rfl] at oto
    exact ⟨⟨line, col, name, role, branch, start, size, mot, sgn, sn, sd, on, od, mn, md, xn, xd, unit, to⟩, ⟨_, rfl, sto⟩, ⟨oline, ocol, oname, (wf_i64 orole), (wf_u64 obranch), (wf_i64 ostart), (wf_i64 osize), osn, osd, oon, ood, omn, omd, oxn, oxd, ounit, oto⟩⟩
set_option maxRecDepth 100000 in
theorem open_sig {v : Value} {d : DataW H} {p : List MemPlace} (hv : Value.okWide Tryd.prog w r b0 29 v)
    (h : DataW.Trod enc Tryd.prog w 0 (fun _ => true) true 29 v d p) (hw : ∀ m ∈ d.weights Tryd.prog 29, m ≤ reachBytes) :
    ∃ (x : Sig) (t : Value), v = .agg (sigCells x t).toArray ∧ SlK 1 strE w (Old w.heap.size) t x.to ∧ SigOk x := by
  obtain ⟨cs, rfl, hsz⟩ := okWide_struct Tryd.underlying29 hv
  obtain ⟨fuel, hf⟩ := h
  have hc : cs.toList.length = 19 := by rw [Array.length_toList, hsz]; kernel_rfl
  obtain ⟨x, ⟨t, ht, hs⟩, hok⟩ := sig_el hc (z := (d, p)) hf hw
  exact ⟨x, t, by rw [← ht], hs, hok⟩
set_option maxRecDepth 100000 in
theorem open_rat {v : Value} {d : DataW H} {p : List MemPlace} (hv : Value.okWide Tryd.prog w r b0 26 v)
    (h : DataW.Trod enc Tryd.prog w 0 (fun _ => true) true 26 v d p) (hw : ∀ m ∈ d.weights Tryd.prog 26, m ≤ reachBytes) :
    ∃ a b : Int, v = .agg #[.int .i64 a, .int .i64 b] ∧ I64 a ∧ I64 b := by
  obtain ⟨cs, rfl, hsz⟩ := okWide_struct Tryd.underlying26 hv
  obtain ⟨fuel, hf⟩ := h
  obtain ⟨a, b, he, oa, ob⟩ := places (z := (d, p)) Tryd.underlying26 ⟨rfl, rfl⟩ ⟨rfl, rfl⟩ (by kernel_rfl) Tryd.underlying2 (by kernel_rfl) hf hw
  refine ⟨a, b, ?_, oa, ob⟩
  obtain rfl : cs = #[.int .i64 a, .int .i64 b] := by rw [← Array.toArray_toList (xs := cs), show cs.toList = _ from he]
  rfl
set_option maxRecDepth 100000 in
theorem open_rows {v : Value} {d : DataW H} {p : List MemPlace} (hv : Value.okWide Tryd.prog w r b0 52 v)
    (h : DataW.Trod enc Tryd.prog w 0 (fun _ => true) true 52 v d p) (hw : ∀ m ∈ d.weights Tryd.prog 52, m ≤ reachBytes) :
    ∃ l : List RowD, SlK 2 rowE w (Old w.heap.size) v l ∧ (∀ x ∈ l, RowOk x) ∧ l.length * 24 ≤ 140737488351232 := by
  obtain ⟨a0, n0, c0, rfl⟩ := Go.WideShapes.okWide_slice Tryd.underlying52 hv
  obtain ⟨fuel, hf⟩ := h
  obtain ⟨l, s, q, o⟩ := open_slk (y := (d, p)) (R := rowE) (Q := RowOk) Tryd.underlying52 (show Tryd.prog.cellsOf 51 = 2 from by kernel_rfl) (by decide) hf hw (fun _ _ _ hl h hw => row_el hl h hw)
  rw [show Tryd.prog.bytesOf 51 = 24 from by kernel_rfl] at o
  exact ⟨l, s, q, o⟩
end
end sigA
end Go.Proofs.YtllbpanfhlbbgaaDoor
