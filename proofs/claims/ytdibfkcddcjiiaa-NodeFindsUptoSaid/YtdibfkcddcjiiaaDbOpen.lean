/- A database that came in, opened: messages, signals, tables, rows, stations; lengths and numbers within bounds. No condition. -/
import Derived.Test.YtdibfkcddcjiiaaDbData
import Derived.Test.YtdibfkcddcjiiaaProg
namespace Go.Proofs.Ytdibfkcddcjiiaa
open Go.RowKit Go.Bus Go.Bus.cellK Go.Bus.dbK Go.Joins Go.ChangeShapes Go.WideShapes
set_option linter.unusedVariables false
namespace dbA
section
variable {H : Type} {enc : TypeId × Value → H} {w : World} {r : Reach} {b0 : Nat} {n : Nat} {cs : List Value} {z : DataW H × List MemPlace}
set_option maxRecDepth 100000 in
theorem places {T : Nat} {f0 f1 : Field} {t0 : TypeId} (hT : Try.prog.underlying T = some (.struct #[f0, f1])) (h0 : f0.type = t0 ∧ f0.offset = 0) (h1 : f1.type = t0 ∧ f1.offset = 1) (hc : Try.prog.cellsOf t0 = 1) (hi : Try.prog.underlying t0 = some (.int .i64)) (hC : Try.prog.cellsOf T = 2)
    (h : DataW.trod enc Try.prog w 0 (fun _ => true) true n T cs = some z) (hw : ∀ q ∈ z.1.weights Try.prog T, q ≤ reachBytes) :
    ∃ a b, cs = [.int .i64 a, .int .i64 b] ∧ I64 a ∧ I64 b := by
  obtain ⟨hl, hf⟩ := field_of hT h hw
  rw [hC] at hl
  match cs, hl with
  | [c0, c1], _ =>
    obtain ⟨y0, m0, g0, _⟩ := hf 0 t0 0 1 (by simp [h0]) hc
    obtain ⟨y1, m1, g1, _⟩ := hf 1 t0 1 1 (by simp [h1]) hc
    obtain ⟨a, e0, _, w0⟩ := DataW.trod_int hi g0
    obtain ⟨b, e1, _, w1⟩ := DataW.trod_int hi g1
    obtain rfl : c0 = .int .i64 a := by simpa using e0
    obtain rfl : c1 = .int .i64 b := by simpa using e1
    exact ⟨a, b, rfl, wf_i64 w0, wf_i64 w1⟩

theorem text_el (hl : cs.length = 1) (h : DataW.trod enc Try.prog w 0 (fun _ => true) true n 9 cs = some z) (hw : ∀ q ∈ z.1.weights Try.prog 9, q ≤ reachBytes) : ∃ x, strE w (Old w.heap.size) cs x ∧ Str x := by
  obtain ⟨s, rfl, hs⟩ := str_of Try.underlying9 h hw
  exact ⟨s, rfl, hs⟩

set_option maxRecDepth 100000 in
theorem row_el (hl : cs.length = 2) (h : DataW.trod enc Try.prog w 0 (fun _ => true) true n 122 cs = some z) (hw : ∀ q ∈ z.1.weights Try.prog 122, q ≤ reachBytes) : ∃ x, rowE w (Old w.heap.size) cs x ∧ RowOk x := by
  clear hl
  obtain ⟨hl, hf⟩ := field_of Try.underlying122 h hw
  rw [show Try.prog.cellsOf 122 = 2 from by kernel_rfl] at hl
  match cs, hl with
  | [c0, c1], _ =>
    obtain ⟨y0, m0, g0, w0⟩ := hf 0 2 0 1 rfl (by kernel_rfl)
    obtain ⟨val, e0, _, oval⟩ := DataW.trod_int Try.underlying2 g0
    obtain rfl : c0 = .int .i64 val := by simpa using e0
    obtain ⟨y1, m1, g1, w1⟩ := hf 1 9 1 1 rfl (by kernel_rfl)
    obtain ⟨text, e1, otext⟩ := str_of Try.underlying9 g1 w1
    obtain rfl : c1 = .string text := by simpa using e1
    exact ⟨⟨val, text⟩, rfl, ⟨(wf_i64 oval), otext⟩⟩
set_option maxRecDepth 100000 in
theorem sig_el (hl : cs.length = 19) (h : DataW.trod enc Try.prog w 0 (fun _ => true) true n 119 cs = some z) (hw : ∀ q ∈ z.1.weights Try.prog 119, q ≤ reachBytes) : ∃ x, sigE w (Old w.heap.size) cs x ∧ SigOk x := by
  clear hl
  obtain ⟨hl, hf⟩ := field_of Try.underlying119 h hw
  rw [show Try.prog.cellsOf 119 = 19 from by kernel_rfl] at hl
  match cs, hl with
  | [c0, c1, c2, c3, c4, c5, c6, c7, c8, c9, c10, c11, c12, c13, c14, c15, c16, c17, c18], _ =>
    obtain ⟨y0, m0, g0, w0⟩ := hf 0 23 0 2 rfl (by kernel_rfl)
    obtain ⟨line, col, e0, oline, ocol⟩ := places Try.underlying23 ⟨rfl, rfl⟩ ⟨rfl, rfl⟩ (by kernel_rfl) Try.underlying3 (by kernel_rfl) g0 w0
    obtain ⟨rfl, rfl⟩ : c0 = .int .i64 line ∧ c1 = .int .i64 col := by simpa using e0
    obtain ⟨y1, m1, g1, w1⟩ := hf 1 9 2 1 rfl (by kernel_rfl)
    obtain ⟨name, e1, oname⟩ := str_of Try.underlying9 g1 w1
    obtain rfl : c2 = .string name := by simpa using e1
    obtain ⟨y2, m2, g2, w2⟩ := hf 2 3 3 1 rfl (by kernel_rfl)
    obtain ⟨role, e2, _, orole⟩ := DataW.trod_int Try.underlying3 g2
    obtain rfl : c3 = .int .i64 role := by simpa using e2
    obtain ⟨y3, m3, g3, w3⟩ := hf 3 115 4 1 rfl (by kernel_rfl)
    obtain ⟨branch, e3, _, obranch⟩ := DataW.trod_int Try.underlying115 g3
    obtain rfl : c4 = .int .u64 branch := by simpa using e3
    obtain ⟨y4, m4, g4, w4⟩ := hf 4 3 5 1 rfl (by kernel_rfl)
    obtain ⟨start, e4, _, ostart⟩ := DataW.trod_int Try.underlying3 g4
    obtain rfl : c5 = .int .i64 start := by simpa using e4
    obtain ⟨y5, m5, g5, w5⟩ := hf 5 3 6 1 rfl (by kernel_rfl)
    obtain ⟨size, e5, _, osize⟩ := DataW.trod_int Try.underlying3 g5
    obtain rfl : c6 = .int .i64 size := by simpa using e5
    obtain ⟨y6, m6, g6, w6⟩ := hf 6 4 7 1 rfl (by kernel_rfl)
    obtain ⟨mot, e6, _⟩ := DataW.trod_bool Try.underlying4 g6
    obtain rfl : c7 = .bool mot := by simpa using e6
    obtain ⟨y7, m7, g7, w7⟩ := hf 7 4 8 1 rfl (by kernel_rfl)
    obtain ⟨sgn, e7, _⟩ := DataW.trod_bool Try.underlying4 g7
    obtain rfl : c8 = .bool sgn := by simpa using e7
    obtain ⟨y8, m8, g8, w8⟩ := hf 8 117 9 2 rfl (by kernel_rfl)
    obtain ⟨sn, sd, e8, osn, osd⟩ := places Try.underlying117 ⟨rfl, rfl⟩ ⟨rfl, rfl⟩ (by kernel_rfl) Try.underlying2 (by kernel_rfl) g8 w8
    obtain ⟨rfl, rfl⟩ : c9 = .int .i64 sn ∧ c10 = .int .i64 sd := by simpa using e8
    obtain ⟨y9, m9, g9, w9⟩ := hf 9 117 11 2 rfl (by kernel_rfl)
    obtain ⟨on, od, e9, oon, ood⟩ := places Try.underlying117 ⟨rfl, rfl⟩ ⟨rfl, rfl⟩ (by kernel_rfl) Try.underlying2 (by kernel_rfl) g9 w9
    obtain ⟨rfl, rfl⟩ : c11 = .int .i64 on ∧ c12 = .int .i64 od := by simpa using e9
    obtain ⟨y10, m10, g10, w10⟩ := hf 10 117 13 2 rfl (by kernel_rfl)
    obtain ⟨mn, md, e10, omn, omd⟩ := places Try.underlying117 ⟨rfl, rfl⟩ ⟨rfl, rfl⟩ (by kernel_rfl) Try.underlying2 (by kernel_rfl) g10 w10
    obtain ⟨rfl, rfl⟩ : c13 = .int .i64 mn ∧ c14 = .int .i64 md := by simpa using e10
    obtain ⟨y11, m11, g11, w11⟩ := hf 11 117 15 2 rfl (by kernel_rfl)
    obtain ⟨xn, xd, e11, oxn, oxd⟩ := places Try.underlying117 ⟨rfl, rfl⟩ ⟨rfl, rfl⟩ (by kernel_rfl) Try.underlying2 (by kernel_rfl) g11 w11
    obtain ⟨rfl, rfl⟩ : c15 = .int .i64 xn ∧ c16 = .int .i64 xd := by simpa using e11
    obtain ⟨y12, m12, g12, w12⟩ := hf 12 9 17 1 rfl (by kernel_rfl)
    obtain ⟨unit, e12, ounit⟩ := str_of Try.underlying9 g12 w12
    obtain rfl : c17 = .string unit := by simpa using e12
    obtain ⟨y13, m13, g13, w13⟩ := hf 13 26 18 1 rfl (by kernel_rfl)
    obtain ⟨to, sto, qto, oto⟩ := open_slk (R := strE) (Q := Str) Try.underlying26 (show Try.prog.cellsOf 9 = 1 from by kernel_rfl) (by decide) g13 w13 (fun _ _ _ hl h hw => text_el hl h hw)
    rw [show Try.prog.bytesOf 9 = 16 from by kernel_rfl] at oto
    exact ⟨⟨line, col, name, role, branch, start, size, mot, sgn, sn, sd, on, od, mn, md, xn, xd, unit, to⟩, ⟨_, rfl, sto⟩, ⟨oline, ocol, oname, (wf_i64 orole), (wf_u64 obranch), (wf_i64 ostart), (wf_i64 osize), osn, osd, oon, ood, omn, omd, oxn, oxd, ounit, oto⟩⟩
set_option maxRecDepth 100000 in
theorem msg_el (hl : cs.length = 8) (h : DataW.trod enc Try.prog w 0 (fun _ => true) true n 62 cs = some z) (hw : ∀ q ∈ z.1.weights Try.prog 62, q ≤ reachBytes) : ∃ x, msgE w (Old w.heap.size) cs x ∧ MsgOk x := by
  clear hl
  obtain ⟨hl, hf⟩ := field_of Try.underlying62 h hw
  rw [show Try.prog.cellsOf 62 = 8 from by kernel_rfl] at hl
  match cs, hl with
  | [c0, c1, c2, c3, c4, c5, c6, c7], _ =>
    obtain ⟨y0, m0, g0, w0⟩ := hf 0 23 0 2 rfl (by kernel_rfl)
    obtain ⟨line, col, e0, oline, ocol⟩ := places Try.underlying23 ⟨rfl, rfl⟩ ⟨rfl, rfl⟩ (by kernel_rfl) Try.underlying3 (by kernel_rfl) g0 w0
    obtain ⟨rfl, rfl⟩ : c0 = .int .i64 line ∧ c1 = .int .i64 col := by simpa using e0
    obtain ⟨y1, m1, g1, w1⟩ := hf 1 59 2 1 rfl (by kernel_rfl)
    obtain ⟨id, e1, _, oid⟩ := DataW.trod_int Try.underlying59 g1
    obtain rfl : c2 = .int .u32 id := by simpa using e1
    obtain ⟨y2, m2, g2, w2⟩ := hf 2 4 3 1 rfl (by kernel_rfl)
    obtain ⟨wide, e2, _⟩ := DataW.trod_bool Try.underlying4 g2
    obtain rfl : c3 = .bool wide := by simpa using e2
    obtain ⟨y3, m3, g3, w3⟩ := hf 3 9 4 1 rfl (by kernel_rfl)
    obtain ⟨name, e3, oname⟩ := str_of Try.underlying9 g3 w3
    obtain rfl : c4 = .string name := by simpa using e3
    obtain ⟨y4, m4, g4, w4⟩ := hf 4 3 5 1 rfl (by kernel_rfl)
    obtain ⟨size, e4, _, osize⟩ := DataW.trod_int Try.underlying3 g4
    obtain rfl : c5 = .int .i64 size := by simpa using e4
    obtain ⟨y5, m5, g5, w5⟩ := hf 5 9 6 1 rfl (by kernel_rfl)
    obtain ⟨sender, e5, osender⟩ := str_of Try.underlying9 g5 w5
    obtain rfl : c6 = .string sender := by simpa using e5
    obtain ⟨y6, m6, g6, w6⟩ := hf 6 60 7 1 rfl (by kernel_rfl)
    obtain ⟨sigs, ssigs, qsigs, osigs⟩ := open_slk (R := sigE) (Q := SigOk) Try.underlying60 (show Try.prog.cellsOf 119 = 19 from by kernel_rfl) (by decide) g6 w6 (fun _ _ _ hl h hw => sig_el hl h hw)
    rw [show Try.prog.bytesOf 119 = 176 from by kernel_rfl] at osigs
    exact ⟨⟨line, col, id, wide, name, size, sender, sigs⟩, ⟨_, rfl, ssigs⟩, ⟨oline, ocol, (wf_u32 oid), oname, (wf_i64 osize), osender, osigs, qsigs⟩⟩
set_option maxRecDepth 100000 in
theorem tab_el (hl : cs.length = 6) (h : DataW.trod enc Try.prog w 0 (fun _ => true) true n 79 cs = some z) (hw : ∀ q ∈ z.1.weights Try.prog 79, q ≤ reachBytes) : ∃ x, tabE w (Old w.heap.size) cs x ∧ TabOk x := by
  clear hl
  obtain ⟨hl, hf⟩ := field_of Try.underlying79 h hw
  rw [show Try.prog.cellsOf 79 = 6 from by kernel_rfl] at hl
  match cs, hl with
  | [c0, c1, c2, c3, c4, c5], _ =>
    obtain ⟨y0, m0, g0, w0⟩ := hf 0 23 0 2 rfl (by kernel_rfl)
    obtain ⟨line, col, e0, oline, ocol⟩ := places Try.underlying23 ⟨rfl, rfl⟩ ⟨rfl, rfl⟩ (by kernel_rfl) Try.underlying3 (by kernel_rfl) g0 w0
    obtain ⟨rfl, rfl⟩ : c0 = .int .i64 line ∧ c1 = .int .i64 col := by simpa using e0
    obtain ⟨y1, m1, g1, w1⟩ := hf 1 59 2 1 rfl (by kernel_rfl)
    obtain ⟨id, e1, _, oid⟩ := DataW.trod_int Try.underlying59 g1
    obtain rfl : c2 = .int .u32 id := by simpa using e1
    obtain ⟨y2, m2, g2, w2⟩ := hf 2 4 3 1 rfl (by kernel_rfl)
    obtain ⟨wide, e2, _⟩ := DataW.trod_bool Try.underlying4 g2
    obtain rfl : c3 = .bool wide := by simpa using e2
    obtain ⟨y3, m3, g3, w3⟩ := hf 3 9 4 1 rfl (by kernel_rfl)
    obtain ⟨signal, e3, osignal⟩ := str_of Try.underlying9 g3 w3
    obtain rfl : c4 = .string signal := by simpa using e3
    obtain ⟨y4, m4, g4, w4⟩ := hf 4 77 5 1 rfl (by kernel_rfl)
    obtain ⟨rows, srows, qrows, orows⟩ := open_slk (R := rowE) (Q := RowOk) Try.underlying77 (show Try.prog.cellsOf 122 = 2 from by kernel_rfl) (by decide) g4 w4 (fun _ _ _ hl h hw => row_el hl h hw)
    rw [show Try.prog.bytesOf 122 = 24 from by kernel_rfl] at orows
    exact ⟨⟨line, col, id, wide, signal, rows⟩, ⟨_, rfl, srows⟩, ⟨oline, ocol, (wf_u32 oid), osignal, orows, qrows⟩⟩
set_option maxRecDepth 100000 in
theorem sta_el (h : DataW.trod enc Try.prog w 0 (fun _ => true) true n 28 cs = some z) (hw : ∀ q ∈ z.1.weights Try.prog 28, q ≤ reachBytes) : ∃ x : Sta, staE w (Old w.heap.size) cs x ∧ x.names.length * 16 ≤ 140737488351232 := by
  obtain ⟨hl, hf⟩ := field_of Try.underlying28 h hw
  rw [show Try.prog.cellsOf 28 = 3 from by kernel_rfl] at hl
  match cs, hl with
  | [c0, c1, c2], _ =>
    obtain ⟨y0, m0, g0, w0⟩ := hf 0 23 0 2 rfl (by kernel_rfl)
    obtain ⟨line, col, e0, oline, ocol⟩ := places Try.underlying23 ⟨rfl, rfl⟩ ⟨rfl, rfl⟩ (by kernel_rfl) Try.underlying3 (by kernel_rfl) g0 w0
    obtain ⟨rfl, rfl⟩ : c0 = .int .i64 line ∧ c1 = .int .i64 col := by simpa using e0
    obtain ⟨y1, m1, g1, w1⟩ := hf 1 26 2 1 rfl (by kernel_rfl)
    obtain ⟨names, snames, qnames, onames⟩ := open_slk (R := strE) (Q := Str) Try.underlying26 (show Try.prog.cellsOf 9 = 1 from by kernel_rfl) (by decide) g1 w1 (fun _ _ _ hl h hw => text_el hl h hw)
    rw [show Try.prog.bytesOf 9 = 16 from by kernel_rfl] at onames
    exact ⟨⟨line, col, names⟩, ⟨_, rfl, snames⟩, onames⟩
set_option maxRecDepth 100000 in
theorem ver_el (h : DataW.trod enc Try.prog w 0 (fun _ => true) true n 25 cs = some z) (hw : ∀ q ∈ z.1.weights Try.prog 25, q ≤ reachBytes) : ∃ x : Ver, cs = verCells x := by
  obtain ⟨hl, hf⟩ := field_of Try.underlying25 h hw
  rw [show Try.prog.cellsOf 25 = 3 from by kernel_rfl] at hl
  match cs, hl with
  | [c0, c1, c2], _ =>
    obtain ⟨y0, m0, g0, w0⟩ := hf 0 23 0 2 rfl (by kernel_rfl)
    obtain ⟨line, col, e0, oline, ocol⟩ := places Try.underlying23 ⟨rfl, rfl⟩ ⟨rfl, rfl⟩ (by kernel_rfl) Try.underlying3 (by kernel_rfl) g0 w0
    obtain ⟨rfl, rfl⟩ : c0 = .int .i64 line ∧ c1 = .int .i64 col := by simpa using e0
    obtain ⟨y1, m1, g1, w1⟩ := hf 1 9 2 1 rfl (by kernel_rfl)
    obtain ⟨text, e1, otext⟩ := str_of Try.underlying9 g1 w1
    obtain rfl : c2 = .string text := by simpa using e1
    exact ⟨⟨line, col, text⟩, rfl⟩
set_option maxRecDepth 100000 in
theorem db_el (h : DataW.trod enc Try.prog w 0 (fun _ => true) true n 32 cs = some z) (hw : ∀ q ∈ z.1.weights Try.prog 32, q ≤ reachBytes) : ∃ x, dbE w (Old w.heap.size) cs x ∧ DbOk x := by
  obtain ⟨hl, hf⟩ := field_of Try.underlying32 h hw
  rw [show Try.prog.cellsOf 32 = 9 from by kernel_rfl] at hl
  match cs, hl with
  | [c0, c1, c2, c3, c4, c5, c6, c7, c8], _ =>
    obtain ⟨y0, m0, g0, w0⟩ := hf 0 4 0 1 rfl (by kernel_rfl)
    obtain ⟨y1, m1, g1, w1⟩ := hf 1 25 1 3 rfl (by kernel_rfl)
    obtain ⟨y2, m2, g2, w2⟩ := hf 2 28 4 3 rfl (by kernel_rfl)
    obtain ⟨y3, m3, g3, w3⟩ := hf 3 29 7 1 rfl (by kernel_rfl)
    obtain ⟨y4, m4, g4, w4⟩ := hf 4 30 8 1 rfl (by kernel_rfl)
    obtain ⟨hasV, e0, _⟩ := DataW.trod_bool Try.underlying4 g0
    obtain rfl : c0 = .bool hasV := by simpa using e0
    obtain ⟨ver, e1⟩ := ver_el g1 w1
    obtain ⟨rfl, rfl, rfl⟩ : c1 = .int .i64 ver.line ∧ c2 = .int .i64 ver.col ∧ c3 = .string ver.text := by simpa [verCells] using e1
    obtain ⟨sta, ⟨sv, e2, hs⟩, os⟩ := sta_el g2 w2
    obtain ⟨rfl, rfl, rfl⟩ : c4 = .int .i64 sta.line ∧ c5 = .int .i64 sta.col ∧ c6 = sv := by simpa [staCells] using e2
    obtain ⟨msgs, hm, qm, om⟩ := open_slk (R := msgE) (Q := MsgOk) Try.underlying29 (show Try.prog.cellsOf 62 = 8 from by kernel_rfl) (by decide) g3 w3 (fun _ _ _ hl h hw => msg_el hl h hw)
    obtain ⟨tabs, ht, qt, ot⟩ := open_slk (R := tabE) (Q := TabOk) Try.underlying30 (show Try.prog.cellsOf 79 = 6 from by kernel_rfl) (by decide) g4 w4 (fun _ _ _ hl h hw => tab_el hl h hw)
    rw [show Try.prog.bytesOf 62 = 88 from by kernel_rfl] at om
    rw [show Try.prog.bytesOf 79 = 64 from by kernel_rfl] at ot
    exact ⟨⟨hasV, ver, sta, msgs, tabs⟩, ⟨_, _, _, rfl, hs, hm, ht⟩, ⟨os, om, ot, qm, qt⟩⟩
set_option maxRecDepth 100000 in
theorem open_db {v : Value} {d : DataW H} {p : List MemPlace} (hv : Value.okWide Try.prog w r b0 32 v)
    (h : DataW.Trod enc Try.prog w 0 (fun _ => true) true 32 v d p) (hw : ∀ m ∈ d.weights Try.prog 32, m ≤ reachBytes) :
    ∃ (x : Db) (cs : List Value), v = .agg cs.toArray ∧ dbE w (Old w.heap.size) cs x ∧ DbOk x := by
  obtain ⟨cs, rfl, hsz⟩ := okWide_struct Try.underlying32 hv
  obtain ⟨fuel, hf⟩ := h
  obtain ⟨x, hx, hok⟩ := db_el (z := (d, p)) hf hw
  exact ⟨x, cs.toList, rfl, hx, hok⟩
end
end dbA
end Go.Proofs.Ytdibfkcddcjiiaa
