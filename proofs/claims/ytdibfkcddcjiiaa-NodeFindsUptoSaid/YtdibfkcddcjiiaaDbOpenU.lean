/- A database that came in, opened, with how much there is of it: for the second form of a row. No condition. -/
import Derived.Test.YtdibfkcddcjiiaaDbData
import Derived.Test.YtdibfkcddcjiiaaBulk
import Derived.Test.YtdibfkcddcjiiaaProg
namespace Go.Proofs.Ytdibfkcddcjiiaa
open Go.RowKit Go.Bus Go.Bus.cellK Go.Bus.dbK Go.Joins Go.ChangeShapes Go.WideShapes
set_option linter.unusedVariables false
set_option linter.unusedSimpArgs false
namespace bulkU
theorem all_app {H : Type} (a b : List (DataW H)) : Rows.uptoBulkAll (a ++ b) = Rows.uptoBulkAll a + Rows.uptoBulkAll b := by
  induction a with
  | nil => simp [Rows.uptoBulkAll]
  | cons x t ih => rw [List.cons_append, Rows.uptoBulkAll, Rows.uptoBulkAll, ih]; omega
def sigN (s : Sig) : Nat := s.to.length + 1
def msgN (m : Msg) : Nat := (m.sigs.map sigN).sum + 1
def tabN (t : Tab) : Nat := t.rows.length + 1
def dbN (d : Db) : Nat := max d.sta.names.length (max (d.msgs.map msgN).sum (d.tabs.map tabN).sum)
section
variable {P : Program} {H : Type} {enc : TypeId × Value → H} {w : World}
theorem field_of2 {t : TypeId} {fs : Array Field} {n : Nat} {cs : List Value} {x : DataW H × List MemPlace} (ht : P.underlying t = some (.struct fs)) (h : DataW.trod enc P w 0 (fun _ => true) true n t cs = some x)
    (hw : ∀ q ∈ x.1.weights P t, q ≤ reachBytes) :
    cs.length = P.cellsOf t ∧ ∀ (i u o c : Nat), (fs[i]?).map (fun f => (f.type, f.offset)) = some (u, o) → P.cellsOf u = c →
      ∃ (y : DataW H × List MemPlace) (m : Nat), DataW.trod enc P w 0 (fun _ => true) true m u ((cs.drop o).take c) = some y ∧ (∀ q ∈ y.1.weights P u, q ≤ reachBytes) ∧ Rows.uptoBulk y.1 ≤ Rows.uptoBulk x.1 := by
  obtain ⟨xs, m, _, rfl, hl, hxl, hf⟩ := DataW.trod_struct ht h
  refine ⟨hl, fun i u o c hi hc => ?_⟩
  obtain ⟨f, hfi, huo⟩ := Option.map_eq_some_iff.1 hi
  clear hi
  obtain ⟨rfl, rfl⟩ : f.type = u ∧ f.offset = o := by simpa using huo
  subst hc
  have h1 := hf i f hfi
  have hil : i < xs.length := by rw [hxl]; exact (Array.getElem?_eq_some_iff.1 hfi).1
  rw [List.getElem?_eq_getElem hil] at h1
  refine ⟨_, m, h1, fun q hq => hw q ?_, ?_⟩
  · simp only [DataW.weights, ht]
    refine DataW.weights_mem_each (j := i) (t := f.type) (d := xs[i].1) ?_ ?_ q hq
    · rw [List.getElem?_map, Array.getElem?_toList, hfi]; rfl
    · rw [List.getElem?_map, List.getElem?_eq_getElem hil]; rfl
  · simp only [Rows.uptoBulk]
    have h2 := bulkK.one_of (d := xs[i].1) (l := xs.map (·.1)) (List.mem_map.2 ⟨_, List.getElem_mem hil, rfl⟩)
    omega
theorem open_slk2 {α : Type} {k : Nat} {R : Rel α} {Q : α → Prop} {σ : α → Nat} {t e : TypeId} {n : Nat} {v : Value} {y : DataW H × List MemPlace} (ht : P.underlying t = some (.slice e)) (hc : P.cellsOf e = k) (hk : 0 < k)
    (h : DataW.trod enc P w 0 (fun _ => true) true n t [v] = some y) (hw : ∀ m ∈ y.1.weights P t, m ≤ reachBytes)
    (each : ∀ (m : Nat) (cs : List Value) (z : DataW H × List MemPlace), cs.length = k → DataW.trod enc P w 0 (fun _ => true) true m e cs = some z → (∀ q ∈ z.1.weights P e, q ≤ reachBytes) → ∃ x, R w (Old w.heap.size) cs x ∧ Q x ∧ σ x ≤ Rows.uptoBulk z.1) :
    ∃ l : List α, SlK k R w (Old w.heap.size) v l ∧ (∀ x ∈ l, Q x) ∧ l.length * P.bytesOf e ≤ 140737488351232 ∧ (l.map σ).sum + 1 ≤ Rows.uptoBulk y.1 := by
  rcases Go.Deep.open_slice ht h with ⟨hcs, hx⟩ | ⟨a, len, cap, m, n2, D, Pl, hcs, _, hl, hm, hmm, hx, hcell⟩
  · obtain rfl : v = .slice none 0 0 := by simpa using hcs
    exact ⟨[], SlK.nil_ _ _ _ _, by simp, by simp, by have := bulkK.pos y.1; simpa using this⟩
  · obtain rfl : v = .slice (some a) len cap := by simpa using hcs
    have hlm : len ≤ m := by rw [hmm]; split <;> omega
    have hW : y.1.weights P t = DataW.weights P t (DataW.slice ((List.range len).map D) ((List.range (m - len)).map fun j => D (len + j))) := by rw [hx]
    rw [hW] at hw
    simp only [DataW.weights, ht] at hw
    have hel : ∀ i, ∃ x : Option α, i < len → ∃ z, x = some z ∧ ∃ cs, cs.length = k ∧ w.cells? 0 (a.add (i * k)) k = some cs ∧ R w (Old w.heap.size) cs z ∧ Q z ∧ σ z ≤ Rows.uptoBulk (D i) := by
      intro i
      by_cases hi : i < len
      · obtain ⟨cs, h1, h2⟩ := hcell i (by omega)
        rw [hc] at h1
        obtain ⟨_, hlen, _⟩ := World.cells?_some h1
        obtain ⟨x, hx1, hx2, hx3⟩ := each n2 cs _ hlen h2 (fun q hq => hw q (by
          have hmem : D i ∈ (List.range len).map D := List.mem_map.2 ⟨i, List.mem_range.2 hi, rfl⟩
          exact List.mem_cons_of_mem _ (List.mem_append_left _ (weights_all hmem hq))))
        exact ⟨some x, fun _ => ⟨x, rfl, cs, hlen, h1, hx1, hx2, hx3⟩⟩
      · exact ⟨none, fun h => absurd h hi⟩
    obtain ⟨f, hf⟩ := Classical.axiomOfChoice hel
    have hsome : ∀ i, i < len → (f i).isSome = true := fun i hi => by obtain ⟨z, hz, _⟩ := hf i hi; rw [hz]; rfl
    have hll : ((List.range len).filterMap f).length = len := by
      have : ((List.range len).map f).length = len := by simp
      rw [List.length_filterMap_eq_countP, List.countP_eq_length.2 (fun i hi => by have := hsome i (List.mem_range.1 hi); simpa using this)]
      simp
    have hget : ∀ i, i < len → ((List.range len).filterMap f)[i]? = f i := by
      intro i hi
      exact filterMap_range f len hsome i hi
    have hcells : ∀ i, ∃ cs : List Value, i < len → cs.length = k ∧ w.cells? 0 (a.add (i * k)) k = some cs ∧ ∀ x, f i = some x → R w (Old w.heap.size) cs x := by
      intro i
      by_cases hi : i < len
      · obtain ⟨z, hz, cs, h1, h2, h3, _⟩ := hf i hi
        exact ⟨cs, fun _ => ⟨h1, h2, fun x hx => by rw [hz] at hx; obtain rfl := Option.some.inj hx; exact h3⟩⟩
      · exact ⟨[], fun h => absurd h hi⟩
    obtain ⟨C, hC⟩ := Classical.axiomOfChoice hcells
    obtain ⟨hfl, hfp⟩ := flat_part C len (fun i hi => (hC i hi).1)
    refine ⟨(List.range len).filterMap f, ⟨(List.range len).flatMap C, ⟨some a, cap, by rw [hll], by omega, hm, by rw [hll]; exact hfl, fun h0 => ?_⟩, fun i x hi => ?_⟩, ?_, ?_, ?_⟩
    · rw [hll] at h0
      obtain ⟨_, h1, _⟩ := hC 0 h0
      obtain ⟨_, _, h1g⟩ := World.cells?_some h1
      obtain ⟨b, off, spot⟩ := a
      have hc0 := h1g 0 (by omega)
      have hcv : ∃ u, w.cell? ((⟨b, off, spot⟩ : Addr).add (0 * k)) = some u := by
        have e0 : (((⟨b, off, spot⟩ : Addr).add (0 * k)).add 0) = ((⟨b, off, spot⟩ : Addr).add (0 * k)) := by simp [Addr.add]
        rw [e0, List.getElem?_eq_getElem (by have := (hC 0 h0).1; omega)] at hc0
        exact ⟨_, hc0⟩
      obtain ⟨u, hu⟩ := hcv
      have hspot : spot = none := by simpa [Addr.add] using World.cell?_spot hu
      subst hspot
      have hbl : b < w.heap.size := World.block_lt_of_cell? w ⟨b, off, none⟩ (by simpa [Addr.add] using hu)
      refine ⟨b, off, rfl, hbl, fun j c hj => ?_⟩
      have hjl : j < ((List.range len).flatMap C).length := (List.getElem?_eq_some_iff.1 hj).1
      rw [hfl] at hjl
      have hi : j / k < len := Nat.div_lt_of_lt_mul (by rw [Nat.mul_comm]; exact hjl)
      obtain ⟨hcl, h2, _⟩ := hC (j / k) hi
      obtain ⟨_, _, h2g⟩ := World.cells?_some h2
      have h3 := h2g (j % k) (Nat.mod_lt _ hk)
      rw [Addr.add_mid, Addr.add_mid, Nat.add_assoc, Nat.mul_comm, Nat.div_add_mod] at h3
      rw [h3, ← hfp (j / k) hi]
      have h4 : j / k * k + j % k = j := by rw [Nat.mul_comm]; exact Nat.div_add_mod j k
      unfold eltOf
      rw [List.getElem?_take, if_pos (Nat.mod_lt _ hk), List.getElem?_drop, h4]
      exact hj
    · have hil : i < len := by have := (List.getElem?_eq_some_iff.1 hi).1; omega
      rw [hget i hil] at hi
      rw [hfp i hil]
      exact (hC i hil).2.2 x hi
    · intro x hx2
      obtain ⟨i, hi⟩ := List.mem_iff_getElem?.1 hx2
      have hil : i < len := by have := (List.getElem?_eq_some_iff.1 hi).1; omega
      rw [hget i hil] at hi
      obtain ⟨z, hz, _, _, _, _, hq, _⟩ := hf i hil
      rw [hz] at hi
      obtain rfl := Option.some.inj hi
      exact hq
    · rw [hll]
      have := hw _ List.mem_cons_self
      simp only [List.length_map, List.length_range, reachBytes] at this
      have h2 : len * P.bytesOf e ≤ (len + (m - len)) * P.bytesOf e := Nat.mul_le_mul_right _ (by omega)
      omega
    · have hsum : ∀ m, m ≤ len → (((List.range m).filterMap f).map σ).sum ≤ Rows.uptoBulkAll ((List.range m).map D) := by
        intro m
        induction m with
        | zero => intro _; simp [Rows.uptoBulkAll]
        | succ m ih =>
          intro hm2
          obtain ⟨z, hz, _, _, _, _, _, hz2⟩ := hf m (by omega)
          have h1 := ih (by omega)
          rw [List.range_succ, List.filterMap_append, List.map_append, List.sum_append, List.map_append, bulkU.all_app]
          simp [hz, Rows.uptoBulkAll]
          omega
      have h1 := hsum len (Nat.le_refl _)
      rw [hx]
      simp only [Rows.uptoBulk]
      omega

end
section
variable {H : Type} {enc : TypeId × Value → H} {w : World} {r : Reach} {b0 : Nat} {n : Nat} {cs : List Value} {z : DataW H × List MemPlace}
set_option maxRecDepth 100000 in
theorem places {T : Nat} {f0 f1 : Field} {t0 : TypeId} (hT : Try.prog.underlying T = some (.struct #[f0, f1])) (h0 : f0.type = t0 ∧ f0.offset = 0) (h1 : f1.type = t0 ∧ f1.offset = 1) (hc : Try.prog.cellsOf t0 = 1) (hi : Try.prog.underlying t0 = some (.int .i64)) (hC : Try.prog.cellsOf T = 2)
    (h : DataW.trod enc Try.prog w 0 (fun _ => true) true n T cs = some z) (hw : ∀ q ∈ z.1.weights Try.prog T, q ≤ reachBytes) :
    ∃ a b, cs = [.int .i64 a, .int .i64 b] ∧ I64 a ∧ I64 b := by
  obtain ⟨hl, hf⟩ := field_of hT h hw
  rw [hC] at hl
  match cs, hl with
  | [c0, c1], _ =>
    obtain ⟨y0, m0, g0, _⟩ := hf 0 t0 0 1 (by simp [h0]) hc
    obtain ⟨y1, m1, g1, _⟩ := hf 1 t0 1 1 (by simp [h1]) hc
    obtain ⟨a, e0, _, w0⟩ := DataW.trod_int hi g0
    obtain ⟨b, e1, _, w1⟩ := DataW.trod_int hi g1
    obtain rfl : c0 = .int .i64 a := by simpa using e0
    obtain rfl : c1 = .int .i64 b := by simpa using e1
    exact ⟨a, b, rfl, wf_i64 w0, wf_i64 w1⟩

theorem text_el (hl : cs.length = 1) (h : DataW.trod enc Try.prog w 0 (fun _ => true) true n 9 cs = some z) (hw : ∀ q ∈ z.1.weights Try.prog 9, q ≤ reachBytes) : ∃ x, strE w (Old w.heap.size) cs x ∧ Str x ∧ 1 ≤ Rows.uptoBulk z.1 := by
  obtain ⟨s, rfl, hs⟩ := str_of Try.underlying9 h hw
  exact ⟨s, rfl, hs, bulkK.pos _⟩

set_option maxRecDepth 100000 in
theorem row_el (hl : cs.length = 2) (h : DataW.trod enc Try.prog w 0 (fun _ => true) true n 122 cs = some z) (hw : ∀ q ∈ z.1.weights Try.prog 122, q ≤ reachBytes) : ∃ x, rowE w (Old w.heap.size) cs x ∧ RowOk x ∧ 1 ≤ Rows.uptoBulk z.1 := by
  clear hl
  obtain ⟨hl, hf⟩ := field_of2 Try.underlying122 h hw
  rw [show Try.prog.cellsOf 122 = 2 from by kernel_rfl] at hl
  match cs, hl with
  | [c0, c1], _ =>
    obtain ⟨y0, m0, g0, w0, b0⟩ := hf 0 2 0 1 rfl (by kernel_rfl)
    obtain ⟨val, e0, _, oval⟩ := DataW.trod_int Try.underlying2 g0
    obtain rfl : c0 = .int .i64 val := by simpa using e0
    obtain ⟨y1, m1, g1, w1, b1⟩ := hf 1 9 1 1 rfl (by kernel_rfl)
    obtain ⟨text, e1, otext⟩ := str_of Try.underlying9 g1 w1
    obtain rfl : c1 = .string text := by simpa using e1
    exact ⟨⟨val, text⟩, rfl, ⟨(wf_i64 oval), otext⟩, bulkK.pos _⟩
set_option maxRecDepth 100000 in
theorem sig_el (hl : cs.length = 19) (h : DataW.trod enc Try.prog w 0 (fun _ => true) true n 119 cs = some z) (hw : ∀ q ∈ z.1.weights Try.prog 119, q ≤ reachBytes) : ∃ x, sigE w (Old w.heap.size) cs x ∧ SigOk x ∧ sigN x ≤ Rows.uptoBulk z.1 := by
  clear hl
  obtain ⟨hl, hf⟩ := field_of2 Try.underlying119 h hw
  rw [show Try.prog.cellsOf 119 = 19 from by kernel_rfl] at hl
  match cs, hl with
  | [c0, c1, c2, c3, c4, c5, c6, c7, c8, c9, c10, c11, c12, c13, c14, c15, c16, c17, c18], _ =>
    obtain ⟨y0, m0, g0, w0, b0⟩ := hf 0 23 0 2 rfl (by kernel_rfl)
    obtain ⟨line, col, e0, oline, ocol⟩ := places Try.underlying23 ⟨rfl, rfl⟩ ⟨rfl, rfl⟩ (by kernel_rfl) Try.underlying3 (by kernel_rfl) g0 w0
    obtain ⟨rfl, rfl⟩ : c0 = .int .i64 line ∧ c1 = .int .i64 col := by simpa using e0
    obtain ⟨y1, m1, g1, w1, b1⟩ := hf 1 9 2 1 rfl (by kernel_rfl)
    obtain ⟨name, e1, oname⟩ := str_of Try.underlying9 g1 w1
    obtain rfl : c2 = .string name := by simpa using e1
    obtain ⟨y2, m2, g2, w2, b2⟩ := hf 2 3 3 1 rfl (by kernel_rfl)
    obtain ⟨role, e2, _, orole⟩ := DataW.trod_int Try.underlying3 g2
    obtain rfl : c3 = .int .i64 role := by simpa using e2
    obtain ⟨y3, m3, g3, w3, b3⟩ := hf 3 115 4 1 rfl (by kernel_rfl)
    obtain ⟨branch, e3, _, obranch⟩ := DataW.trod_int Try.underlying115 g3
    obtain rfl : c4 = .int .u64 branch := by simpa using e3
    obtain ⟨y4, m4, g4, w4, b4⟩ := hf 4 3 5 1 rfl (by kernel_rfl)
    obtain ⟨start, e4, _, ostart⟩ := DataW.trod_int Try.underlying3 g4
    obtain rfl : c5 = .int .i64 start := by simpa using e4
    obtain ⟨y5, m5, g5, w5, b5⟩ := hf 5 3 6 1 rfl (by kernel_rfl)
    obtain ⟨size, e5, _, osize⟩ := DataW.trod_int Try.underlying3 g5
    obtain rfl : c6 = .int .i64 size := by simpa using e5
    obtain ⟨y6, m6, g6, w6, b6⟩ := hf 6 4 7 1 rfl (by kernel_rfl)
    obtain ⟨mot, e6, _⟩ := DataW.trod_bool Try.underlying4 g6
    obtain rfl : c7 = .bool mot := by simpa using e6
    obtain ⟨y7, m7, g7, w7, b7⟩ := hf 7 4 8 1 rfl (by kernel_rfl)
    obtain ⟨sgn, e7, _⟩ := DataW.trod_bool Try.underlying4 g7
    obtain rfl : c8 = .bool sgn := by simpa using e7
    obtain ⟨y8, m8, g8, w8, b8⟩ := hf 8 117 9 2 rfl (by kernel_rfl)
    obtain ⟨sn, sd, e8, osn, osd⟩ := places Try.underlying117 ⟨rfl, rfl⟩ ⟨rfl, rfl⟩ (by kernel_rfl) Try.underlying2 (by kernel_rfl) g8 w8
    obtain ⟨rfl, rfl⟩ : c9 = .int .i64 sn ∧ c10 = .int .i64 sd := by simpa using e8
    obtain ⟨y9, m9, g9, w9, b9⟩ := hf 9 117 11 2 rfl (by kernel_rfl)
    obtain ⟨on, od, e9, oon, ood⟩ := places Try.underlying117 ⟨rfl, rfl⟩ ⟨rfl, rfl⟩ (by kernel_rfl) Try.underlying2 (by kernel_rfl) g9 w9
    obtain ⟨rfl, rfl⟩ : c11 = .int .i64 on ∧ c12 = .int .i64 od := by simpa using e9
    obtain ⟨y10, m10, g10, w10, b10⟩ := hf 10 117 13 2 rfl (by kernel_rfl)
    obtain ⟨mn, md, e10, omn, omd⟩ := places Try.underlying117 ⟨rfl, rfl⟩ ⟨rfl, rfl⟩ (by kernel_rfl) Try.underlying2 (by kernel_rfl) g10 w10
    obtain ⟨rfl, rfl⟩ : c13 = .int .i64 mn ∧ c14 = .int .i64 md := by simpa using e10
    obtain ⟨y11, m11, g11, w11, b11⟩ := hf 11 117 15 2 rfl (by kernel_rfl)
    obtain ⟨xn, xd, e11, oxn, oxd⟩ := places Try.underlying117 ⟨rfl, rfl⟩ ⟨rfl, rfl⟩ (by kernel_rfl) Try.underlying2 (by kernel_rfl) g11 w11
    obtain ⟨rfl, rfl⟩ : c15 = .int .i64 xn ∧ c16 = .int .i64 xd := by simpa using e11
    obtain ⟨y12, m12, g12, w12, b12⟩ := hf 12 9 17 1 rfl (by kernel_rfl)
    obtain ⟨unit, e12, ounit⟩ := str_of Try.underlying9 g12 w12
    obtain rfl : c17 = .string unit := by simpa using e12
    obtain ⟨y13, m13, g13, w13, b13⟩ := hf 13 26 18 1 rfl (by kernel_rfl)
    obtain ⟨to, sto, qto, oto, nto⟩ := open_slk2 (σ := (fun _ => 1)) (R := strE) (Q := Str) Try.underlying26 (show Try.prog.cellsOf 9 = 1 from by kernel_rfl) (by decide) g13 w13 (fun _ _ _ hl h hw => text_el hl h hw)
    rw [show Try.prog.bytesOf 9 = 16 from by kernel_rfl] at oto
    exact ⟨⟨line, col, name, role, branch, start, size, mot, sgn, sn, sd, on, od, mn, md, xn, xd, unit, to⟩, ⟨_, rfl, sto⟩, ⟨oline, ocol, oname, (wf_i64 orole), (wf_u64 obranch), (wf_i64 ostart), (wf_i64 osize), osn, osd, oon, ood, omn, omd, oxn, oxd, ounit, oto⟩, by simp only [List.map_const', List.sum_replicate_nat, Nat.mul_one] at nto; unfold sigN; dsimp only; omega⟩
set_option maxRecDepth 100000 in
theorem msg_el (hl : cs.length = 8) (h : DataW.trod enc Try.prog w 0 (fun _ => true) true n 62 cs = some z) (hw : ∀ q ∈ z.1.weights Try.prog 62, q ≤ reachBytes) : ∃ x, msgE w (Old w.heap.size) cs x ∧ MsgOk x ∧ msgN x ≤ Rows.uptoBulk z.1 := by
  clear hl
  obtain ⟨hl, hf⟩ := field_of2 Try.underlying62 h hw
  rw [show Try.prog.cellsOf 62 = 8 from by kernel_rfl] at hl
  match cs, hl with
  | [c0, c1, c2, c3, c4, c5, c6, c7], _ =>
    obtain ⟨y0, m0, g0, w0, b0⟩ := hf 0 23 0 2 rfl (by kernel_rfl)
    obtain ⟨line, col, e0, oline, ocol⟩ := places Try.underlying23 ⟨rfl, rfl⟩ ⟨rfl, rfl⟩ (by kernel_rfl) Try.underlying3 (by kernel_rfl) g0 w0
    obtain ⟨rfl, rfl⟩ : c0 = .int .i64 line ∧ c1 = .int .i64 col := by simpa using e0
    obtain ⟨y1, m1, g1, w1, b1⟩ := hf 1 59 2 1 rfl (by kernel_rfl)
    obtain ⟨id, e1, _, oid⟩ := DataW.trod_int Try.underlying59 g1
    obtain rfl : c2 = .int .u32 id := by simpa using e1
    obtain ⟨y2, m2, g2, w2, b2⟩ := hf 2 4 3 1 rfl (by kernel_rfl)
    obtain ⟨wide, e2, _⟩ := DataW.trod_bool Try.underlying4 g2
    obtain rfl : c3 = .bool wide := by simpa using e2
    obtain ⟨y3, m3, g3, w3, b3⟩ := hf 3 9 4 1 rfl (by kernel_rfl)
    obtain ⟨name, e3, oname⟩ := str_of Try.underlying9 g3 w3
    obtain rfl : c4 = .string name := by simpa using e3
    obtain ⟨y4, m4, g4, w4, b4⟩ := hf 4 3 5 1 rfl (by kernel_rfl)
    obtain ⟨size, e4, _, osize⟩ := DataW.trod_int Try.underlying3 g4
    obtain rfl : c5 = .int .i64 size := by simpa using e4
    obtain ⟨y5, m5, g5, w5, b5⟩ := hf 5 9 6 1 rfl (by kernel_rfl)
    obtain ⟨sender, e5, osender⟩ := str_of Try.underlying9 g5 w5
    obtain rfl : c6 = .string sender := by simpa using e5
    obtain ⟨y6, m6, g6, w6, b6⟩ := hf 6 60 7 1 rfl (by kernel_rfl)
    obtain ⟨sigs, ssigs, qsigs, osigs, nsigs⟩ := open_slk2 (σ := sigN) (R := sigE) (Q := SigOk) Try.underlying60 (show Try.prog.cellsOf 119 = 19 from by kernel_rfl) (by decide) g6 w6 (fun _ _ _ hl h hw => sig_el hl h hw)
    rw [show Try.prog.bytesOf 119 = 176 from by kernel_rfl] at osigs
    exact ⟨⟨line, col, id, wide, name, size, sender, sigs⟩, ⟨_, rfl, ssigs⟩, ⟨oline, ocol, (wf_u32 oid), oname, (wf_i64 osize), osender, osigs, qsigs⟩, by unfold msgN; dsimp only; omega⟩
set_option maxRecDepth 100000 in
theorem tab_el (hl : cs.length = 6) (h : DataW.trod enc Try.prog w 0 (fun _ => true) true n 79 cs = some z) (hw : ∀ q ∈ z.1.weights Try.prog 79, q ≤ reachBytes) : ∃ x, tabE w (Old w.heap.size) cs x ∧ TabOk x ∧ tabN x ≤ Rows.uptoBulk z.1 := by
  clear hl
  obtain ⟨hl, hf⟩ := field_of2 Try.underlying79 h hw
  rw [show Try.prog.cellsOf 79 = 6 from by kernel_rfl] at hl
  match cs, hl with
  | [c0, c1, c2, c3, c4, c5], _ =>
    obtain ⟨y0, m0, g0, w0, b0⟩ := hf 0 23 0 2 rfl (by kernel_rfl)
    obtain ⟨line, col, e0, oline, ocol⟩ := places Try.underlying23 ⟨rfl, rfl⟩ ⟨rfl, rfl⟩ (by kernel_rfl) Try.underlying3 (by kernel_rfl) g0 w0
    obtain ⟨rfl, rfl⟩ : c0 = .int .i64 line ∧ c1 = .int .i64 col := by simpa using e0
    obtain ⟨y1, m1, g1, w1, b1⟩ := hf 1 59 2 1 rfl (by kernel_rfl)
    obtain ⟨id, e1, _, oid⟩ := DataW.trod_int Try.underlying59 g1
    obtain rfl : c2 = .int .u32 id := by simpa using e1
    obtain ⟨y2, m2, g2, w2, b2⟩ := hf 2 4 3 1 rfl (by kernel_rfl)
    obtain ⟨wide, e2, _⟩ := DataW.trod_bool Try.underlying4 g2
    obtain rfl : c3 = .bool wide := by simpa using e2
    obtain ⟨y3, m3, g3, w3, b3⟩ := hf 3 9 4 1 rfl (by kernel_rfl)
    obtain ⟨signal, e3, osignal⟩ := str_of Try.underlying9 g3 w3
    obtain rfl : c4 = .string signal := by simpa using e3
    obtain ⟨y4, m4, g4, w4, b4⟩ := hf 4 77 5 1 rfl (by kernel_rfl)
    obtain ⟨rows, srows, qrows, orows, nrows⟩ := open_slk2 (σ := (fun _ => 1)) (R := rowE) (Q := RowOk) Try.underlying77 (show Try.prog.cellsOf 122 = 2 from by kernel_rfl) (by decide) g4 w4 (fun _ _ _ hl h hw => row_el hl h hw)
    rw [show Try.prog.bytesOf 122 = 24 from by kernel_rfl] at orows
    exact ⟨⟨line, col, id, wide, signal, rows⟩, ⟨_, rfl, srows⟩, ⟨oline, ocol, (wf_u32 oid), osignal, orows, qrows⟩, by simp only [List.map_const', List.sum_replicate_nat, Nat.mul_one] at nrows; unfold tabN; dsimp only; omega⟩
set_option maxRecDepth 100000 in
theorem sta_el (h : DataW.trod enc Try.prog w 0 (fun _ => true) true n 28 cs = some z) (hw : ∀ q ∈ z.1.weights Try.prog 28, q ≤ reachBytes) : ∃ x : Sta, staE w (Old w.heap.size) cs x ∧ x.names.length * 16 ≤ 140737488351232 ∧ x.names.length ≤ Rows.uptoBulk z.1 := by
  obtain ⟨hl, hf⟩ := field_of2 Try.underlying28 h hw
  rw [show Try.prog.cellsOf 28 = 3 from by kernel_rfl] at hl
  match cs, hl with
  | [c0, c1, c2], _ =>
    obtain ⟨y0, m0, g0, w0, b0⟩ := hf 0 23 0 2 rfl (by kernel_rfl)
    obtain ⟨line, col, e0, oline, ocol⟩ := places Try.underlying23 ⟨rfl, rfl⟩ ⟨rfl, rfl⟩ (by kernel_rfl) Try.underlying3 (by kernel_rfl) g0 w0
    obtain ⟨rfl, rfl⟩ : c0 = .int .i64 line ∧ c1 = .int .i64 col := by simpa using e0
    obtain ⟨y1, m1, g1, w1, b1⟩ := hf 1 26 2 1 rfl (by kernel_rfl)
    obtain ⟨names, snames, qnames, onames, nnames⟩ := open_slk2 (σ := (fun _ => 1)) (R := strE) (Q := Str) Try.underlying26 (show Try.prog.cellsOf 9 = 1 from by kernel_rfl) (by decide) g1 w1 (fun _ _ _ hl h hw => text_el hl h hw)
    rw [show Try.prog.bytesOf 9 = 16 from by kernel_rfl] at onames
    exact ⟨⟨line, col, names⟩, ⟨_, rfl, snames⟩, onames, by simp only [List.map_const', List.sum_replicate_nat, Nat.mul_one] at nnames; dsimp only; omega⟩
set_option maxRecDepth 100000 in
theorem ver_el (h : DataW.trod enc Try.prog w 0 (fun _ => true) true n 25 cs = some z) (hw : ∀ q ∈ z.1.weights Try.prog 25, q ≤ reachBytes) : ∃ x : Ver, cs = verCells x := by
  obtain ⟨hl, hf⟩ := field_of2 Try.underlying25 h hw
  rw [show Try.prog.cellsOf 25 = 3 from by kernel_rfl] at hl
  match cs, hl with
  | [c0, c1, c2], _ =>
    obtain ⟨y0, m0, g0, w0, b0⟩ := hf 0 23 0 2 rfl (by kernel_rfl)
    obtain ⟨line, col, e0, oline, ocol⟩ := places Try.underlying23 ⟨rfl, rfl⟩ ⟨rfl, rfl⟩ (by kernel_rfl) Try.underlying3 (by kernel_rfl) g0 w0
    obtain ⟨rfl, rfl⟩ : c0 = .int .i64 line ∧ c1 = .int .i64 col := by simpa using e0
    obtain ⟨y1, m1, g1, w1, b1⟩ := hf 1 9 2 1 rfl (by kernel_rfl)
    obtain ⟨text, e1, otext⟩ := str_of Try.underlying9 g1 w1
    obtain rfl : c2 = .string text := by simpa using e1
    exact ⟨⟨line, col, text⟩, rfl⟩
set_option maxRecDepth 100000 in
theorem db_el (h : DataW.trod enc Try.prog w 0 (fun _ => true) true n 32 cs = some z) (hw : ∀ q ∈ z.1.weights Try.prog 32, q ≤ reachBytes) : ∃ x, dbE w (Old w.heap.size) cs x ∧ DbOk x ∧ dbN x ≤ Rows.uptoBulk z.1 := by
  obtain ⟨hl, hf⟩ := field_of2 Try.underlying32 h hw
  rw [show Try.prog.cellsOf 32 = 9 from by kernel_rfl] at hl
  match cs, hl with
  | [c0, c1, c2, c3, c4, c5, c6, c7, c8], _ =>
    obtain ⟨y0, m0, g0, w0, b0⟩ := hf 0 4 0 1 rfl (by kernel_rfl)
    obtain ⟨y1, m1, g1, w1, b1⟩ := hf 1 25 1 3 rfl (by kernel_rfl)
    obtain ⟨y2, m2, g2, w2, b2⟩ := hf 2 28 4 3 rfl (by kernel_rfl)
    obtain ⟨y3, m3, g3, w3, b3⟩ := hf 3 29 7 1 rfl (by kernel_rfl)
    obtain ⟨y4, m4, g4, w4, b4⟩ := hf 4 30 8 1 rfl (by kernel_rfl)
    obtain ⟨hasV, e0, _⟩ := DataW.trod_bool Try.underlying4 g0
    obtain rfl : c0 = .bool hasV := by simpa using e0
    obtain ⟨ver, e1⟩ := ver_el g1 w1
    obtain ⟨rfl, rfl, rfl⟩ : c1 = .int .i64 ver.line ∧ c2 = .int .i64 ver.col ∧ c3 = .string ver.text := by simpa [verCells] using e1
    obtain ⟨sta, ⟨sv, e2, hs⟩, os, nsta⟩ := sta_el g2 w2
    obtain ⟨rfl, rfl, rfl⟩ : c4 = .int .i64 sta.line ∧ c5 = .int .i64 sta.col ∧ c6 = sv := by simpa [staCells] using e2
    obtain ⟨msgs, hm, qm, om, nmsgs⟩ := open_slk2 (σ := msgN) (R := msgE) (Q := MsgOk) Try.underlying29 (show Try.prog.cellsOf 62 = 8 from by kernel_rfl) (by decide) g3 w3 (fun _ _ _ hl h hw => msg_el hl h hw)
    obtain ⟨tabs, ht, qt, ot, ntabs⟩ := open_slk2 (σ := tabN) (R := tabE) (Q := TabOk) Try.underlying30 (show Try.prog.cellsOf 79 = 6 from by kernel_rfl) (by decide) g4 w4 (fun _ _ _ hl h hw => tab_el hl h hw)
    rw [show Try.prog.bytesOf 62 = 88 from by kernel_rfl] at om
    rw [show Try.prog.bytesOf 79 = 64 from by kernel_rfl] at ot
    exact ⟨⟨hasV, ver, sta, msgs, tabs⟩, ⟨_, _, _, rfl, hs, hm, ht⟩, ⟨os, om, ot, qm, qt⟩, by unfold dbN; dsimp only; omega⟩
set_option maxRecDepth 100000 in
theorem open_dbu {v : Value} {d : DataW H} {p : List MemPlace} (hv : Value.okWide Try.prog w r b0 32 v)
    (h : DataW.Trod enc Try.prog w 0 (fun _ => true) true 32 v d p) (hw : ∀ m ∈ d.weights Try.prog 32, m ≤ reachBytes) :
    ∃ (x : Db) (cs : List Value), v = .agg cs.toArray ∧ dbE w (Old w.heap.size) cs x ∧ DbOk x ∧ dbN x ≤ Rows.uptoBulk d := by
  obtain ⟨cs, rfl, hsz⟩ := okWide_struct Try.underlying32 hv
  obtain ⟨fuel, hf⟩ := h
  obtain ⟨x, hx, hok, hn⟩ := db_el (z := (d, p)) hf hw
  exact ⟨x, cs.toList, rfl, hx, hok, hn⟩
end
end bulkU
end Go.Proofs.Ytdibfkcddcjiiaa
