/- A list of bools that came in, opened. No condition. -/
import Derived.Test.YthjjockimpndbaaDoorOpen
import Derived.Test.YthjjockimpndbaaDoorProg
import Derived.Deep.Grids
namespace Go.Bus
open Go.RowKit Go.ChangeShapes Go.WideShapes
set_option linter.unusedVariables false
section
variable {H : Type} {enc : TypeId × Value → H} {P : Program} {w : World}
theorem open_bl {t e : TypeId} {n : Nat} {v : Value} {y : DataW H × List MemPlace} (ht : P.underlying t = some (.slice e)) (he : P.underlying e = some .bool) (hc : P.cellsOf e = 1)
    (h : DataW.trod enc P w 0 (fun _ => true) true n t [v] = some y) :
    ∃ l : List Bool, Sl w w.heap.size Value.bool v l ∧ ((∀ m ∈ y.1.weights P t, m ≤ reachBytes) → l.length * P.bytesOf e ≤ 140737488351232) ∧ (l = [] ∨ ∃ es sp, y.1 = .slice es sp ∧ es.length = l.length) := by
  rcases Go.Deep.open_bools ht he hc h with ⟨hcs, hx⟩ | ⟨a, len, cap, B, hcs, _, hl, hm, hx, hcell⟩
  · obtain rfl : v = .slice none 0 0 := by simpa using hcs
    exact ⟨[], Sl.nil_ _ _ _, by simp, .inl rfl⟩
  · obtain rfl : v = .slice (some a) len cap := by simpa using hcs
    have hll : ((List.range len).map B).length = len := by simp
    refine ⟨(List.range len).map B, ⟨some a, cap, by rw [hll], by omega, hm, fun h0 => ?_⟩, fun hw => ?_, .inr ⟨_, _, by rw [hx]; rfl, by simp⟩⟩
    · have h1 := hcell 0 (by omega)
      obtain ⟨b, off, spot⟩ := a
      have hspot : spot = none := by simpa [Addr.add] using World.cell?_spot h1
      subst hspot
      refine ⟨b, off, rfl, World.block_lt_of_cell? w ⟨b, off, none⟩ (by simpa [Addr.add] using h1), fun i x hi => ?_⟩
      obtain ⟨hi1, hi2⟩ := List.getElem?_eq_some_iff.1 hi
      have h2 := hcell i (by omega)
      have h3 : ((⟨b, off, none⟩ : Addr).add i) = ⟨b, off + i, none⟩ := by unfold Addr.add; split <;> simp_all
      rw [h3] at h2
      rw [h2, ← hi2, List.getElem_map, List.getElem_range]
    · subst hx
      have := hw (((List.range len).map fun i => (DataW.lit (Lit.bool (B i)) : DataW H)).length * 1 * P.bytesOf e + ((List.range (cap - len)).map fun j => (DataW.lit (Lit.bool (B (len + j))) : DataW H)).length * P.bytesOf e) (by
        simp only [Go.Deep.boolRow, DataW.weights, ht, Nat.mul_one, Nat.add_mul]; exact List.mem_cons_self)
      simp only [List.length_map, List.length_range, reachBytes, Nat.mul_one] at this
      rw [hll]
      omega
end
end Go.Bus
namespace Go.Proofs.YthjjockimpndbaaDoor
open Go.RowKit Go.Bus Go.Joins Go.ChangeShapes Go.WideShapes
namespace boolsA
set_option maxRecDepth 100000 in
theorem open_bools {H : Type} {enc : TypeId × Value → H} {w : World} {r : Reach} {b0 : Nat} {v : Value} {d : DataW H} {p : List MemPlace} (hv : Value.okWide Tryd.prog w r b0 48 v)
    (h : DataW.Trod enc Tryd.prog w 0 (fun _ => true) true 48 v d p) (hw : ∀ m ∈ d.weights Tryd.prog 48, m ≤ reachBytes) :
    ∃ l : List Bool, Sl w w.heap.size Value.bool v l ∧ l.length ≤ 140737488351232 := by
  obtain ⟨a0, n0, c0, rfl⟩ := Go.WideShapes.okWide_slice Tryd.underlying48 hv
  obtain ⟨m, hm⟩ := h
  obtain ⟨l, hs, hb, _⟩ := open_bl Tryd.underlying48 Tryd.underlying4 (by kernel_rfl) hm
  have hb' := hb hw
  rw [show Tryd.prog.bytesOf 4 = 1 from by kernel_rfl] at hb'
  exact ⟨l, hs, by omega⟩
set_option maxRecDepth 100000 in
theorem open_bools_bulk {H : Type} {enc : TypeId × Value → H} {w : World} {r : Reach} {b0 : Nat} {v : Value} {d : DataW H} {p : List MemPlace} (hv : Value.okWide Tryd.prog w r b0 48 v)
    (h : DataW.Trod enc Tryd.prog w 0 (fun _ => true) true 48 v d p) (hw : ∀ m ∈ d.weights Tryd.prog 48, m ≤ reachBytes) :
    ∃ l : List Bool, Sl w w.heap.size Value.bool v l ∧ l.length ≤ 140737488351232 ∧ (l = [] ∨ ∃ es sp, d = .slice es sp ∧ es.length = l.length) := by
  obtain ⟨a0, n0, c0, rfl⟩ := Go.WideShapes.okWide_slice Tryd.underlying48 hv
  obtain ⟨m, hm⟩ := h
  obtain ⟨l, hs, hb, hd⟩ := open_bl Tryd.underlying48 Tryd.underlying4 (by kernel_rfl) hm
  have hb' := hb hw
  rw [show Tryd.prog.bytesOf 4 = 1 from by kernel_rfl] at hb'
  exact ⟨l, hs, by omega, hd⟩
end boolsA
end Go.Proofs.YthjjockimpndbaaDoor
