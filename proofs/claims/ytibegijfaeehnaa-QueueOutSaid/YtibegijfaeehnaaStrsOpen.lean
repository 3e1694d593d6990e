/- A list of strings that came in, opened. No condition. -/
import Derived.Test.YtibegijfaeehnaaOpen
import Derived.Test.YtibegijfaeehnaaProg
import Derived.Deep.Strs
namespace Go.Bus
open Go.RowKit Go.ChangeShapes Go.WideShapes
set_option linter.unusedVariables false
section
variable {H : Type} {enc : TypeId × Value → H} {P : Program} {w : World}
theorem open_stl {t e : TypeId} {n : Nat} {v : Value} {y : DataW H × List MemPlace} (ht : P.underlying t = some (.slice e)) (he : P.underlying e = some .string) (hc : P.cellsOf e = 1)
    (h : DataW.trod enc P w 0 (fun _ => true) true n t [v] = some y) :
    ∃ l : List ByteArray, Sl w w.heap.size Value.string v l := by
  rcases Go.Deep.open_strs ht he hc h with ⟨hcs, hx⟩ | ⟨a, len, cap, m, B, hcs, _, hl, hm, hmm, hx, hcell⟩
  · obtain rfl : v = .slice none 0 0 := by simpa using hcs
    exact ⟨[], Sl.nil_ _ _ _⟩
  · obtain rfl : v = .slice (some a) len cap := by simpa using hcs
    have hll : ((List.range len).map B).length = len := by simp
    have hlm : len ≤ m := by rw [hmm]; split <;> omega
    refine ⟨(List.range len).map B, ⟨some a, cap, by rw [hll], by omega, hm, fun h0 => ?_⟩⟩
    have h1 := (hcell 0 (by omega)).1
    obtain ⟨b, off, spot⟩ := a
    have hspot : spot = none := by simpa [Addr.add] using World.cell?_spot h1
    subst hspot
    refine ⟨b, off, rfl, World.block_lt_of_cell? w ⟨b, off, none⟩ (by simpa [Addr.add] using h1), fun i x hi => ?_⟩
    obtain ⟨hi1, hi2⟩ := List.getElem?_eq_some_iff.1 hi
    have h2 := (hcell i (by omega)).1
    have h3 : ((⟨b, off, none⟩ : Addr).add i) = ⟨b, off + i, none⟩ := by unfold Addr.add; split <;> simp_all
    rw [h3] at h2
    rw [h2, ← hi2, List.getElem_map, List.getElem_range]
end
end Go.Bus
namespace Go.Proofs.Ytibegijfaeehnaa
open Go.RowKit Go.Bus Go.Joins Go.ChangeShapes Go.WideShapes
namespace strsA
set_option maxRecDepth 100000 in
theorem open_strl {H : Type} {enc : TypeId × Value → H} {w : World} {r : Reach} {b0 : Nat} {v : Value} {d : DataW H} {p : List MemPlace} (hv : Value.okWide Try.prog w r b0 45 v)
    (h : DataW.Trod enc Try.prog w 0 (fun _ => true) true 45 v d p) :
    ∃ l : List ByteArray, Sl w w.heap.size Value.string v l := by
  obtain ⟨a0, n0, c0, rfl⟩ := Go.WideShapes.okWide_slice Try.underlying45 hv
  obtain ⟨m, hm⟩ := h
  exact open_stl Try.underlying45 Try.underlying9 (by kernel_rfl) hm
end strsA
end Go.Proofs.Ytibegijfaeehnaa
