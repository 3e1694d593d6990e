/- A ring of things of three cells in memory: what a push and a pop do to it. Plain. -/
import Derived.Test.YtomkgnlooheibaaRingLaw
namespace Go.Bus.ring3K
open Go.RowKit Go.Bus Go.Bus.ringK
set_option linter.unusedVariables false
set_option linter.unusedSimpArgs false
/-- A frame as it lies: its identifier, whether it is wide, its data's slice, and the bytes that this reads as. -/
structure Fr where
  id : Int
  wide : Bool
  data : Value
  bytes : List Int
def Fr.c (x : Fr) : List Value := [.int .u32 x.id, .bool x.wide, x.data]
theorem slot_ne {p q i j : Nat} (h : p ≠ q) (hi : i < 3) (hj : j < 3) : p * 3 + i ≠ q * 3 + j := by omega
section
variable {w : World} {q g tq ts room from_ : Nat} {L : List Fr}
structure Ring3 (w : World) (q g tq ts room from_ : Nat) (L : List Fr) : Prop where
  struct_ : Has w q tq #[.slice (some ⟨g, 0, none⟩) room room, .int .i64 (from_ : Int), .int .i64 (L.length : Int)]
  row : ∃ cs : Array Value, Has w g ts cs ∧ cs.size = room * 3 ∧ ∀ i x, L[i]? = some x → ∀ j v, x.c[j]? = some v → cs[place room from_ i * 3 + j]? = some v
  hfrom : from_ < room
  hlen : L.length ≤ room
theorem c_lt {x : Fr} {j : Nat} {v : Value} (h : x.c[j]? = some v) : j < 3 := (List.getElem?_eq_some_iff.1 h).1
theorem Ring3.cells (h : Ring3 w q g tq ts room from_ L) :
    w.cell? ⟨q, 0, none⟩ = some (.slice (some ⟨g, 0, none⟩) room room) ∧ w.cell? ⟨q, 1, none⟩ = some (.int .i64 (from_ : Int)) ∧ w.cell? ⟨q, 2, none⟩ = some (.int .i64 (L.length : Int)) ∧ (∀ i, w.frozen? ⟨q, i, none⟩ = false) ∧ (∀ i, w.frozen? ⟨g, i, none⟩ = false) ∧ (∀ i, i < room * 3 → ∃ u, w.cell? ⟨g, i, none⟩ = some u) := by
  refine ⟨(h.struct_.cell 0).trans rfl, (h.struct_.cell 1).trans rfl, (h.struct_.cell 2).trans rfl, fun i => h.struct_.frozen i, ?_, ?_⟩
  · obtain ⟨cs, hc, _, _⟩ := h.row
    exact fun i => hc.frozen i
  · obtain ⟨cs, hc, hs, _⟩ := h.row
    intro i hi
    exact ⟨cs[i]'(by omega), (hc.cell i).trans (Array.getElem?_eq_getElem (by omega))⟩
theorem Ring3.at_ (h : Ring3 w q g tq ts room from_ L) {i : Nat} (hi : i < L.length) : ∀ j v, (L[i]).c[j]? = some v → w.cell? ⟨g, place room from_ i * 3 + j, none⟩ = some v := by
  obtain ⟨cs, hc, _, hx⟩ := h.row
  exact fun j v hj => (hc.cell _).trans (hx i _ (List.getElem?_eq_getElem hi) j v hj)
theorem Ring3.drewN (h : Ring3 w q g tq ts room from_ L) (n : Nat) : Ring3 (w.drewN n) q g tq ts room from_ L := ⟨h.struct_, h.row, h.hfrom, h.hlen⟩
theorem Ring3.ne_ (h : Ring3 w q g tq ts room from_ L) (ht : tq ≠ ts) : q ≠ g := by
  rintro rfl
  obtain ⟨cs, hc, _, _⟩ := h.row
  have h1 := h.struct_
  unfold Has at h1 hc
  rw [h1] at hc
  simp only [Option.some.injEq, Obj.cells.injEq] at hc
  exact ht hc.2.1
theorem Ring3.keep {w' : World} (h : Ring3 w q g tq ts room from_ L) (hq : w'.heap[q]? = w.heap[q]?) (hg : w'.heap[g]? = w.heap[g]?) : Ring3 w' q g tq ts room from_ L := by
  obtain ⟨cs, hc, hs, hx⟩ := h.row
  exact ⟨hq.trans h.struct_, ⟨cs, hg.trans hc, hs, hx⟩, h.hfrom, h.hlen⟩
theorem Ring3.lt (h : Ring3 w q g tq ts room from_ L) : q < w.heap.size ∧ g < w.heap.size := by
  obtain ⟨cs, hc, _, _⟩ := h.row
  exact ⟨h.struct_.lt, hc.lt⟩
theorem Ring3.push (h : Ring3 w q g tq ts room from_ L) (ht : tq ≠ ts) (hl : L.length < room) (x : Fr) :
    Ring3 ((((w.setCell ⟨g, place room from_ L.length * 3, none⟩ (.int .u32 x.id)).setCell ⟨g, place room from_ L.length * 3 + 1, none⟩ (.bool x.wide)).setCell ⟨g, place room from_ L.length * 3 + 2, none⟩ x.data).setCell ⟨q, 2, none⟩ (.int .i64 ((L.length : Int) + 1))) q g tq ts room from_ (L ++ [x]) := by
  have hne := h.ne_ ht
  have hpl := place_lt (i := L.length) h.hfrom (by omega)
  obtain ⟨cs, hc, hs, hx⟩ := h.row
  refine ⟨?_, ⟨((cs.setIfInBounds (place room from_ L.length * 3) (.int .u32 x.id)).setIfInBounds (place room from_ L.length * 3 + 1) (.bool x.wide)).setIfInBounds (place room from_ L.length * 3 + 2) x.data, ?_, by simpa using hs, ?_⟩, h.hfrom, by simp; omega⟩
  · have h1 := (((h.struct_.far (p := ⟨g, place room from_ L.length * 3, none⟩) hne (.int .u32 x.id)).far (p := ⟨g, place room from_ L.length * 3 + 1, none⟩) hne (.bool x.wide)).far (p := ⟨g, place room from_ L.length * 3 + 2, none⟩) hne x.data).set 2 (.int .i64 ((L.length : Int) + 1))
    simpa using h1
  · exact (((hc.set _ _).set _ _).set _ _).far (p := ⟨q, 2, none⟩) (fun e => hne e.symm) _
  · intro i y hi j v hj
    have hj3 := c_lt hj
    rcases Nat.lt_or_ge i L.length with hlt | hge
    · rw [List.getElem?_append_left hlt] at hi
      have hpn := Ne.symm (place_ne h.hfrom hlt hl)
      rw [Array.getElem?_setIfInBounds_ne (slot_ne hpn (i := 2) (by omega) hj3), Array.getElem?_setIfInBounds_ne (slot_ne hpn (i := 1) (by omega) hj3), Array.getElem?_setIfInBounds_ne (by simpa using slot_ne hpn (i := 0) (by omega) hj3)]
      exact hx i y hi j v hj
    · have hil := (List.getElem?_eq_some_iff.1 hi).1
      simp at hil
      obtain rfl : i = L.length := by omega
      rw [List.getElem?_append_right (Nat.le_refl _), Nat.sub_self] at hi
      simp at hi
      subst hi
      match j, hj with
      | 0, hj =>
        simp [Fr.c] at hj
        subst hj
        rw [Array.getElem?_setIfInBounds_ne (by omega), Array.getElem?_setIfInBounds_ne (by omega), Nat.add_zero, Array.getElem?_setIfInBounds_self_of_lt (by omega)]
      | 1, hj =>
        simp [Fr.c] at hj
        subst hj
        rw [Array.getElem?_setIfInBounds_ne (by omega), Array.getElem?_setIfInBounds_self_of_lt (by simp; omega)]
      | 2, hj =>
        simp [Fr.c] at hj
        subst hj
        rw [Array.getElem?_setIfInBounds_self_of_lt (by simp; omega)]
      | k + 3, hj => simp [Fr.c] at hj
theorem Ring3.pop {x : Fr} (h : Ring3 w q g tq ts room from_ (x :: L)) (ht : tq ≠ ts) (z0 z1 z2 : Value) :
    Ring3 (((((w.setCell ⟨g, from_ * 3, none⟩ z0).setCell ⟨g, from_ * 3 + 1, none⟩ z1).setCell ⟨g, from_ * 3 + 2, none⟩ z2).setCell ⟨q, 1, none⟩ (.int .i64 (place room from_ 1 : Nat))).setCell ⟨q, 2, none⟩ (.int .i64 (L.length : Int))) q g tq ts room (place room from_ 1) L := by
  have hne := h.ne_ ht
  have hl := h.hlen
  simp only [List.length_cons] at hl
  obtain ⟨cs, hc, hs, hx⟩ := h.row
  refine ⟨?_, ⟨((cs.setIfInBounds (from_ * 3) z0).setIfInBounds (from_ * 3 + 1) z1).setIfInBounds (from_ * 3 + 2) z2, ?_, by simpa using hs, ?_⟩, place_lt h.hfrom (by omega), by omega⟩
  · have h1 := ((((h.struct_.far (p := ⟨g, from_ * 3, none⟩) hne z0).far (p := ⟨g, from_ * 3 + 1, none⟩) hne z1).far (p := ⟨g, from_ * 3 + 2, none⟩) hne z2).set 1 (.int .i64 (place room from_ 1 : Nat))).set 2 (.int .i64 (L.length : Int))
    simpa using h1
  · exact ((((hc.set _ _).set _ _).set _ _).far (p := ⟨q, 1, none⟩) (fun e => hne e.symm) _).far (p := ⟨q, 2, none⟩) (fun e => hne e.symm) _
  · intro i y hi j v hj
    have hj3 := c_lt hj
    have hil := (List.getElem?_eq_some_iff.1 hi).1
    rw [place_next h.hfrom (by omega)]
    have hn : from_ ≠ place room from_ (i + 1) := by
      have := place_ne (room := room) (from_ := from_) (i := 0) (j := i + 1) h.hfrom (by omega) (by omega)
      rw [place_zero h.hfrom] at this
      exact this
    rw [Array.getElem?_setIfInBounds_ne (slot_ne hn (i := 2) (by omega) hj3), Array.getElem?_setIfInBounds_ne (slot_ne hn (i := 1) (by omega) hj3), Array.getElem?_setIfInBounds_ne (by simpa using slot_ne hn (i := 0) (by omega) hj3)]
    exact hx (i + 1) y (by simpa using hi) j v hj
/-- The same, where the stores stand in another world's chain: the box, and the row as it came out. -/
theorem Ring3.pop_at {x : Fr} {W : World} (h : Ring3 w q g tq ts room from_ (x :: L)) (ht : tq ≠ ts) (z0 z1 z2 : Value) (hq : Has W q tq #[.slice (some ⟨g, 0, none⟩) room room, .int .i64 (place room from_ 1 : Nat), .int .i64 (L.length : Int)])
    (hg : W.heap[g]? = (((w.setCell ⟨g, from_ * 3, none⟩ z0).setCell ⟨g, from_ * 3 + 1, none⟩ z1).setCell ⟨g, from_ * 3 + 2, none⟩ z2).heap[g]?) : Ring3 W q g tq ts room (place room from_ 1) L := by
  have h1 := h.pop ht z0 z1 z2
  have hne := h.ne_ ht
  refine ⟨hq, ?_, h1.hfrom, h1.hlen⟩
  obtain ⟨cs, hc, h2, h3⟩ := h1.row
  refine ⟨cs, ?_, h2, h3⟩
  refine hg.trans ?_
  exact (heap_setCell_other _ ⟨q, 1, none⟩ g (.int .i64 (place room from_ 1 : Nat)) (fun e => hne e.symm)).symm.trans ((heap_setCell_other _ ⟨q, 2, none⟩ g (.int .i64 (L.length : Int)) (fun e => hne e.symm)).symm.trans hc)
end
end Go.Bus.ring3K
