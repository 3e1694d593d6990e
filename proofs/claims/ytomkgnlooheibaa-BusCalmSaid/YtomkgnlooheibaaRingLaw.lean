/- A ring in memory: its places, what a push and a pop do to it. Plain. -/
import Derived.Test.YtomkgnlooheibaaBase
namespace Go.Bus.ringK
open Go.RowKit Go.Bus
set_option linter.unusedVariables false
def place (room from_ i : Nat) : Nat := if from_ + i < room then from_ + i else from_ + i - room
theorem place_mod {room from_ i : Nat} (hf : from_ < room) (hi : i ≤ room) : (from_ + i) % room = place room from_ i := by
  unfold place
  split
  · rename_i h; exact Nat.mod_eq_of_lt h
  · rename_i h
    rw [Nat.mod_eq_sub_mod (by omega), Nat.mod_eq_of_lt (by omega)]
theorem place_int {room from_ i : Nat} (hf : from_ < room) (hi : i ≤ room) : ((from_ : Int) + (i : Int)) % (room : Int) = (place room from_ i : Nat) := by
  rw [← place_mod hf hi, Int.natCast_emod, Int.natCast_add]
theorem place_lt {room from_ i : Nat} (hf : from_ < room) (hi : i ≤ room) : place room from_ i < room := by unfold place; split <;> omega
theorem place_ne {room from_ i j : Nat} (hf : from_ < room) (hij : i < j) (hj : j < room) : place room from_ i ≠ place room from_ j := by unfold place; split <;> split <;> omega
theorem place_next {room from_ i : Nat} (hf : from_ < room) (hi : i + 1 < room + 1) : place room (place room from_ 1) i = place room from_ (i + 1) := by
  unfold place
  split <;> split <;> split <;> omega
theorem place_zero {room from_ : Nat} (hf : from_ < room) : place room from_ 0 = from_ := by unfold place; rw [if_pos (by omega)]; rfl
section
variable {α : Type} {w : World} {q g tq ts room from_ : Nat} {f : α → Value} {L : List α}
/-- A ring: its struct in block q, its things in block g; they are L, the first at from_. -/
structure Ring (w : World) (q g tq ts room from_ : Nat) (f : α → Value) (L : List α) : Prop where
  struct_ : Has w q tq #[.slice (some ⟨g, 0, none⟩) room room, .int .i64 (from_ : Int), .int .i64 (L.length : Int)]
  row : ∃ cs : Array Value, Has w g ts cs ∧ cs.size = room ∧ ∀ i x, L[i]? = some x → cs[place room from_ i]? = some (f x)
  hfrom : from_ < room
  hlen : L.length ≤ room
theorem Ring.cells (h : Ring w q g tq ts room from_ f L) :
    w.cell? ⟨q, 0, none⟩ = some (.slice (some ⟨g, 0, none⟩) room room) ∧ w.cell? ⟨q, 1, none⟩ = some (.int .i64 (from_ : Int)) ∧ w.cell? ⟨q, 2, none⟩ = some (.int .i64 (L.length : Int)) ∧ (∀ i, w.frozen? ⟨q, i, none⟩ = false) ∧ (∀ i, w.frozen? ⟨g, i, none⟩ = false) ∧ (∀ i, i < room → ∃ u, w.cell? ⟨g, i, none⟩ = some u) := by
  refine ⟨(h.struct_.cell 0).trans rfl, (h.struct_.cell 1).trans rfl, (h.struct_.cell 2).trans rfl, fun i => h.struct_.frozen i, ?_, ?_⟩
  · obtain ⟨cs, hc, _, _⟩ := h.row
    exact fun i => hc.frozen i
  · obtain ⟨cs, hc, hs, _⟩ := h.row
    intro i hi
    exact ⟨cs[i]'(by omega), (hc.cell i).trans (Array.getElem?_eq_getElem (by omega))⟩
theorem Ring.at_ (h : Ring w q g tq ts room from_ f L) {i : Nat} (hi : i < L.length) : w.cell? ⟨g, place room from_ i, none⟩ = some (f L[i]) := by
  obtain ⟨cs, hc, _, hx⟩ := h.row
  exact (hc.cell _).trans (hx i _ (List.getElem?_eq_getElem hi))
theorem Ring.drewN (h : Ring w q g tq ts room from_ f L) (n : Nat) : Ring (w.drewN n) q g tq ts room from_ f L := ⟨h.struct_, h.row, h.hfrom, h.hlen⟩
theorem Ring.ne_ (h : Ring w q g tq ts room from_ f L) (ht : tq ≠ ts) : q ≠ g := by
  rintro rfl
  obtain ⟨cs, hc, _, _⟩ := h.row
  have h1 := h.struct_
  unfold Has at h1 hc
  rw [h1] at hc
  simp only [Option.some.injEq, Obj.cells.injEq] at hc
  exact ht hc.2.1
theorem Ring.below {w' : World} {B : Nat} (h : Ring w q g tq ts room from_ f L) (hb : Below B w w') (hq : q < B) (hg : g < B) : Ring w' q g tq ts room from_ f L := by
  obtain ⟨cs, hc, hs, hx⟩ := h.row
  exact ⟨h.struct_.below hb hq, ⟨cs, hc.below hb hg, hs, hx⟩, h.hfrom, h.hlen⟩
theorem Ring.lt (h : Ring w q g tq ts room from_ f L) : q < w.heap.size ∧ g < w.heap.size := by
  obtain ⟨cs, hc, _, _⟩ := h.row
  exact ⟨h.struct_.lt, hc.lt⟩
theorem Ring.push (h : Ring w q g tq ts room from_ f L) (ht : tq ≠ ts) (hl : L.length < room) (x : α) :
    Ring ((w.setCell ⟨g, place room from_ L.length, none⟩ (f x)).setCell ⟨q, 2, none⟩ (.int .i64 ((L.length : Int) + 1))) q g tq ts room from_ f (L ++ [x]) := by
  have hne := h.ne_ ht
  obtain ⟨cs, hc, hs, hx⟩ := h.row
  refine ⟨?_, ⟨cs.setIfInBounds (place room from_ L.length) (f x), ?_, by simpa using hs, ?_⟩, h.hfrom, by simp; omega⟩
  · have h1 := (h.struct_.far (p := ⟨g, place room from_ L.length, none⟩) hne (f x)).set 2 (.int .i64 ((L.length : Int) + 1))
    simpa using h1
  · exact (hc.set _ _).far (p := ⟨q, 2, none⟩) (fun e => hne e.symm) _
  · intro i y hi
    rcases Nat.lt_or_ge i L.length with hlt | hge
    · rw [List.getElem?_append_left hlt] at hi
      rw [Array.getElem?_setIfInBounds_ne (Ne.symm (place_ne h.hfrom hlt hl))]
      exact hx i y hi
    · have hil := (List.getElem?_eq_some_iff.1 hi).1
      simp at hil
      obtain rfl : i = L.length := by omega
      rw [List.getElem?_append_right (Nat.le_refl _), Nat.sub_self] at hi
      simp at hi
      subst hi
      rw [Array.getElem?_setIfInBounds_self_of_lt]
      rw [hs]
      exact place_lt h.hfrom (by omega)
theorem Ring.pop {x : α} (h : Ring w q g tq ts room from_ f (x :: L)) (ht : tq ≠ ts) (z : Value) :
    Ring (((w.setCell ⟨g, from_, none⟩ z).setCell ⟨q, 1, none⟩ (.int .i64 (place room from_ 1 : Nat))).setCell ⟨q, 2, none⟩ (.int .i64 (L.length : Int))) q g tq ts room (place room from_ 1) f L := by
  have hne := h.ne_ ht
  have hl := h.hlen
  simp only [List.length_cons] at hl
  obtain ⟨cs, hc, hs, hx⟩ := h.row
  refine ⟨?_, ⟨cs.setIfInBounds from_ z, ?_, by simpa using hs, ?_⟩, place_lt h.hfrom (by omega), by omega⟩
  · have h1 := ((h.struct_.far (p := ⟨g, from_, none⟩) hne z).set 1 (.int .i64 (place room from_ 1 : Nat))).set 2 (.int .i64 (L.length : Int))
    simpa using h1
  · exact ((hc.set _ _).far (p := ⟨q, 1, none⟩) (fun e => hne e.symm) _).far (p := ⟨q, 2, none⟩) (fun e => hne e.symm) _
  · intro i y hi
    have hil := (List.getElem?_eq_some_iff.1 hi).1
    rw [place_next h.hfrom (by omega)]
    have hn : from_ ≠ place room from_ (i + 1) := by
      have := place_ne (room := room) (from_ := from_) (i := 0) (j := i + 1) h.hfrom (by omega) (by omega)
      rw [place_zero h.hfrom] at this
      exact this
    rw [Array.getElem?_setIfInBounds_ne hn]
    exact hx (i + 1) y (by simpa using hi)
end
end Go.Bus.ringK
