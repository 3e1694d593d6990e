/- A lent list reads as the list; it stays where what lies above turns. Plain. -/
import Derived.Test.YthjjockimpndbaaDoorBase
namespace Go.Proofs.YthjjockimpndbaaDoor
open Go.RowKit Go.Bus
set_option linter.unusedVariables false
namespace lentK
section
variable {α : Type} {w w' : World} {base B : Nat} {e : TypeId} {f : α → Value} {v : Value} {l t : List α}
theorem sl_of (h : Lent w base e f v l.length (l ++ t)) : Sl w w.heap.size f v l := by
  obtain ⟨g, cap, rfl, hn, ho⟩ := h
  obtain ⟨A', cap', hv, hl, hc, hx⟩ := Sl.of_own ho
  simp only [Value.slice.injEq] at hv
  obtain ⟨rfl, _, rfl⟩ := hv
  refine ⟨_, cap, rfl, by omega, hc, fun h0 => ?_⟩
  obtain ⟨b, off, hb, hlt, hcell⟩ := hx (by rw [List.length_append]; omega)
  exact ⟨b, off, hb, hlt, fun i x hi => hcell i x (by rw [List.getElem?_append_left (List.getElem?_eq_some_iff.1 hi).1]; exact hi)⟩
theorem own_below {v : Value} {n : Nat} {xs : List Value} (h : w.ownsRow base e 1 v n xs) (hb : Below B w w') (hlt : ∀ q, v.ownBlock = some q → q < B) : w'.ownsRow base e 1 v n xs := by
  refine ⟨h.1, ?_⟩
  rcases h.2 with hn | ⟨g, cap, cur, rfl, hbb, hgg, rest⟩
  · exact .inl hn
  · exact .inr ⟨g, cap, cur, rfl, hbb, (hb.block g (hlt g (by rfl))).trans hgg, rest⟩
theorem lent_below {n : Nat} (h : Lent w base e f v n l) (hb : Below B w w') (hlt : ∀ q, v.ownBlock = some q → q < B) : Lent w' base e f v n l := by
  obtain ⟨g, cap, rfl, hn, ho⟩ := h
  exact ⟨g, cap, rfl, hn, own_below ho hb (fun q hq => hlt q (by simpa [Value.ownBlock] using hq))⟩
theorem lent_lt {n : Nat} (h : Lent w base e f v n l) : ∀ q, v.ownBlock = some q → q < w.heap.size := by
  obtain ⟨g, cap, rfl, hn, ho⟩ := h
  intro q hq
  exact (ho.lt q (by simpa [Value.ownBlock] using hq)).2
end
end lentK
end Go.Proofs.YthjjockimpndbaaDoor
