/- Lists lent with marks behind: rows of the call's own of elements of so many cells. Plain. No condition. -/
import Derived.Test.YtdibfkcddcjiiaaCells
import Derived.Maps.AppendAt
import Derived.Lib.SlicesS
namespace Go.Bus.lentC
open Go.RowKit Go.Bus Go.Bus.cellK
variable {α : Type} {k : Nat} {cells : α → List Value}
theorem flat_len (hk : ∀ x, (cells x).length = k) : ∀ l : List α, (l.flatMap cells).length = l.length * k
  | [] => by simp
  | x :: l => by rw [List.flatMap_cons, List.length_append, hk, flat_len hk l, List.length_cons, Nat.add_mul, Nat.one_mul, Nat.add_comm]
theorem flat_elt (hk : ∀ x, (cells x).length = k) : ∀ (l : List α) (i : Nat) (hi : i < l.length), eltOf k (l.flatMap cells) i = cells l[i]
  | x :: l, 0, _ => by
    unfold eltOf
    rw [List.flatMap_cons, Nat.zero_mul, List.drop_zero, List.take_append_of_le_length (by rw [hk]; exact Nat.le_refl _), List.take_of_length_le (by rw [hk]; exact Nat.le_refl _)]
    rfl
  | x :: l, i + 1, hi => by
    have := flat_elt hk l i (by simpa using hi)
    unfold eltOf at this ⊢
    rw [List.flatMap_cons, Nat.add_mul, Nat.one_mul, List.drop_append, List.drop_of_length_le (by rw [hk]; omega), List.nil_append, hk, Nat.add_sub_cancel, this]
    rfl
theorem flat_snoc {l : List α} {x : α} {t : List α} (h : t = l ++ [x]) : t.flatMap cells = l.flatMap cells ++ cells x := by rw [h, List.flatMap_append]; simp
/-- Lent: a list of the call's own with 16 marks behind, of which n are in sight. -/
def LentK (w : World) (base : Nat) (e : TypeId) (k : Nat) (v : Value) (n : Nat) (xs : List Value) : Prop := ∃ g c, v = .slice (some ⟨g, 0, none⟩) n c ∧ w.ownsRow base e k (.slice (some ⟨g, 0, none⟩) (n + 16) c) (n + 16) xs
theorem LentK.keep {w w' : World} {base n : Nat} {e : TypeId} {v : Value} {xs : List Value} (h : LentK w base e k v n xs) (hb : Below w.heap.size w w') : LentK w' base e k v n xs := by
  obtain ⟨g, c, h1, h2⟩ := h
  exact ⟨g, c, h1, own_kept h2 hb⟩
theorem LentK.lt {w : World} {base n : Nat} {e : TypeId} {v : Value} {xs : List Value} (h : LentK w base e k v n xs) : ∀ q, v.ownBlock = some q → q < w.heap.size := by
  obtain ⟨g, c, rfl, ho⟩ := h
  intro q hq
  exact (ho.lt q (by simpa [Value.ownBlock] using hq)).2
theorem LentK.under {w w' : World} {base n B : Nat} {e : TypeId} {v : Value} {xs : List Value} (h : LentK w base e k v n xs) (hb : Below B w w') (hv : ∀ q, v.ownBlock = some q → q < B) : LentK w' base e k v n xs := by
  obtain ⟨g, c, rfl, ho⟩ := h
  refine ⟨g, c, rfl, ho.1, ?_⟩
  rcases ho.2 with hn | ⟨g', cap, cur, h1, h2, h3, rest⟩
  · exact .inl hn
  · refine .inr ⟨g', cap, cur, h1, h2, ?_, rest⟩
    have e1 : g = g' := by
      simp only [Value.slice.injEq, Option.some.injEq, Addr.mk.injEq, and_true] at h1
      exact h1.1
    subst e1
    exact (hb.block g (hv g (by rfl))).trans h3
theorem own_range {w : World} {base n : Nat} {e : TypeId} {g c : Nat} {xs : List Value} (h : w.ownsRow base e k (.slice (some ⟨g, 0, none⟩) n c) n xs) : w.rangeAt g 0 xs ∧ base ≤ g ∧ g < w.heap.size ∧ n ≤ c ∧ c ≤ maxLen := by
  refine ⟨fun j u hj => ?_, ?_⟩
  · have h1 := h.cells (g := g) rfl j u hj
    rw [Addr.add_mid] at h1
    exact h1
  · have h2 := h.lt g rfl
    rcases h.2 with ⟨h0, _⟩ | ⟨g', cap, cur, hv, hb, hg, hn, hm, hs, ht⟩
    · exact absurd h0 (by simp)
    · simp only [Value.slice.injEq, Option.some.injEq, Addr.mk.injEq, and_true] at hv
      obtain ⟨rfl, _, rfl⟩ := hv
      exact ⟨h2.1, h2.2, hn, hm⟩
theorem Ln.sl {R : Rel α} {w : World} {base : Nat} {e : TypeId} {v : Value} {l m : List α} (hk : ∀ x, (cells x).length = k) (hR : ∀ w F x, R w F (cells x) x) (h : LentK w base e k v l.length ((l ++ m).flatMap cells)) : SlK k R w (Old w.heap.size) v l := by
  obtain ⟨g, c, rfl, ho⟩ := h
  obtain ⟨h1, h2, h3, h4, h5⟩ := own_range ho
  refine ⟨l.flatMap cells, ⟨_, c, rfl, by omega, h5, flat_len hk l, fun _ => ⟨g, 0, rfl, h3, fun j u hj => h1 j u ?_⟩⟩, fun i x hi => ?_⟩
  · rw [List.flatMap_append, List.getElem?_append_left (List.getElem?_eq_some_iff.1 hj).1]; exact hj
  · obtain ⟨hlt, rfl⟩ := List.getElem?_eq_some_iff.1 hi
    rw [flat_elt hk l i hlt]
    exact hR _ _ _
theorem own_slk {R : Rel α} {w : World} {base : Nat} {e : TypeId} {v : Value} {m : List α} {n : Nat} (hk : ∀ x, (cells x).length = k) (hR : ∀ w F x, R w F (cells x) x) (hn : n = m.length) (h0 : 0 < n) (ho : w.ownsRow base e k v n (m.flatMap cells)) : SlK k R w (Old w.heap.size) v m := by
  subst hn
  obtain ⟨g, c, rfl, _, _⟩ := own_form ho h0
  obtain ⟨h1, h2, h3, h4, h5⟩ := own_range ho
  refine ⟨m.flatMap cells, ⟨_, c, rfl, h4, h5, flat_len hk m, fun _ => ⟨g, 0, rfl, h3, h1⟩⟩, fun i x hi => ?_⟩
  obtain ⟨hlt, rfl⟩ := List.getElem?_eq_some_iff.1 hi
  rw [flat_elt hk m i hlt]
  exact hR _ _ _
theorem news_new2 (w : World) (cs : List Value) (t : TypeId) : ∀ (j : Nat) (u : Value), cs[j]? = some u → (w.alloc (.cells cs.toArray t)).cell? ((⟨w.heap.size, 0, none⟩ : Addr).add j) = some u := by
  intro j u hj
  rw [Addr.add_mid, Nat.zero_add, (Has.new w t cs.toArray).cell j]
  simpa using hj
theorem marks_take {α : Type} (f : Nat → α) (k : Nat) (hk : k < 16) : ((List.range 16).map f).take (k + 1) = ((List.range 16).map f).take k ++ [f k] := by
  rw [take_snoc _ _ (by simpa using hk)]; simp
theorem marks_all {α : Type} (f : Nat → α) : ((List.range 16).map f).take 16 = (List.range 16).map f := List.take_of_length_le (by simp)
end Go.Bus.lentC
