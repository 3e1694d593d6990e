/- Words for memory that the walks of this family share: a slice that reads as a list, a slice of the call's own. No condition. -/
import Derived.WalkKit
import Derived.Lib.Hide
import Derived.Laws.OwnMore
import Derived.Deep.Draws
namespace Go.Bus
open Go.RowKit
set_option linter.unusedVariables false

section
variable {α : Type} {w w' : World} {B B' : Nat} {f : α → Value} {v : Value} {l : List α}

/-- The slice v reads as the list l, one cell an element; its cells lie in a block below B. -/
def Sl (w : World) (B : Nat) (f : α → Value) (v : Value) (l : List α) : Prop :=
  ∃ A cap, v = .slice A l.length cap ∧ l.length ≤ cap ∧ cap ≤ maxLen ∧
    (0 < l.length → ∃ b off, A = some ⟨b, off, none⟩ ∧ b < B ∧ ∀ i x, l[i]? = some x → w.cell? ⟨b, off + i, none⟩ = some (f x))

theorem Sl.keep (h : Sl w B f v l) (hB : B ≤ B') (hk : ∀ b o, b < B → w'.cell? ⟨b, o, none⟩ = w.cell? ⟨b, o, none⟩) : Sl w' B' f v l := by
  obtain ⟨A, cap, rfl, hl, hc, hx⟩ := h
  refine ⟨A, cap, rfl, hl, hc, fun h0 => ?_⟩
  obtain ⟨b, off, rfl, hb, hcell⟩ := hx h0
  exact ⟨b, off, rfl, by omega, fun i x hi => (hk _ _ hb).trans (hcell i x hi)⟩

theorem Sl.below (h : Sl w B f v l) (hb : Below B w w') : Sl w' B f v l := h.keep (Nat.le_refl _) fun b o hlt => hb.cell (p := ⟨b, o, none⟩) hlt
theorem Sl.more (h : Sl w B f v l) (hB : B ≤ B') : Sl w B' f v l := h.keep hB fun _ _ _ => rfl
theorem Sl.alloc (h : Sl w B f v l) (hB : B ≤ w.heap.size) (o : Obj) : Sl (w.alloc o) B f v l :=
  h.keep (Nat.le_refl _) fun b _ hlt => World.cell?_alloc_lt w o ⟨b, _, none⟩ (show b < w.heap.size by omega)
theorem Sl.nil_ (w : World) (B : Nat) (f : α → Value) : Sl w B f (.slice none 0 0) [] := ⟨none, 0, rfl, Nat.le_refl _, Nat.zero_le _, fun h => absurd h (by simp)⟩

/-- An element: the slice's address is there, and the cell. -/
theorem Sl.at_ {A : Option Addr} {n cap k : Nat} (h : Sl w B f (.slice A n cap) l) (hk : k < l.length) :
    ∃ b off, A = some ⟨b, off, none⟩ ∧ b < B ∧ w.cell? ⟨b, off + k, none⟩ = some (f l[k]) := by
  obtain ⟨A', cap', hv, _, _, hx⟩ := h
  obtain ⟨b, off, rfl, hb, hc⟩ := hx (by omega)
  simp only [Value.slice.injEq] at hv
  exact ⟨b, off, hv.1, hb, hc k _ (List.getElem?_eq_getElem hk)⟩
theorem Sl.form (h : Sl w B f v l) : ∃ A cap, v = .slice A l.length cap ∧ l.length ≤ cap ∧ cap ≤ maxLen := by
  obtain ⟨A, cap, h1, h2, h3, _⟩ := h
  exact ⟨A, cap, h1, h2, h3⟩

/-- A slice of the call's own reads as a list. -/
theorem Sl.of_own {base : Nat} {e : TypeId} (h : w.ownsRow base e 1 v l.length (l.map f)) : Sl w w.heap.size f v l := by
  obtain ⟨_, h2⟩ := h
  rcases h2 with ⟨rfl, h0⟩ | ⟨g, cap, cur, rfl, hb, hg, hn, hm, hs, ht⟩
  · obtain rfl : l = [] := List.eq_nil_of_length_eq_zero h0
    exact Sl.nil_ _ _ _
  · refine ⟨_, cap, rfl, hn, hm, fun _ => ⟨g, 0, rfl, ?_, fun i x hi => ?_⟩⟩
    · rcases Nat.lt_or_ge g w.heap.size with hlt | hge
      · exact hlt
      · rw [Array.getElem?_eq_none hge] at hg; cases hg
    · rw [cell_of_row w g _ cur e (0, 0) hg]
      have hlt : i < l.length := (List.getElem?_eq_some_iff.1 hi).1
      have : (l.map f)[i]? = some (f x) := by rw [List.getElem?_map, hi]; rfl
      rw [← ht, List.getElem?_take, if_pos (by omega)] at this
      simpa using this

/-- The first n of a slice of the call's own, with its spare room known. -/
def Lent (w : World) (base : Nat) (e : TypeId) (f : α → Value) (v : Value) (n : Nat) (l : List α) : Prop :=
  ∃ g cap, v = .slice (some ⟨g, 0, none⟩) n cap ∧ n ≤ l.length ∧ w.ownsRow base e 1 (.slice (some ⟨g, 0, none⟩) l.length cap) l.length (l.map f)
end

/-- Old cells and old marks read as before, in the walk's own form. -/
theorem bcell {B : Nat} {W w1 : World} (hb : Below B W w1) :
    (∀ b o, b < B → w1.cell? ⟨b, o, none⟩ = W.cell? ⟨b, o, none⟩) ∧ (∀ b o, b < B → w1.frozen? ⟨b, o, none⟩ = W.frozen? ⟨b, o, none⟩) :=
  ⟨fun b o h => hb.cell (p := ⟨b, o, none⟩) h, fun b o h => hb.frozen (p := ⟨b, o, none⟩) h⟩

theorem own_kept {w w' : World} {base : Nat} {e : TypeId} {size : Nat} {v : Value} {n : Nat} {xs : List Value} (h : w.ownsRow base e size v n xs) (hb : Below w.heap.size w w') : w'.ownsRow base e size v n xs := by
  refine ⟨h.1, ?_⟩
  rcases h.2 with hn | ⟨g, cap, cur, rfl, hbb, hgg, rest⟩
  · exact .inl hn
  · refine .inr ⟨g, cap, cur, rfl, hbb, ?_, rest⟩
    rw [hb.block g (by
      rcases Nat.lt_or_ge g w.heap.size with hlt | hge
      · exact hlt
      · rw [Array.getElem?_eq_none hge] at hgg; cases hgg)]
    exact hgg

theorem Lent.below {α : Type} {w w' : World} {base : Nat} {e : TypeId} {f : α → Value} {v : Value} {n : Nat} {l : List α} (h : Lent w base e f v n l) (hb : Below w.heap.size w w') : Lent w' base e f v n l := by
  obtain ⟨g, cap, rfl, hn, ho⟩ := h
  exact ⟨g, cap, rfl, hn, own_kept ho hb⟩

/-- One cell just laid: what 'append(out, x)' reads. -/
theorem one_new (w : World) (u : Value) (t : TypeId) : ∀ (j : Nat) (x : Value), [u][j]? = some x → (w.alloc (.cells #[u] t)).cell? ((⟨w.heap.size, 0, none⟩ : Addr).add j) = some x := by
  intro j x hj
  match j, hj with
  | 0, hj => simp at hj; subst hj; simp [Addr.add]

/-- What a round that appends one element does to the relation. -/
theorem Round.step {B : Nat} {w wr w1 : World} {e : TypeId} {size : Nat} {o v' : Value} {c : Array Value} {n n' : Nat} {xs ys zs : List Value} {t : TypeId} (hbel : Below B w wr) (hown : wr.ownsRow B e size o n xs)
    (hown' : w1.ownsRow B e size v' n' zs) (hg : (wr.alloc (.cells c t)).grownBy w1 o.ownBlock) (hB : B ≤ wr.heap.size := by (first | exact Below.size ‹_› | omega)) (hxs : zs = ys) :
    w1.ownsRow B e size v' n' ys ∧ Below B w w1 := by
  subst hxs
  refine ⟨hown', (hbel.alloc hB _).grown hg (by simp; omega) fun k hk => ?_⟩
  exact (hown.lt k hk).1

theorem own_form {w : World} {base : Nat} {e : TypeId} {size : Nat} {v : Value} {n : Nat} {xs : List Value} (h : w.ownsRow base e size v n xs) (hn : 0 < n) : ∃ g cap, v = .slice (some ⟨g, 0, none⟩) n cap ∧ n ≤ cap ∧ cap ≤ 9223372036854775807 := by
  rcases h.2 with ⟨_, h0⟩ | ⟨g, cap, cur, rfl, _, _, h1, h2, _⟩
  · omega
  · exact ⟨g, cap, rfl, h1, by unfold maxLen at h2; omega⟩

theorem own_cap {w : World} {base g : Nat} {e : TypeId} {size : Nat} {n cap : Nat} {xs : List Value} (h : w.ownsRow base e size (.slice (some ⟨g, 0, none⟩) n cap) n xs) : n ≤ cap ∧ cap ≤ 9223372036854775807 := by
  rcases h.2 with ⟨h0, _⟩ | ⟨g', cap', cur, h0, _, _, h1, h2, _⟩
  · simp at h0
  · simp only [Value.slice.injEq] at h0
    obtain ⟨_, _, rfl⟩ := h0
    exact ⟨h1, by unfold maxLen at h2; omega⟩

theorem own_base {w : World} {base base' : Nat} {e : TypeId} {size : Nat} {v : Value} {n : Nat} {xs : List Value} (h : w.ownsRow base e size v n xs) (hB : base' ≤ base) : w.ownsRow base' e size v n xs := by
  refine ⟨h.1, ?_⟩
  rcases h.2 with h2 | ⟨g, cap, cur, hv, hg, rest⟩
  · exact .inl h2
  · exact .inr ⟨g, cap, cur, hv, by omega, rest⟩
theorem Lent.base {α : Type} {w : World} {base base' : Nat} {e : TypeId} {f : α → Value} {v : Value} {n : Nat} {l : List α} (h : Lent w base e f v n l) (hB : base' ≤ base) : Lent w base' e f v n l := by
  obtain ⟨g, cap, rfl, hn, ho⟩ := h
  exact ⟨g, cap, rfl, hn, own_base ho hB⟩
theorem Lent.setCell {α : Type} {w : World} {base : Nat} {e : TypeId} {f : α → Value} {v : Value} {n : Nat} {l : List α} (h : Lent w base e f v n l) {p : Addr} (hp : p.block < base) (u : Value) : Lent (w.setCell p u) base e f v n l := by
  obtain ⟨g, cap, rfl, hn, ho⟩ := h
  exact ⟨g, cap, rfl, hn, ownsRow_setCell_below ho hp u⟩
theorem Sl.at_below {α : Type} {w W : World} {f : α → Value} {v : Value} {l : List α} (h : Sl w w.heap.size f v l) (hb : Below w.heap.size w W) : Sl W W.heap.size f v l := (h.below hb).more hb.size

theorem below_drewN {B : Nat} {a w : World} (h : Below B a w) (n : Nat) : Below B a (w.drewN n) := ⟨h.os, h.tape, h.output, h.size, h.block⟩

theorem ret_int {k : IntKind} {a b : Int} (h : a = b) : Ending.returned (.int k a) = .returned (.int k b) := by rw [h]
theorem ret_bool {a b : Bool} (h : a = b) : Ending.returned (.bool a) = .returned (.bool b) := by rw [h]
theorem ret_int2 {k j : IntKind} {a b c d : Int} (h : a = b) (h' : c = d) : Ending.returned (.tuple #[.int k a, .int j c]) = .returned (.tuple #[.int k b, .int j d]) := by rw [h, h']

theorem take_map_snoc {α : Type} (f : α → Value) (l : List α) (k : Nat) (h : k < l.length) : (l.map f).take k ++ [f l[k]] = (l.map f).take (k + 1) := by
  rw [List.take_succ_eq_append_getElem (by simpa using h), List.getElem_map]

theorem take_snoc {α : Type} (l : List α) (k : Nat) (h : k < l.length) : l.take (k + 1) = l.take k ++ [l[k]] := by
  rw [List.take_succ_eq_append_getElem h]
end Go.Bus
