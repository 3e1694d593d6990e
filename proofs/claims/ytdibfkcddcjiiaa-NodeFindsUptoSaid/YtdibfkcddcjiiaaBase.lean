/- Words for memory that the walks of this family share: a slice that reads as a list, a slice of the call's own. No condition. -/
import Derived.WalkKit
import Derived.Lib.Hide
import Derived.Laws.OwnMore
import Derived.Laws.MakeOwn
import Derived.Laws.CopyOwn
import Derived.Deep.Draws
namespace Go.Bus
open Go.RowKit
set_option linter.unusedVariables false

section
variable {α : Type} {w w' : World} {B B' : Nat} {f : α → Value} {v : Value} {l : List α}

/-- The slice v reads as the list l, one cell an element; its cells lie in a block below B. -/
def Sl (w : World) (B : Nat) (f : α → Value) (v : Value) (l : List α) : Prop :=
  ∃ A cap, v = .slice A l.length cap ∧ l.length ≤ cap ∧ cap ≤ maxLen ∧
    (0 < l.length → ∃ b off, A = some ⟨b, off, none⟩ ∧ b < B ∧ ∀ i x, l[i]? = some x → w.cell? ⟨b, off + i, none⟩ = some (f x))

theorem Sl.keep (h : Sl w B f v l) (hB : B ≤ B') (hk : ∀ b o, b < B → w'.cell? ⟨b, o, none⟩ = w.cell? ⟨b, o, none⟩) : Sl w' B' f v l := by
  obtain ⟨A, cap, rfl, hl, hc, hx⟩ := h
  refine ⟨A, cap, rfl, hl, hc, fun h0 => ?_⟩
  obtain ⟨b, off, rfl, hb, hcell⟩ := hx h0
  exact ⟨b, off, rfl, by omega, fun i x hi => (hk _ _ hb).trans (hcell i x hi)⟩

theorem Sl.below (h : Sl w B f v l) (hb : Below B w w') : Sl w' B f v l := h.keep (Nat.le_refl _) fun b o hlt => hb.cell (p := ⟨b, o, none⟩) hlt
theorem Sl.more (h : Sl w B f v l) (hB : B ≤ B') : Sl w B' f v l := h.keep hB fun _ _ _ => rfl
theorem Sl.alloc (h : Sl w B f v l) (hB : B ≤ w.heap.size) (o : Obj) : Sl (w.alloc o) B f v l :=
  h.keep (Nat.le_refl _) fun b _ hlt => World.cell?_alloc_lt w o ⟨b, _, none⟩ (show b < w.heap.size by omega)
theorem Sl.nil_ (w : World) (B : Nat) (f : α → Value) : Sl w B f (.slice none 0 0) [] := ⟨none, 0, rfl, Nat.le_refl _, Nat.zero_le _, fun h => absurd h (by simp)⟩

/-- An element: the slice's address is there, and the cell. -/
theorem Sl.at_ {A : Option Addr} {n cap k : Nat} (h : Sl w B f (.slice A n cap) l) (hk : k < l.length) :
    ∃ b off, A = some ⟨b, off, none⟩ ∧ b < B ∧ w.cell? ⟨b, off + k, none⟩ = some (f l[k]) := by
  obtain ⟨A', cap', hv, _, _, hx⟩ := h
  obtain ⟨b, off, rfl, hb, hc⟩ := hx (by omega)
  simp only [Value.slice.injEq] at hv
  exact ⟨b, off, hv.1, hb, hc k _ (List.getElem?_eq_getElem hk)⟩
theorem Sl.form (h : Sl w B f v l) : ∃ A cap, v = .slice A l.length cap ∧ l.length ≤ cap ∧ cap ≤ maxLen := by
  obtain ⟨A, cap, h1, h2, h3, _⟩ := h
  exact ⟨A, cap, h1, h2, h3⟩

/-- A slice of the call's own reads as a list. -/
theorem Sl.of_own {base : Nat} {e : TypeId} (h : w.ownsRow base e 1 v l.length (l.map f)) : Sl w w.heap.size f v l := by
  obtain ⟨_, h2⟩ := h
  rcases h2 with ⟨rfl, h0⟩ | ⟨g, cap, cur, rfl, hb, hg, hn, hm, hs, ht⟩
  · obtain rfl : l = [] := List.eq_nil_of_length_eq_zero h0
    exact Sl.nil_ _ _ _
  · refine ⟨_, cap, rfl, hn, hm, fun _ => ⟨g, 0, rfl, ?_, fun i x hi => ?_⟩⟩
    · rcases Nat.lt_or_ge g w.heap.size with hlt | hge
      · exact hlt
      · rw [Array.getElem?_eq_none hge] at hg; cases hg
    · rw [cell_of_row w g _ cur e (0, 0) hg]
      have hlt : i < l.length := (List.getElem?_eq_some_iff.1 hi).1
      have : (l.map f)[i]? = some (f x) := by rw [List.getElem?_map, hi]; rfl
      rw [← ht, List.getElem?_take, if_pos (by omega)] at this
      simpa using this

/-- The first n of a slice of the call's own, with its spare room known. -/
def Lent (w : World) (base : Nat) (e : TypeId) (f : α → Value) (v : Value) (n : Nat) (l : List α) : Prop :=
  ∃ g cap, v = .slice (some ⟨g, 0, none⟩) n cap ∧ n ≤ l.length ∧ w.ownsRow base e 1 (.slice (some ⟨g, 0, none⟩) l.length cap) l.length (l.map f)
end

/-- Old cells and old marks read as before, in the walk's own form. -/
theorem bcell {B : Nat} {W w1 : World} (hb : Below B W w1) :
    (∀ b o, b < B → w1.cell? ⟨b, o, none⟩ = W.cell? ⟨b, o, none⟩) ∧ (∀ b o, b < B → w1.frozen? ⟨b, o, none⟩ = W.frozen? ⟨b, o, none⟩) :=
  ⟨fun b o h => hb.cell (p := ⟨b, o, none⟩) h, fun b o h => hb.frozen (p := ⟨b, o, none⟩) h⟩

theorem own_kept {w w' : World} {base : Nat} {e : TypeId} {size : Nat} {v : Value} {n : Nat} {xs : List Value} (h : w.ownsRow base e size v n xs) (hb : Below w.heap.size w w') : w'.ownsRow base e size v n xs := by
  refine ⟨h.1, ?_⟩
  rcases h.2 with hn | ⟨g, cap, cur, rfl, hbb, hgg, rest⟩
  · exact .inl hn
  · refine .inr ⟨g, cap, cur, rfl, hbb, ?_, rest⟩
    rw [hb.block g (by
      rcases Nat.lt_or_ge g w.heap.size with hlt | hge
      · exact hlt
      · rw [Array.getElem?_eq_none hge] at hgg; cases hgg)]
    exact hgg

theorem Lent.below {α : Type} {w w' : World} {base : Nat} {e : TypeId} {f : α → Value} {v : Value} {n : Nat} {l : List α} (h : Lent w base e f v n l) (hb : Below w.heap.size w w') : Lent w' base e f v n l := by
  obtain ⟨g, cap, rfl, hn, ho⟩ := h
  exact ⟨g, cap, rfl, hn, own_kept ho hb⟩

/-- One cell just laid: what 'append(out, x)' reads. -/
theorem one_new (w : World) (u : Value) (t : TypeId) : ∀ (j : Nat) (x : Value), [u][j]? = some x → (w.alloc (.cells #[u] t)).cell? ((⟨w.heap.size, 0, none⟩ : Addr).add j) = some x := by
  intro j x hj
  match j, hj with
  | 0, hj => simp at hj; subst hj; simp [Addr.add]

/-- What a round that appends one element does to the relation. -/
theorem Round.step {B : Nat} {w wr w1 : World} {e : TypeId} {size : Nat} {o v' : Value} {c : Array Value} {n n' : Nat} {xs ys zs : List Value} {t : TypeId} (hbel : Below B w wr) (hown : wr.ownsRow B e size o n xs)
    (hown' : w1.ownsRow B e size v' n' zs) (hg : (wr.alloc (.cells c t)).grownBy w1 o.ownBlock) (hB : B ≤ wr.heap.size := by (first | exact Below.size ‹_› | omega)) (hxs : zs = ys) :
    w1.ownsRow B e size v' n' ys ∧ Below B w w1 := by
  subst hxs
  refine ⟨hown', (hbel.alloc hB _).grown hg (by simp; omega) fun k hk => ?_⟩
  exact (hown.lt k hk).1

theorem own_form {w : World} {base : Nat} {e : TypeId} {size : Nat} {v : Value} {n : Nat} {xs : List Value} (h : w.ownsRow base e size v n xs) (hn : 0 < n) : ∃ g cap, v = .slice (some ⟨g, 0, none⟩) n cap ∧ n ≤ cap ∧ cap ≤ 9223372036854775807 := by
  rcases h.2 with ⟨_, h0⟩ | ⟨g, cap, cur, rfl, _, _, h1, h2, _⟩
  · omega
  · exact ⟨g, cap, rfl, h1, by unfold maxLen at h2; omega⟩

theorem own_cap {w : World} {base g : Nat} {e : TypeId} {size : Nat} {n cap : Nat} {xs : List Value} (h : w.ownsRow base e size (.slice (some ⟨g, 0, none⟩) n cap) n xs) : n ≤ cap ∧ cap ≤ 9223372036854775807 := by
  rcases h.2 with ⟨h0, _⟩ | ⟨g', cap', cur, h0, _, _, h1, h2, _⟩
  · simp at h0
  · simp only [Value.slice.injEq] at h0
    obtain ⟨_, _, rfl⟩ := h0
    exact ⟨h1, by unfold maxLen at h2; omega⟩

theorem own_base {w : World} {base base' : Nat} {e : TypeId} {size : Nat} {v : Value} {n : Nat} {xs : List Value} (h : w.ownsRow base e size v n xs) (hB : base' ≤ base) : w.ownsRow base' e size v n xs := by
  refine ⟨h.1, ?_⟩
  rcases h.2 with h2 | ⟨g, cap, cur, hv, hg, rest⟩
  · exact .inl h2
  · exact .inr ⟨g, cap, cur, hv, by omega, rest⟩
theorem Lent.base {α : Type} {w : World} {base base' : Nat} {e : TypeId} {f : α → Value} {v : Value} {n : Nat} {l : List α} (h : Lent w base e f v n l) (hB : base' ≤ base) : Lent w base' e f v n l := by
  obtain ⟨g, cap, rfl, hn, ho⟩ := h
  exact ⟨g, cap, rfl, hn, own_base ho hB⟩
theorem Lent.setCell {α : Type} {w : World} {base : Nat} {e : TypeId} {f : α → Value} {v : Value} {n : Nat} {l : List α} (h : Lent w base e f v n l) {p : Addr} (hp : p.block < base) (u : Value) : Lent (w.setCell p u) base e f v n l := by
  obtain ⟨g, cap, rfl, hn, ho⟩ := h
  exact ⟨g, cap, rfl, hn, ownsRow_setCell_below ho hp u⟩
theorem Sl.at_below {α : Type} {w W : World} {f : α → Value} {v : Value} {l : List α} (h : Sl w w.heap.size f v l) (hb : Below w.heap.size w W) : Sl W W.heap.size f v l := (h.below hb).more hb.size

theorem below_drewN {B : Nat} {a w : World} (h : Below B a w) (n : Nat) : Below B a (w.drewN n) := ⟨h.os, h.tape, h.output, h.size, h.block⟩

theorem ret_int {k : IntKind} {a b : Int} (h : a = b) : Ending.returned (.int k a) = .returned (.int k b) := by rw [h]
theorem ret_bool {a b : Bool} (h : a = b) : Ending.returned (.bool a) = .returned (.bool b) := by rw [h]
theorem ret_int2 {k j : IntKind} {a b c d : Int} (h : a = b) (h' : c = d) : Ending.returned (.tuple #[.int k a, .int j c]) = .returned (.tuple #[.int k b, .int j d]) := by rw [h, h']

theorem own_made {w : World} {base : Nat} {e : TypeId} {z : Value} (n c : Nat) (hn : n ≤ c) (hm : c ≤ 9223372036854775807) (hb : base ≤ w.heap.size) :
    (w.alloc (.cells (madeCells #[z] c) e)).ownsRow base e 1 (.slice (some ⟨w.heap.size, 0, none⟩) n c) n (List.replicate n z) := by
  refine ⟨by simp, .inr ⟨w.heap.size, c, madeCells #[z] c, rfl, hb, heap_alloc_new w _, hn, by unfold maxLen; omega, by rw [size_madeCells]; omega, ?_⟩⟩
  rw [toList_madeCells_one, Nat.mul_one, List.take_replicate, Nat.min_eq_left hn]

/-- Block g is just the cells cs, of element type t; none is frozen. -/
def Has (w : World) (g : Nat) (t : TypeId) (cs : Array Value) : Prop := w.heap[g]? = some (.cells cs t (0, 0))
theorem Has.lt {w : World} {g : Nat} {t : TypeId} {cs : Array Value} (h : Has w g t cs) : g < w.heap.size := by
  rcases Nat.lt_or_ge g w.heap.size with h1 | h1
  · exact h1
  · unfold Has at h; rw [Array.getElem?_eq_none h1] at h; cases h
theorem Has.cell {w : World} {g : Nat} {t : TypeId} {cs : Array Value} (h : Has w g t cs) (i : Nat) : w.cell? ⟨g, i, none⟩ = cs[i]? := cell_of_row w g i cs t (0, 0) h
theorem Has.frozen {w : World} {g : Nat} {t : TypeId} {cs : Array Value} (h : Has w g t cs) (i : Nat) : w.frozen? ⟨g, i, none⟩ = false := frozen_of_row w g i cs t h
theorem Has.new (w : World) (t : TypeId) (cs : Array Value) : Has (w.alloc (.cells cs t)) w.heap.size t cs := heap_alloc_new w _
theorem Has.alloc {w : World} {g : Nat} {t : TypeId} {cs : Array Value} (h : Has w g t cs) (o : Obj) : Has (w.alloc o) g t cs := (heap_alloc_old w o h.lt).trans h
theorem Has.drew {w : World} {g : Nat} {t : TypeId} {cs : Array Value} (h : Has w g t cs) : Has w.drew g t cs := h
theorem Has.set {w : World} {g : Nat} {t : TypeId} {cs : Array Value} (h : Has w g t cs) (i : Nat) (u : Value) : Has (w.setCell ⟨g, i, none⟩ u) g t (cs.setIfInBounds i u) := heap_setCell_same w g i cs t u h
theorem Has.far {w : World} {g : Nat} {t : TypeId} {cs : Array Value} (h : Has w g t cs) {p : Addr} (hp : g ≠ p.block) (u : Value) : Has (w.setCell p u) g t cs := (heap_setCell_other w p g u hp).trans h
theorem Has.below {B : Nat} {w w' : World} {g : Nat} {t : TypeId} {cs : Array Value} (h : Has w g t cs) (hb : Below B w w') (hg : g < B) : Has w' g t cs := (hb.block g hg).trans h
theorem Has.grown {row : Option Nat} {w w' : World} {g : Nat} {t : TypeId} {cs : Array Value} (h : Has w g t cs) (hb : w.grownBy w' row) (hg : some g ≠ row) : Has w' g t cs := (hb.block g h.lt hg).trans h
/-- Only cells of block g have turned. -/
theorem only_set {a w : World} {g : Nat} (h : a.grownBy w (some g)) (i : Nat) (u : Value) : a.grownBy (w.setCell ⟨g, i, none⟩ u) (some g) :=
  ⟨h.os, h.tape, h.output, by simpa using h.size, fun k hk hne => (heap_setCell_other w ⟨g, i, none⟩ k u (fun e => hne (by rw [e]))).trans (h.block k hk hne)⟩
/-- A row of one element type is no block of another one. -/
theorem own_has_ne {w : World} {base g : Nat} {e t : TypeId} {size n : Nat} {v : Value} {xs : List Value} {cs : Array Value} (h : w.ownsRow base e size v n xs) (hg : Has w g t cs) (hne : e ≠ t) : v.ownBlock ≠ some g := by
  rcases h.2 with ⟨rfl, _⟩ | ⟨g', cap, cur, rfl, _, hh, _⟩
  · simp [Value.ownBlock]
  · intro he
    have hgg : g' = g := by simpa [Value.ownBlock] using he
    subst hgg
    unfold Has at hg
    rw [hg] at hh
    simp only [Option.some.injEq, Obj.cells.injEq] at hh
    exact hne hh.2.1.symm
theorem own_far {w w' : World} {base g : Nat} {e t : TypeId} {size n : Nat} {v : Value} {xs : List Value} {cs : Array Value} (h : w.ownsRow base e size v n xs) (hg : Has w g t cs) (hne : e ≠ t) (hb : w.grownBy w' (some g)) : w'.ownsRow base e size v n xs :=
  h.kept hb (by
    have := own_has_ne h hg hne
    cases hv : v.ownBlock with
    | none => exact .inl rfl
    | some k => exact .inr (by rw [← hv]; exact this))
theorem below_only {B : Nat} {a w w' : World} {g : Nat} (h : Below B a w) (hb : w.grownBy w' (some g)) (hB : B ≤ w.heap.size) (hg : B ≤ g) : Below B a w' :=
  h.grown hb hB fun k hk => by cases hk; exact hg

/-- A whole list copied into a row that was made for it just now. -/
theorem copy_fresh {P : Program} {w : World} {base T ty e : Nat} {n cap : Nat} {A : Option Addr} {z : Value} {xs : List Value} (hu : P.underlying T = some (.slice e)) (hs : (P.info? e).map (·.size) = some 1)
    (hown : w.ownsRow base e 1 (.slice A n cap) n xs) (h1 : ∀ v ∈ xs, v.oneCell' = true) (hn : n ≤ 9223372036854775807) :
    ∃ w', (Builtin.copy_ #[T, T] ty #[.slice (some ⟨w.heap.size, 0, none⟩) n n, .slice A n cap]).run P (w.alloc (.cells (madeCells #[z] n) e)) = .ok (.int .i64 (n : Int)) w' ∧
      w'.ownsRow w.heap.size e 1 (.slice (some ⟨w.heap.size, 0, none⟩) n n) n xs ∧ Below w.heap.size w w' ∧ w'.heap.size = w.heap.size + 1 := by
  have hxl : xs.length = n := by simpa using hown.1
  have hnew : (w.alloc (.cells (madeCells #[z] n) e)).heap[w.heap.size]? = some (.cells (madeCells #[z] n) e (0, 0)) := heap_alloc_new w _
  rcases Nat.eq_zero_or_pos n with h0 | h0
  · subst h0
    obtain rfl : xs = [] := List.eq_nil_of_length_eq_zero hxl
    refine ⟨_, run_copy_none (P := P) _ T T ty e _ _ 0 0 0 cap hu hs (by simp), ?_, (Below.refl _ _).alloc (Nat.le_refl _) _, by simp⟩
    simpa using own_made (z := z) (e := e) (w := w) 0 0 (Nat.le_refl _) (by omega) (Nat.le_refl _)
  · rcases hown.2 with ⟨_, h⟩ | ⟨g, cap', cur, hv, _, hg, _, _, _, htake⟩
    · omega
    · obtain ⟨rfl, _, rfl⟩ : A = some ⟨g, 0, none⟩ ∧ n = n ∧ cap = cap' := by simpa using hv
      have hsrc : ∀ j v, xs[j]? = some v → (w.alloc (.cells (madeCells #[z] n) e)).cell? ((⟨g, 0, none⟩ : Addr).add j) = some v := by
        intro j v hj
        have h2 : ((⟨g, 0, none⟩ : Addr).add j) = ⟨g, j, none⟩ := by unfold Addr.add; split <;> simp_all
        have hlt : j < xs.length := (List.getElem?_eq_some_iff.1 hj).1
        have hgl : g < w.heap.size := by
          rcases Nat.lt_or_ge g w.heap.size with hh | hh
          · exact hh
          · rw [Array.getElem?_eq_none hh] at hg; cases hg
        rw [h2, World.cell?_alloc_lt w _ ⟨g, j, none⟩ hgl, cell_of_row w g j cur e (0, 0) hg]
        rw [← htake, List.getElem?_take, if_pos (by omega)] at hj
        simpa using hj
      refine ⟨(w.alloc (.cells (madeCells #[z] n) e)).setRow w.heap.size ((madeCells #[z] n).toList.take 0 ++ xs ++ (madeCells #[z] n).toList.drop (0 + xs.length)).toArray, ?_, ?_, below_setRow ((Below.refl _ _).alloc (Nat.le_refl _) _) (Nat.le_refl _) _, by simp⟩
      · exact (run_copy_row (P := P) (w.alloc (.cells (madeCells #[z] n) e)) T T ty e w.heap.size 0 n n ⟨g, 0, none⟩ n cap (madeCells #[z] n) e xs hu hs hnew (by rw [hxl]; simp) hsrc (by rw [size_madeCells]; omega) h1).trans (by rw [hxl]; rfl)
      · have hl : ((madeCells #[z] n).toList.take 0 ++ xs ++ (madeCells #[z] n).toList.drop (0 + xs.length)) = xs := by
          rw [toList_madeCells_one, List.drop_replicate]
          simp [hxl]
        rw [hl]
        refine ⟨by omega, .inr ⟨w.heap.size, n, xs.toArray, rfl, Nat.le_refl _, setRow_heap _ _ _ _ _ _ hnew, Nat.le_refl _, by unfold maxLen; omega, by simp [hxl], ?_⟩⟩
        simp [List.take_of_length_le, hxl]

theorem take_map_snoc {α : Type} (f : α → Value) (l : List α) (k : Nat) (h : k < l.length) : (l.map f).take k ++ [f l[k]] = (l.map f).take (k + 1) := by
  rw [List.take_succ_eq_append_getElem (by simpa using h), List.getElem_map]

theorem take_snoc {α : Type} (l : List α) (k : Nat) (h : k < l.length) : l.take (k + 1) = l.take k ++ [l[k]] := by
  rw [List.take_succ_eq_append_getElem h]
end Go.Bus
