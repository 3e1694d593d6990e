/- The lower texts of this claim, one behind the other: laws on lists, bits and rows, contracts of small functions. No condition but those that each states. -/
import Derived.WalkKit
import Derived.Lib.Hide
import Derived.Laws.OwnMore
import Derived.Laws.MakeOwn
import Derived.Laws.CopyOwn
import Derived.Deep.Draws
import Derived.ProofKit
import Derived.OpenShut
import Derived.ShutString
import Derived.ChangeOld
import Derived.Below
import Derived.SizedLaws
import Derived.Lib.SmallJoins
import Derived.Test.YthjjockimpndbaaDoorProg
import Derived.Deep.RegionLaw
import Derived.Deep.AppendLies
import Derived.Deep.QuietTactic
import Derived.BigQuiet
import Derived.Deep.Grids
import Derived.RegionTactic
import Derived.Deep.RegionWith
import Derived.Maps.AppendAt
import Derived.ArgAppend
import Derived.Outline
import Derived.WalkSpells

namespace Go.Bus
open Go.RowKit
set_option linter.unusedVariables false

section
variable {α : Type} {w w' : World} {B B' : Nat} {f : α → Value} {v : Value} {l : List α}

/-- The slice v reads as the list l, one cell an element; its cells lie in a block below B. -/
def Sl (w : World) (B : Nat) (f : α → Value) (v : Value) (l : List α) : Prop :=
  ∃ A cap, v = .slice A l.length cap ∧ l.length ≤ cap ∧ cap ≤ maxLen ∧
    (0 < l.length → ∃ b off, A = some ⟨b, off, none⟩ ∧ b < B ∧ ∀ i x, l[i]? = some x → w.cell? ⟨b, off + i, none⟩ = some (f x))

theorem Sl.keep (h : Sl w B f v l) (hB : B ≤ B') (hk : ∀ b o, b < B → w'.cell? ⟨b, o, none⟩ = w.cell? ⟨b, o, none⟩) : Sl w' B' f v l := by
  obtain ⟨A, cap, rfl, hl, hc, hx⟩ := h
  refine ⟨A, cap, rfl, hl, hc, fun h0 => ?_⟩
  obtain ⟨b, off, rfl, hb, hcell⟩ := hx h0
  exact ⟨b, off, rfl, by omega, fun i x hi => (hk _ _ hb).trans (hcell i x hi)⟩

theorem Sl.below (h : Sl w B f v l) (hb : Below B w w') : Sl w' B f v l := h.keep (Nat.le_refl _) fun b o hlt => hb.cell (p := ⟨b, o, none⟩) hlt
theorem Sl.more (h : Sl w B f v l) (hB : B ≤ B') : Sl w B' f v l := h.keep hB fun _ _ _ => rfl
theorem Sl.alloc (h : Sl w B f v l) (hB : B ≤ w.heap.size) (o : Obj) : Sl (w.alloc o) B f v l :=
  h.keep (Nat.le_refl _) fun b _ hlt => World.cell?_alloc_lt w o ⟨b, _, none⟩ (show b < w.heap.size by omega)
theorem Sl.nil_ (w : World) (B : Nat) (f : α → Value) : Sl w B f (.slice none 0 0) [] := ⟨none, 0, rfl, Nat.le_refl _, Nat.zero_le _, fun h => absurd h (by simp)⟩

/-- An element: the slice's address is there, and the cell. -/
theorem Sl.at_ {A : Option Addr} {n cap k : Nat} (h : Sl w B f (.slice A n cap) l) (hk : k < l.length) :
    ∃ b off, A = some ⟨b, off, none⟩ ∧ b < B ∧ w.cell? ⟨b, off + k, none⟩ = some (f l[k]) := by
  obtain ⟨A', cap', hv, _, _, hx⟩ := h
  obtain ⟨b, off, rfl, hb, hc⟩ := hx (by omega)
  simp only [Value.slice.injEq] at hv
  exact ⟨b, off, hv.1, hb, hc k _ (List.getElem?_eq_getElem hk)⟩
theorem Sl.form (h : Sl w B f v l) : ∃ A cap, v = .slice A l.length cap ∧ l.length ≤ cap ∧ cap ≤ maxLen := by
  obtain ⟨A, cap, h1, h2, h3, _⟩ := h
  exact ⟨A, cap, h1, h2, h3⟩

/-- A slice of the call's own reads as a list. -/
theorem Sl.of_own {base : Nat} {e : TypeId} (h : w.ownsRow base e 1 v l.length (l.map f)) : Sl w w.heap.size f v l := by
  obtain ⟨_, h2⟩ := h
  rcases h2 with ⟨rfl, h0⟩ | ⟨g, cap, cur, rfl, hb, hg, hn, hm, hs, ht⟩
  · obtain rfl : l = [] := List.eq_nil_of_length_eq_zero h0
    exact Sl.nil_ _ _ _
  · refine ⟨_, cap, rfl, hn, hm, fun _ => ⟨g, 0, rfl, ?_, fun i x hi => ?_⟩⟩
    · rcases Nat.lt_or_ge g w.heap.size with hlt | hge
      · exact hlt
      · rw [Array.getElem?_eq_none hge] at hg; cases hg
    · rw [cell_of_row w g _ cur e (0, 0) hg]
      have hlt : i < l.length := (List.getElem?_eq_some_iff.1 hi).1
      have : (l.map f)[i]? = some (f x) := by rw [List.getElem?_map, hi]; rfl
      rw [← ht, List.getElem?_take, if_pos (by omega)] at this
      simpa using this

/-- The first n of a slice of the call's own, with its spare room known. -/
def Lent (w : World) (base : Nat) (e : TypeId) (f : α → Value) (v : Value) (n : Nat) (l : List α) : Prop :=
  ∃ g cap, v = .slice (some ⟨g, 0, none⟩) n cap ∧ n ≤ l.length ∧ w.ownsRow base e 1 (.slice (some ⟨g, 0, none⟩) l.length cap) l.length (l.map f)
end

/-- Old cells and old marks read as before, in the walk's own form. -/
theorem bcell {B : Nat} {W w1 : World} (hb : Below B W w1) :
    (∀ b o, b < B → w1.cell? ⟨b, o, none⟩ = W.cell? ⟨b, o, none⟩) ∧ (∀ b o, b < B → w1.frozen? ⟨b, o, none⟩ = W.frozen? ⟨b, o, none⟩) :=
  ⟨fun b o h => hb.cell (p := ⟨b, o, none⟩) h, fun b o h => hb.frozen (p := ⟨b, o, none⟩) h⟩

theorem own_kept {w w' : World} {base : Nat} {e : TypeId} {size : Nat} {v : Value} {n : Nat} {xs : List Value} (h : w.ownsRow base e size v n xs) (hb : Below w.heap.size w w') : w'.ownsRow base e size v n xs := by
  refine ⟨h.1, ?_⟩
  rcases h.2 with hn | ⟨g, cap, cur, rfl, hbb, hgg, rest⟩
  · exact .inl hn
  · refine .inr ⟨g, cap, cur, rfl, hbb, ?_, rest⟩
    rw [hb.block g (by
      rcases Nat.lt_or_ge g w.heap.size with hlt | hge
      · exact hlt
      · rw [Array.getElem?_eq_none hge] at hgg; cases hgg)]
    exact hgg

theorem Lent.below {α : Type} {w w' : World} {base : Nat} {e : TypeId} {f : α → Value} {v : Value} {n : Nat} {l : List α} (h : Lent w base e f v n l) (hb : Below w.heap.size w w') : Lent w' base e f v n l := by
  obtain ⟨g, cap, rfl, hn, ho⟩ := h
  exact ⟨g, cap, rfl, hn, own_kept ho hb⟩

/-- One cell just laid: what 'append(out, x)' reads. -/
theorem one_new (w : World) (u : Value) (t : TypeId) : ∀ (j : Nat) (x : Value), [u][j]? = some x → (w.alloc (.cells #[u] t)).cell? ((⟨w.heap.size, 0, none⟩ : Addr).add j) = some x := by
  intro j x hj
  match j, hj with
  | 0, hj => simp at hj; subst hj; simp [Addr.add]

/-- What a round that appends one element does to the relation. -/
theorem Round.step {B : Nat} {w wr w1 : World} {e : TypeId} {size : Nat} {o v' : Value} {c : Array Value} {n n' : Nat} {xs ys zs : List Value} {t : TypeId} (hbel : Below B w wr) (hown : wr.ownsRow B e size o n xs)
    (hown' : w1.ownsRow B e size v' n' zs) (hg : (wr.alloc (.cells c t)).grownBy w1 o.ownBlock) (hB : B ≤ wr.heap.size := by (first | exact Below.size ‹_› | omega)) (hxs : zs = ys) :
    w1.ownsRow B e size v' n' ys ∧ Below B w w1 := by
  subst hxs
  refine ⟨hown', (hbel.alloc hB _).grown hg (by simp; omega) fun k hk => ?_⟩
  exact (hown.lt k hk).1

theorem own_form {w : World} {base : Nat} {e : TypeId} {size : Nat} {v : Value} {n : Nat} {xs : List Value} (h : w.ownsRow base e size v n xs) (hn : 0 < n) : ∃ g cap, v = .slice (some ⟨g, 0, none⟩) n cap ∧ n ≤ cap ∧ cap ≤ 9223372036854775807 := by
  rcases h.2 with ⟨_, h0⟩ | ⟨g, cap, cur, rfl, _, _, h1, h2, _⟩
  · omega
  · exact ⟨g, cap, rfl, h1, by unfold maxLen at h2; omega⟩

theorem own_cap {w : World} {base g : Nat} {e : TypeId} {size : Nat} {n cap : Nat} {xs : List Value} (h : w.ownsRow base e size (.slice (some ⟨g, 0, none⟩) n cap) n xs) : n ≤ cap ∧ cap ≤ 9223372036854775807 := by
  rcases h.2 with ⟨h0, _⟩ | ⟨g', cap', cur, h0, _, _, h1, h2, _⟩
  · simp at h0
  · simp only [Value.slice.injEq] at h0
    obtain ⟨_, _, rfl⟩ := h0
    exact ⟨h1, by unfold maxLen at h2; omega⟩

theorem own_base {w : World} {base base' : Nat} {e : TypeId} {size : Nat} {v : Value} {n : Nat} {xs : List Value} (h : w.ownsRow base e size v n xs) (hB : base' ≤ base) : w.ownsRow base' e size v n xs := by
  refine ⟨h.1, ?_⟩
  rcases h.2 with h2 | ⟨g, cap, cur, hv, hg, rest⟩
  · exact .inl h2
  · exact .inr ⟨g, cap, cur, hv, by omega, rest⟩
theorem Lent.base {α : Type} {w : World} {base base' : Nat} {e : TypeId} {f : α → Value} {v : Value} {n : Nat} {l : List α} (h : Lent w base e f v n l) (hB : base' ≤ base) : Lent w base' e f v n l := by
  obtain ⟨g, cap, rfl, hn, ho⟩ := h
  exact ⟨g, cap, rfl, hn, own_base ho hB⟩
theorem Lent.setCell {α : Type} {w : World} {base : Nat} {e : TypeId} {f : α → Value} {v : Value} {n : Nat} {l : List α} (h : Lent w base e f v n l) {p : Addr} (hp : p.block < base) (u : Value) : Lent (w.setCell p u) base e f v n l := by
  obtain ⟨g, cap, rfl, hn, ho⟩ := h
  exact ⟨g, cap, rfl, hn, ownsRow_setCell_below ho hp u⟩
theorem Sl.at_below {α : Type} {w W : World} {f : α → Value} {v : Value} {l : List α} (h : Sl w w.heap.size f v l) (hb : Below w.heap.size w W) : Sl W W.heap.size f v l := (h.below hb).more hb.size

theorem below_drewN {B : Nat} {a w : World} (h : Below B a w) (n : Nat) : Below B a (w.drewN n) := ⟨h.os, h.tape, h.output, h.size, h.block⟩

theorem ret_int {k : IntKind} {a b : Int} (h : a = b) : Ending.returned (.int k a) = .returned (.int k b) := by rw [h]
theorem ret_bool {a b : Bool} (h : a = b) : Ending.returned (.bool a) = .returned (.bool b) := by rw [h]
theorem ret_int2 {k j : IntKind} {a b c d : Int} (h : a = b) (h' : c = d) : Ending.returned (.tuple #[.int k a, .int j c]) = .returned (.tuple #[.int k b, .int j d]) := by rw [h, h']

theorem own_made {w : World} {base : Nat} {e : TypeId} {z : Value} (n c : Nat) (hn : n ≤ c) (hm : c ≤ 9223372036854775807) (hb : base ≤ w.heap.size) :
    (w.alloc (.cells (madeCells #[z] c) e)).ownsRow base e 1 (.slice (some ⟨w.heap.size, 0, none⟩) n c) n (List.replicate n z) := by
  refine ⟨by simp, .inr ⟨w.heap.size, c, madeCells #[z] c, rfl, hb, heap_alloc_new w _, hn, by unfold maxLen; omega, by rw [size_madeCells]; omega, ?_⟩⟩
  rw [toList_madeCells_one, Nat.mul_one, List.take_replicate, Nat.min_eq_left hn]

/-- Block g is just the cells cs, of element type t; none is frozen. -/
def Has (w : World) (g : Nat) (t : TypeId) (cs : Array Value) : Prop := w.heap[g]? = some (.cells cs t (0, 0))
theorem Has.lt {w : World} {g : Nat} {t : TypeId} {cs : Array Value} (h : Has w g t cs) : g < w.heap.size := by
  rcases Nat.lt_or_ge g w.heap.size with h1 | h1
  · exact h1
  · unfold Has at h; rw [Array.getElem?_eq_none h1] at h; cases h
theorem Has.cell {w : World} {g : Nat} {t : TypeId} {cs : Array Value} (h : Has w g t cs) (i : Nat) : w.cell? ⟨g, i, none⟩ = cs[i]? := cell_of_row w g i cs t (0, 0) h
theorem Has.frozen {w : World} {g : Nat} {t : TypeId} {cs : Array Value} (h : Has w g t cs) (i : Nat) : w.frozen? ⟨g, i, none⟩ = false := frozen_of_row w g i cs t h
theorem Has.new (w : World) (t : TypeId) (cs : Array Value) : Has (w.alloc (.cells cs t)) w.heap.size t cs := heap_alloc_new w _
theorem Has.alloc {w : World} {g : Nat} {t : TypeId} {cs : Array Value} (h : Has w g t cs) (o : Obj) : Has (w.alloc o) g t cs := (heap_alloc_old w o h.lt).trans h
theorem Has.drew {w : World} {g : Nat} {t : TypeId} {cs : Array Value} (h : Has w g t cs) : Has w.drew g t cs := h
theorem Has.set {w : World} {g : Nat} {t : TypeId} {cs : Array Value} (h : Has w g t cs) (i : Nat) (u : Value) : Has (w.setCell ⟨g, i, none⟩ u) g t (cs.setIfInBounds i u) := heap_setCell_same w g i cs t u h
theorem Has.far {w : World} {g : Nat} {t : TypeId} {cs : Array Value} (h : Has w g t cs) {p : Addr} (hp : g ≠ p.block) (u : Value) : Has (w.setCell p u) g t cs := (heap_setCell_other w p g u hp).trans h
theorem Has.below {B : Nat} {w w' : World} {g : Nat} {t : TypeId} {cs : Array Value} (h : Has w g t cs) (hb : Below B w w') (hg : g < B) : Has w' g t cs := (hb.block g hg).trans h
theorem Has.grown {row : Option Nat} {w w' : World} {g : Nat} {t : TypeId} {cs : Array Value} (h : Has w g t cs) (hb : w.grownBy w' row) (hg : some g ≠ row) : Has w' g t cs := (hb.block g h.lt hg).trans h
/-- Only cells of block g have turned. -/
theorem only_set {a w : World} {g : Nat} (h : a.grownBy w (some g)) (i : Nat) (u : Value) : a.grownBy (w.setCell ⟨g, i, none⟩ u) (some g) :=
  ⟨h.os, h.tape, h.output, by simpa using h.size, fun k hk hne => (heap_setCell_other w ⟨g, i, none⟩ k u (fun e => hne (by rw [e]))).trans (h.block k hk hne)⟩
/-- A row of one element type is no block of another one. -/
theorem own_has_ne {w : World} {base g : Nat} {e t : TypeId} {size n : Nat} {v : Value} {xs : List Value} {cs : Array Value} (h : w.ownsRow base e size v n xs) (hg : Has w g t cs) (hne : e ≠ t) : v.ownBlock ≠ some g := by
  rcases h.2 with ⟨rfl, _⟩ | ⟨g', cap, cur, rfl, _, hh, _⟩
  · simp [Value.ownBlock]
  · intro he
    have hgg : g' = g := by simpa [Value.ownBlock] using he
    subst hgg
    unfold Has at hg
    rw [hg] at hh
    simp only [Option.some.injEq, Obj.cells.injEq] at hh
    exact hne hh.2.1.symm
theorem own_far {w w' : World} {base g : Nat} {e t : TypeId} {size n : Nat} {v : Value} {xs : List Value} {cs : Array Value} (h : w.ownsRow base e size v n xs) (hg : Has w g t cs) (hne : e ≠ t) (hb : w.grownBy w' (some g)) : w'.ownsRow base e size v n xs :=
  h.kept hb (by
    have := own_has_ne h hg hne
    cases hv : v.ownBlock with
    | none => exact .inl rfl
    | some k => exact .inr (by rw [← hv]; exact this))
theorem below_only {B : Nat} {a w w' : World} {g : Nat} (h : Below B a w) (hb : w.grownBy w' (some g)) (hB : B ≤ w.heap.size) (hg : B ≤ g) : Below B a w' :=
  h.grown hb hB fun k hk => by cases hk; exact hg

/-- A whole list copied into a row that was made for it just now. -/
theorem copy_fresh {P : Program} {w : World} {base T ty e : Nat} {n cap : Nat} {A : Option Addr} {z : Value} {xs : List Value} (hu : P.underlying T = some (.slice e)) (hs : (P.info? e).map (·.size) = some 1)
    (hown : w.ownsRow base e 1 (.slice A n cap) n xs) (h1 : ∀ v ∈ xs, v.oneCell' = true) (hn : n ≤ 9223372036854775807) :
    ∃ w', (Builtin.copy_ #[T, T] ty #[.slice (some ⟨w.heap.size, 0, none⟩) n n, .slice A n cap]).run P (w.alloc (.cells (madeCells #[z] n) e)) = .ok (.int .i64 (n : Int)) w' ∧
      w'.ownsRow w.heap.size e 1 (.slice (some ⟨w.heap.size, 0, none⟩) n n) n xs ∧ Below w.heap.size w w' ∧ w'.heap.size = w.heap.size + 1 := by
  have hxl : xs.length = n := by simpa using hown.1
  have hnew : (w.alloc (.cells (madeCells #[z] n) e)).heap[w.heap.size]? = some (.cells (madeCells #[z] n) e (0, 0)) := heap_alloc_new w _
  rcases Nat.eq_zero_or_pos n with h0 | h0
  · subst h0
    obtain rfl : xs = [] := List.eq_nil_of_length_eq_zero hxl
    refine ⟨_, run_copy_none (P := P) _ T T ty e _ _ 0 0 0 cap hu hs (by simp), ?_, (Below.refl _ _).alloc (Nat.le_refl _) _, by simp⟩
    simpa using own_made (z := z) (e := e) (w := w) 0 0 (Nat.le_refl _) (by omega) (Nat.le_refl _)
  · rcases hown.2 with ⟨_, h⟩ | ⟨g, cap', cur, hv, _, hg, _, _, _, htake⟩
    · omega
    · obtain ⟨rfl, _, rfl⟩ : A = some ⟨g, 0, none⟩ ∧ n = n ∧ cap = cap' := by simpa using hv
      have hsrc : ∀ j v, xs[j]? = some v → (w.alloc (.cells (madeCells #[z] n) e)).cell? ((⟨g, 0, none⟩ : Addr).add j) = some v := by
        intro j v hj
        have h2 : ((⟨g, 0, none⟩ : Addr).add j) = ⟨g, j, none⟩ := by unfold Addr.add; split <;> simp_all
        have hlt : j < xs.length := (List.getElem?_eq_some_iff.1 hj).1
        have hgl : g < w.heap.size := by
          rcases Nat.lt_or_ge g w.heap.size with hh | hh
          · exact hh
          · rw [Array.getElem?_eq_none hh] at hg; cases hg
        rw [h2, World.cell?_alloc_lt w _ ⟨g, j, none⟩ hgl, cell_of_row w g j cur e (0, 0) hg]
        rw [← htake, List.getElem?_take, if_pos (by omega)] at hj
        simpa using hj
      refine ⟨(w.alloc (.cells (madeCells #[z] n) e)).setRow w.heap.size ((madeCells #[z] n).toList.take 0 ++ xs ++ (madeCells #[z] n).toList.drop (0 + xs.length)).toArray, ?_, ?_, below_setRow ((Below.refl _ _).alloc (Nat.le_refl _) _) (Nat.le_refl _) _, by simp⟩
      · exact (run_copy_row (P := P) (w.alloc (.cells (madeCells #[z] n) e)) T T ty e w.heap.size 0 n n ⟨g, 0, none⟩ n cap (madeCells #[z] n) e xs hu hs hnew (by rw [hxl]; simp) hsrc (by rw [size_madeCells]; omega) h1).trans (by rw [hxl]; rfl)
      · have hl : ((madeCells #[z] n).toList.take 0 ++ xs ++ (madeCells #[z] n).toList.drop (0 + xs.length)) = xs := by
          rw [toList_madeCells_one, List.drop_replicate]
          simp [hxl]
        rw [hl]
        refine ⟨by omega, .inr ⟨w.heap.size, n, xs.toArray, rfl, Nat.le_refl _, setRow_heap _ _ _ _ _ _ hnew, Nat.le_refl _, by unfold maxLen; omega, by simp [hxl], ?_⟩⟩
        simp [List.take_of_length_le, hxl]

theorem take_map_snoc {α : Type} (f : α → Value) (l : List α) (k : Nat) (h : k < l.length) : (l.map f).take k ++ [f l[k]] = (l.map f).take (k + 1) := by
  rw [List.take_succ_eq_append_getElem (by simpa using h), List.getElem_map]

theorem take_snoc {α : Type} (l : List α) (k : Nat) (h : k < l.length) : l.take (k + 1) = l.take k ++ [l[k]] := by
  rw [List.take_succ_eq_append_getElem h]
end Go.Bus

namespace Go.Bus
open Go.RowKit Go.ChangeShapes Go.WideShapes
set_option linter.unusedVariables false

section
variable {H : Type} {enc : TypeId × Value → H} {P : Program} {w : World}

theorem wf_u32 {n : Int} (h : (Lit.int .u32 n).wf = true) : 0 ≤ n ∧ n < 4294967296 := by
  simp [Lit.wf, IntKind.min, IntKind.max, IntKind.signed, IntKind.bits] at h; omega
theorem wf_u64 {n : Int} (h : (Lit.int .u64 n).wf = true) : 0 ≤ n ∧ n < 18446744073709551616 := by
  simp [Lit.wf, IntKind.min, IntKind.max, IntKind.signed, IntKind.bits] at h; omega
theorem wf_u8 {n : Int} (h : (Lit.int .u8 n).wf = true) : 0 ≤ n ∧ n < 256 := by
  simp [Lit.wf, IntKind.min, IntKind.max, IntKind.signed, IntKind.bits] at h; omega
theorem wf_i64 {n : Int} (h : (Lit.int .i64 n).wf = true) : -9223372036854775808 ≤ n ∧ n ≤ 9223372036854775807 := by
  simp [Lit.wf, IntKind.min, IntKind.max, IntKind.signed, IntKind.bits] at h; omega

/-- A slice of integers that came in: a list; and no longer than the form's reach. -/
theorem open_sl {t e : TypeId} {k : IntKind} {n : Nat} {v : Value} {y : DataW H × List MemPlace} (ht : P.underlying t = some (.slice e)) (he : P.underlying e = some (.int k)) (hc : P.cellsOf e = 1)
    (h : DataW.trod enc P w 0 (fun _ => true) true n t [v] = some y) :
    ∃ l : List Int, Sl w w.heap.size (Value.int k) v l ∧ (∀ x ∈ l, (Lit.int k x).wf = true) ∧ ((∀ m ∈ y.1.weights P t, m ≤ reachBytes) → l.length * P.bytesOf e ≤ 140737488351232) := by
  rcases open_ints ht he hc h with ⟨hcs, hx⟩ | ⟨a, len, cap, zs, hcs, _, hl, hm, hz, hx, hcell, hwf⟩
  · obtain rfl : v = .slice none 0 0 := by simpa using hcs
    exact ⟨[], Sl.nil_ _ _ _, by simp, by simp⟩
  · obtain rfl : v = .slice (some a) len cap := by simpa using hcs
    have hz' : zs.length = cap := by simpa using hz
    have hll : (zs.take len).length = len := by rw [List.length_take]; omega
    refine ⟨zs.take len, ⟨some a, cap, by rw [hll], by omega, hm, fun h0 => ?_⟩, fun x hx => hwf x (List.mem_of_mem_take hx), fun hw => ?_⟩
    · have h1 := hcell 0 (by omega)
      obtain ⟨b, off, spot⟩ := a
      have hspot : spot = none := by simpa [Addr.add] using World.cell?_spot h1
      subst hspot
      refine ⟨b, off, rfl, World.block_lt_of_cell? w ⟨b, off, none⟩ (by simpa [Addr.add] using h1), fun i x hi => ?_⟩
      obtain ⟨hi1, hi2⟩ := List.getElem?_eq_some_iff.1 hi
      have h2 := hcell i (by omega)
      have h3 : ((⟨b, off, none⟩ : Addr).add i) = ⟨b, off + i, none⟩ := by unfold Addr.add; split <;> simp_all
      rw [h3] at h2
      rw [h2, ← hi2, List.getElem_take, List.getD_eq_getElem?_getD, List.getElem?_eq_getElem (by omega)]
      rfl
    · subst hx
      have := hw ((lits (H := H) k (zs.take len)).length * 1 * P.bytesOf e + (lits (H := H) k (zs.drop len)).length * P.bytesOf e) (by
        simp only [DataW.weights, ht, Nat.mul_one, Nat.add_mul]; exact List.mem_cons_self)
      simp only [lits, List.length_map, reachBytes, Nat.mul_one] at this
      omega
end
end Go.Bus

namespace Go.Proofs.YthjjockimpndbaaDoor
open Go.RowKit Go.Bus Go.Joins Go.ChangeShapes Go.WideShapes
set_option linter.unusedVariables false
namespace frameA
set_option maxRecDepth 100000 in
theorem open_frame {H : Type} {enc : TypeId × Value → H} {w : World} {r : Reach} {b0 : Nat} {v : Value} {d : DataW H} {p : List MemPlace} (hv : Value.okWide Tryd.prog w r b0 46 v)
    (h : DataW.Trod enc Tryd.prog w 0 (fun _ => true) true 46 v d p) (hw : ∀ m ∈ d.weights Tryd.prog 46, m ≤ reachBytes) :
    ∃ (id : Int) (wide : Bool) (sv : Value) (l : List Int), v = .agg #[.int .u32 id, .bool wide, sv] ∧ 0 ≤ id ∧ id < 4294967296 ∧ Sl w w.heap.size (Value.int .u8) sv l ∧ (∀ x ∈ l, 0 ≤ x ∧ x < 256) ∧ l.length ≤ 140737488351232 := by
  obtain ⟨c0, c1, c2, y0, y1, y2, m, rfl, rfl, rfl, h0, h1, h2⟩ := open_agg3 Tryd.underlying46 (by kernel_rfl) (by kernel_rfl) hv h
  obtain ⟨id, e0, _, w0⟩ := DataW.trod_int Tryd.underlying43 h0
  obtain ⟨wide, e1, _⟩ := DataW.trod_bool Tryd.underlying4 h1
  obtain rfl : c0 = .int .u32 id := by simpa using e0
  obtain rfl : c1 = .bool wide := by simpa using e1
  obtain ⟨l, hs, hwf, hb⟩ := open_sl Tryd.underlying44 Tryd.underlying5 (by kernel_rfl) h2
  have hid := wf_u32 w0
  have hb' := hb fun m hm => hw m (by
    simp only [DataW.weights, Tryd.underlying46, DataW.weightsEach, List.map_cons, List.map_nil, List.mem_append]
    exact Or.inr (Or.inr (Or.inl hm)))
  rw [show Tryd.prog.bytesOf 5 = 1 from by kernel_rfl] at hb'
  exact ⟨id, wide, c2, l, rfl, hid.1, hid.2, hs, fun x hx => wf_u8 (hwf x hx), by omega⟩

end frameA
end Go.Proofs.YthjjockimpndbaaDoor

namespace Go.Proofs.YthjjockimpndbaaDoor
open Go.RowKit Go.Bus Go.Joins Go.ChangeShapes Go.WideShapes
set_option linter.unusedVariables false
namespace intsA
theorem wf_int {n : Int} (h : (Lit.int .i64 n).wf = true) : -9223372036854775808 ≤ n ∧ n < 9223372036854775808 := by
  simp [Lit.wf, IntKind.min, IntKind.max, IntKind.signed, IntKind.bits] at h; omega
set_option maxRecDepth 100000 in
theorem open_intl {H : Type} {enc : TypeId × Value → H} {w : World} {r : Reach} {b0 : Nat} {v : Value} {d : DataW H} {p : List MemPlace} (hv : Value.okWide Tryd.prog w r b0 70 v)
    (h : DataW.Trod enc Tryd.prog w 0 (fun _ => true) true 70 v d p) (hw : ∀ m ∈ d.weights Tryd.prog 70, m ≤ reachBytes) :
    ∃ l : List Int, Sl w w.heap.size (Value.int .i64) v l ∧ (∀ x ∈ l, -9223372036854775808 ≤ x ∧ x < 9223372036854775808) ∧ l.length ≤ 140737488351232 := by
  obtain ⟨a0, n0, c0, rfl⟩ := Go.WideShapes.okWide_slice Tryd.underlying70 hv
  obtain ⟨m, hm⟩ := h
  obtain ⟨l, hs, hwf, hb⟩ := open_sl Tryd.underlying70 Tryd.underlying3 (by kernel_rfl) hm
  have hb' := hb hw
  rw [show Tryd.prog.bytesOf 3 = 8 from by kernel_rfl] at hb'
  exact ⟨l, hs, fun x hx => wf_int (hwf x hx), by omega⟩
end intsA
end Go.Proofs.YthjjockimpndbaaDoor

namespace Go.Proofs.YthjjockimpndbaaDoor
open Go.RowKit Go.Bus
theorem Tryd.infoB : (Tryd.prog.info? 5).map (fun i => (i.zero, i.size, i.bytes)) = some (some (.int .u8 0), 1, 1) := by kernel_rfl
end Go.Proofs.YthjjockimpndbaaDoor

namespace Go.Proofs.YthjjockimpndbaaDoor
open Go.RowKit Go.Bus
set_option linter.unusedVariables false
namespace rightW
def rid (id : Int) (wide : Bool) : Int := if wide = true then bits BinOp.and IntKind.u32 id 536870911 else bits BinOp.and IntKind.u32 id 2047
/-- What right answers: a frame whose bytes are in a list of the call's own. -/
def OwnFrame (w : World) (id : Int) (wide : Bool) (l : List Int) (e : Ending) (w' : World) : Prop :=
  ∃ v, e = .returned (.agg #[.int .u32 id, .bool wide, v]) ∧ w'.ownsRow w.heap.size 5 1 v l.length (l.map (Value.int .u8)) ∧ Below w.heap.size w w'

theorem right_step {w wr W1 w1 : World} {g c k : Nat} {t e : TypeId} {v : Value} {a b : Value} {ys zs : List Value} {o : Obj} (hhas : Has wr (w.heap.size + 1 + 1) t #[a, b, v])
    (hown1 : w1.ownsRow (w.heap.size + 3) e 1 (.slice (some ⟨g, 0, none⟩) (k + 1) c) (k + 1) zs) (hh1 : Has w1 (w.heap.size + 1 + 1) t #[a, b, v]) (K : Below (w.heap.size + 1 + 1) W1 wr)
    (hg1 : (wr.alloc o).drew.grownBy w1 v.ownBlock) (hlt : ∀ q, v.ownBlock = some q → w.heap.size + 3 ≤ q ∧ q < (wr.alloc o).heap.size) (hsz : w.heap.size + 3 ≤ wr.heap.size) (hz : zs = ys) (hne : e ≠ t) :
    Has (w1.setCell ⟨w.heap.size + 1 + 1, 2, none⟩ (.slice (some ⟨g, 0, none⟩) (k + 1) c)) (w.heap.size + 1 + 1) t #[a, b, .slice (some ⟨g, 0, none⟩) (k + 1) c] ∧
    (w1.setCell ⟨w.heap.size + 1 + 1, 2, none⟩ (.slice (some ⟨g, 0, none⟩) (k + 1) c)).ownsRow (w.heap.size + 3) e 1 (.slice (some ⟨g, 0, none⟩) (k + 1) c) (k + 1) ys ∧
    Below (w.heap.size + 1 + 1) W1 (w1.setCell ⟨w.heap.size + 1 + 1, 2, none⟩ (.slice (some ⟨g, 0, none⟩) (k + 1) c)) ∧
    w.heap.size + 3 ≤ (w1.setCell ⟨w.heap.size + 1 + 1, 2, none⟩ (.slice (some ⟨g, 0, none⟩) (k + 1) c)).heap.size := by
  subst hz
  refine ⟨by simpa using hh1.set 2 (.slice (some ⟨g, 0, none⟩) (k + 1) c), own_far hown1 hh1 hne (only_set (World.grownBy.refl _ _) 2 _), ?_, ?_⟩
  · refine Below.setCell (p := ⟨w.heap.size + 1 + 1, 2, none⟩) ?_ (Nat.le_refl _) _
    refine Below.grown ((K.alloc (by omega) _).drew) hg1 (by simp; omega) fun q hq => ?_
    have := hlt q hq
    show w.heap.size + 1 + 1 ≤ q
    omega
  · have h1 := hg1.size
    rw [World.size_drew, World.size_alloc] at h1
    rw [World.size_setCell]
    omega

set_option maxRecDepth 100000 in
set_option maxHeartbeats 1000000 in
theorem right_any (id : Int) (wide : Bool) (sv : Value) (l : List Int) (w : World) (hs : Sl w w.heap.size (Value.int .u8) sv l) :
    Calls Tryd.prog 92 #[.agg #[.int .u32 id, .bool wide, sv]] w (OwnFrame w (rid id wide) wide (l.take 8)) := by
  obtain ⟨A, cap, rfl, hcap, hmax⟩ := hs.form
  obtain ⟨i0, hi, hz0, hz1, hz2⟩ := info_parts Tryd.infoB
  have HS := Lib.hid hs; clear hs
  unfold maxLen at hmax
  obtain ⟨W1, eW1⟩ : ∃ W1, W1 = ((w.alloc (.cells #[.int .u32 id, .bool wide, .slice A l.length cap] 46)).alloc (.cells #[.int .u32 0, .bool false, .slice none 0 0] 46)).alloc (.cells #[.int .u32 (rid id wide), .bool wide, .slice none 0 0] 46) := ⟨_, rfl⟩
  have hX : Has W1 (w.heap.size + 1 + 1) 46 #[.int .u32 (rid id wide), .bool wide, .slice none 0 0] := by
    have h := Has.new ((w.alloc (.cells #[.int .u32 id, .bool wide, .slice A l.length cap] 46)).alloc (.cells #[.int .u32 0, .bool false, .slice none 0 0] 46)) 46 #[.int .u32 (rid id wide), .bool wide, .slice none 0 0]
    simp only [World.size_alloc] at h
    rw [eW1]; exact h
  have q2 : W1.cell? ⟨w.heap.size, 2, none⟩ = some (.slice A l.length cap) := by
    have h := ((Has.new w 46 #[.int .u32 id, .bool wide, .slice A l.length cap]).alloc (.cells #[.int .u32 0, .bool false, .slice none 0 0] 46)).alloc (.cells #[.int .u32 (rid id wide), .bool wide, .slice none 0 0] 46)
    rw [eW1]; exact (h.cell 2).trans rfl
  have r0 : Has W1 (w.heap.size + 1) 46 #[.int .u32 0, .bool false, .slice none 0 0] := by
    have h := (Has.new (w.alloc (.cells #[.int .u32 id, .bool wide, .slice A l.length cap] 46)) 46 #[.int .u32 0, .bool false, .slice none 0 0]).alloc (.cells #[.int .u32 (rid id wide), .bool wide, .slice none 0 0] 46)
    simp only [World.size_alloc] at h
    rw [eW1]; exact h
  have hBW : Below w.heap.size w W1 := by rw [eW1]; exact (by repeat (first | exact Below.refl _ _ | assumption | refine Below.drew ?_ | refine below_drewN ?_ _ | (refine Below.alloc ?_ (by (try simp); (try omega)) _) | (refine Below.setCell ?_ (by (try simp); (try omega)) _)))
  have hzW : W1.heap.size = w.heap.size + 3 := by rw [eW1]; simp
  have EW1 := Lib.hid eW1; clear eW1
  have HX := Lib.hid hX; clear hX
  have R0 := Lib.hid r0; clear r0
  have HZ := Lib.hid hzW; clear hzW
  cases wide
  · go_enter Tryd.func92, Tryd.ntmps92
    go_wp2
    rw [show bits BinOp.and IntKind.u32 id 2047 = rid id false from rfl, ← EW1.out]
    go_loopw [4] (fun i wr => ∃ (k : Nat) (v : Value), k ≤ l.length ∧ k ≤ 8 ∧ i = .int .i64 k ∧ Has wr (w.heap.size + 1 + 1) 46 #[.int .u32 (rid id false), .bool false, v] ∧
        wr.ownsRow (w.heap.size + 3) 5 1 v k ((l.map (Value.int .u8)).take k) ∧ Below (w.heap.size + 1 + 1) W1 wr ∧ w.heap.size + 3 ≤ wr.heap.size) (fun i _ => 8 - (intOf i).toNat)
    case atStart => exact ⟨0, _, Nat.zero_le _, Nat.zero_le _, rfl, HX.out, World.ownsRow_nil _ _ _ _, Below.refl _ _, by rw [HZ.out]; omega⟩
    case round =>
      obtain ⟨k, v, hk, hk8, rfl, hhas, hown, K, hsz⟩ := hrel
      have c2 := hhas.cell 2
      have f2 := hhas.frozen 2
      simp only [List.getElem?_toArray, List.getElem?_cons_zero, List.getElem?_cons_succ] at c2
      have a2 : wr.cell? ⟨w.heap.size, 2, none⟩ = some (.slice A l.length cap) := (K.cell (p := ⟨w.heap.size, 2, none⟩) (by simp; omega)).trans q2
      have HH := Lib.hid hhas; clear hhas
      by_cases hlt : k < l.length
      · by_cases h8 : k < 8
        · obtain ⟨b, off, rfl, hbb, hc0⟩ := HS.out.at_ hlt
          have hc : wr.cell? ⟨b, off + k, none⟩ = some (.int .u8 l[k]) := ((hBW.trans (K.mono (by omega))).cell (p := ⟨b, off + k, none⟩) hbb).trans hc0
          clear hc0
          have z2 : w.heap.size + 1 + 1 < wr.heap.size := by omega
          have z0 : w.heap.size < wr.heap.size := by omega
          have zb : b < wr.heap.size := by omega
          go_wp2_with fail
          go_region_law (refine step_append_lies _ (by rfl) (.tmp 27) (.tmp 33) 44 (by rfl) (w.heap.size + 3) 5 i0 (.int .u8 0) 1 1 Tryd.underlying44 hi hz0 hz1 hz2 (by rfl) (by decide) _ _ _ (by rfl) (hown.alloc (.cells #[.int .u8 l[k]] 5)).drew ⟨wr.heap.size, 0, none⟩ 1 1 [.int .u8 l[k]] (by rfl) (by rfl) (by exact one_new _ _ _) (by intro u hu; simp at hu; subst hu; rfl) (by omega) (by unfold maxLen; omega) (by omega) (by simp; omega) _ (by rfl) ?_; intro g c w1 hown1 hg1 hgg hlt1; have hne := own_has_ne (hown.alloc (.cells #[.int .u8 l[k]] 5)) (HH.out.alloc _) (by decide); have hh1 : Has w1 _ _ _ := ((HH.out.alloc (.cells #[.int .u8 l[k]] 5)).drew).grown hg1 (fun e => hne e.symm); have e2 := hh1.cell 2; have e2f := hh1.frozen 2; simp only [List.getElem?_toArray, List.getElem?_cons_zero, List.getElem?_cons_succ] at e2; have HHH := Lib.hid hh1; have HG := Lib.hid hg1; have HOW := Lib.hid hown1; clear hh1 hg1 hown1 hne)
          all_goals
            have HF := Lib.hid (right_step (k := k) (zs := (l.map (Value.int .u8)).take k ++ [Value.int .u8 l[k]]) HH.out HOW.out HHH.out K HG.out (fun q hq => (hown.alloc (.cells #[.int .u8 l[k]] 5)).lt q hq) hsz (take_map_snoc _ l k hlt) (by decide))
            go_wp2
            go_roundw
            case rel => exact ⟨k + 1, _, by omega, by omega, by go_num, HF.out.1, HF.out.2.1, HF.out.2.2.1, HF.out.2.2.2⟩
            case measure => first | (simp [intOf]; done) | (simp [intOf]; omega)
        · obtain rfl : k = 8 := by omega
          have hv : ∃ A' c', v = .slice A' 8 c' := by obtain ⟨g, c, rfl, _⟩ := own_form hown (by omega); exact ⟨_, _, rfl⟩
          obtain ⟨A', c', rfl⟩ := hv
          have HO := Lib.hid hown; clear hown
          have b0 := HH.out.cell 0
          have b1 := HH.out.cell 1
          have r1 := R0.out.below K (by omega)
          have d0 := r1.cell 0
          have d1 := r1.cell 1
          have d2 := r1.cell 2
          have g0 := r1.frozen 0
          have g1 := r1.frozen 1
          have g2 := r1.frozen 2
          simp only [List.getElem?_toArray, List.getElem?_cons_zero, List.getElem?_cons_succ] at b0 b1 d0 d1 d2
          clear r1
          go_wp2_with fail
          have hBK : Below w.heap.size w wr := hBW.trans (K.mono (by omega))
          go_wp2
          refine bodyPost_ret (v := .agg #[.int .u32 (rid id false), .bool false, .slice A' 8 c']) (by simp [results, Tryd.results92, go_sem, d0, d1, d2]) rfl ⟨_, rfl, ?_, ?_⟩
          · rw [show (l.take 8).length = 8 from by rw [List.length_take]; omega, List.map_take]
            refine own_base (base := w.heap.size + 3) ?_ (by omega)
            repeat (first | exact HO.out | refine ownsRow_setCell_below ?_ (by dsimp only; omega) _)
          · exact (by repeat (first | exact Below.refl _ _ | assumption | refine Below.drew ?_ | refine below_drewN ?_ _ | (refine Below.alloc ?_ (by (try simp); (try omega)) _) | (refine Below.setCell ?_ (by (try simp); (try omega)) _)))
      · obtain rfl : k = l.length := by omega
        rw [List.take_of_length_le (by simp)] at hown
        have hv : ∃ A' c', v = .slice A' l.length c' := by
          rcases hown.2 with ⟨rfl, h0⟩ | ⟨g, c, _, rfl, _⟩
          · exact ⟨_, _, by rw [h0]⟩
          · exact ⟨_, _, rfl⟩
        obtain ⟨A', c', rfl⟩ := hv
        have HO := Lib.hid hown; clear hown
        have b0 := HH.out.cell 0
        have b1 := HH.out.cell 1
        have r1 := R0.out.below K (by omega)
        have d0 := r1.cell 0
        have d1 := r1.cell 1
        have d2 := r1.cell 2
        have g0 := r1.frozen 0
        have g1 := r1.frozen 1
        have g2 := r1.frozen 2
        simp only [List.getElem?_toArray, List.getElem?_cons_zero, List.getElem?_cons_succ] at b0 b1 d0 d1 d2
        clear r1
        go_wp2_with fail
        have hBK : Below w.heap.size w wr := hBW.trans (K.mono (by omega))
        go_wp2
        refine bodyPost_ret (v := .agg #[.int .u32 (rid id false), .bool false, .slice A' l.length c']) (by simp [results, Tryd.results92, go_sem, d0, d1, d2]) rfl ⟨_, rfl, ?_, ?_⟩
        · rw [List.take_of_length_le (by omega)]
          refine own_base (base := w.heap.size + 3) ?_ (by omega)
          repeat (first | exact HO.out | refine ownsRow_setCell_below ?_ (by dsimp only; omega) _)
        · exact (by repeat (first | exact Below.refl _ _ | assumption | refine Below.drew ?_ | refine below_drewN ?_ _ | (refine Below.alloc ?_ (by (try simp); (try omega)) _) | (refine Below.setCell ?_ (by (try simp); (try omega)) _)))
  · go_enter Tryd.func92, Tryd.ntmps92
    go_wp2
    rw [show bits BinOp.and IntKind.u32 id 536870911 = rid id true from rfl, ← EW1.out]
    go_loopw [4] (fun i wr => ∃ (k : Nat) (v : Value), k ≤ l.length ∧ k ≤ 8 ∧ i = .int .i64 k ∧ Has wr (w.heap.size + 1 + 1) 46 #[.int .u32 (rid id true), .bool true, v] ∧
        wr.ownsRow (w.heap.size + 3) 5 1 v k ((l.map (Value.int .u8)).take k) ∧ Below (w.heap.size + 1 + 1) W1 wr ∧ w.heap.size + 3 ≤ wr.heap.size) (fun i _ => 8 - (intOf i).toNat)
    case atStart => exact ⟨0, _, Nat.zero_le _, Nat.zero_le _, rfl, HX.out, World.ownsRow_nil _ _ _ _, Below.refl _ _, by rw [HZ.out]; omega⟩
    case round =>
      obtain ⟨k, v, hk, hk8, rfl, hhas, hown, K, hsz⟩ := hrel
      have c2 := hhas.cell 2
      have f2 := hhas.frozen 2
      simp only [List.getElem?_toArray, List.getElem?_cons_zero, List.getElem?_cons_succ] at c2
      have a2 : wr.cell? ⟨w.heap.size, 2, none⟩ = some (.slice A l.length cap) := (K.cell (p := ⟨w.heap.size, 2, none⟩) (by simp; omega)).trans q2
      have HH := Lib.hid hhas; clear hhas
      by_cases hlt : k < l.length
      · by_cases h8 : k < 8
        · obtain ⟨b, off, rfl, hbb, hc0⟩ := HS.out.at_ hlt
          have hc : wr.cell? ⟨b, off + k, none⟩ = some (.int .u8 l[k]) := ((hBW.trans (K.mono (by omega))).cell (p := ⟨b, off + k, none⟩) hbb).trans hc0
          clear hc0
          have z2 : w.heap.size + 1 + 1 < wr.heap.size := by omega
          have z0 : w.heap.size < wr.heap.size := by omega
          have zb : b < wr.heap.size := by omega
          go_wp2_with fail
          go_region_law (refine step_append_lies _ (by rfl) (.tmp 27) (.tmp 33) 44 (by rfl) (w.heap.size + 3) 5 i0 (.int .u8 0) 1 1 Tryd.underlying44 hi hz0 hz1 hz2 (by rfl) (by decide) _ _ _ (by rfl) (hown.alloc (.cells #[.int .u8 l[k]] 5)).drew ⟨wr.heap.size, 0, none⟩ 1 1 [.int .u8 l[k]] (by rfl) (by rfl) (by exact one_new _ _ _) (by intro u hu; simp at hu; subst hu; rfl) (by omega) (by unfold maxLen; omega) (by omega) (by simp; omega) _ (by rfl) ?_; intro g c w1 hown1 hg1 hgg hlt1; have hne := own_has_ne (hown.alloc (.cells #[.int .u8 l[k]] 5)) (HH.out.alloc _) (by decide); have hh1 : Has w1 _ _ _ := ((HH.out.alloc (.cells #[.int .u8 l[k]] 5)).drew).grown hg1 (fun e => hne e.symm); have e2 := hh1.cell 2; have e2f := hh1.frozen 2; simp only [List.getElem?_toArray, List.getElem?_cons_zero, List.getElem?_cons_succ] at e2; have HHH := Lib.hid hh1; have HG := Lib.hid hg1; have HOW := Lib.hid hown1; clear hh1 hg1 hown1 hne)
          all_goals
            have HF := Lib.hid (right_step (k := k) (zs := (l.map (Value.int .u8)).take k ++ [Value.int .u8 l[k]]) HH.out HOW.out HHH.out K HG.out (fun q hq => (hown.alloc (.cells #[.int .u8 l[k]] 5)).lt q hq) hsz (take_map_snoc _ l k hlt) (by decide))
            go_wp2
            go_roundw
            case rel => exact ⟨k + 1, _, by omega, by omega, by go_num, HF.out.1, HF.out.2.1, HF.out.2.2.1, HF.out.2.2.2⟩
            case measure => first | (simp [intOf]; done) | (simp [intOf]; omega)
        · obtain rfl : k = 8 := by omega
          have hv : ∃ A' c', v = .slice A' 8 c' := by obtain ⟨g, c, rfl, _⟩ := own_form hown (by omega); exact ⟨_, _, rfl⟩
          obtain ⟨A', c', rfl⟩ := hv
          have HO := Lib.hid hown; clear hown
          have b0 := HH.out.cell 0
          have b1 := HH.out.cell 1
          have r1 := R0.out.below K (by omega)
          have d0 := r1.cell 0
          have d1 := r1.cell 1
          have d2 := r1.cell 2
          have g0 := r1.frozen 0
          have g1 := r1.frozen 1
          have g2 := r1.frozen 2
          simp only [List.getElem?_toArray, List.getElem?_cons_zero, List.getElem?_cons_succ] at b0 b1 d0 d1 d2
          clear r1
          go_wp2_with fail
          have hBK : Below w.heap.size w wr := hBW.trans (K.mono (by omega))
          go_wp2
          refine bodyPost_ret (v := .agg #[.int .u32 (rid id true), .bool true, .slice A' 8 c']) (by simp [results, Tryd.results92, go_sem, d0, d1, d2]) rfl ⟨_, rfl, ?_, ?_⟩
          · rw [show (l.take 8).length = 8 from by rw [List.length_take]; omega, List.map_take]
            refine own_base (base := w.heap.size + 3) ?_ (by omega)
            repeat (first | exact HO.out | refine ownsRow_setCell_below ?_ (by dsimp only; omega) _)
          · exact (by repeat (first | exact Below.refl _ _ | assumption | refine Below.drew ?_ | refine below_drewN ?_ _ | (refine Below.alloc ?_ (by (try simp); (try omega)) _) | (refine Below.setCell ?_ (by (try simp); (try omega)) _)))
      · obtain rfl : k = l.length := by omega
        rw [List.take_of_length_le (by simp)] at hown
        have hv : ∃ A' c', v = .slice A' l.length c' := by
          rcases hown.2 with ⟨rfl, h0⟩ | ⟨g, c, _, rfl, _⟩
          · exact ⟨_, _, by rw [h0]⟩
          · exact ⟨_, _, rfl⟩
        obtain ⟨A', c', rfl⟩ := hv
        have HO := Lib.hid hown; clear hown
        have b0 := HH.out.cell 0
        have b1 := HH.out.cell 1
        have r1 := R0.out.below K (by omega)
        have d0 := r1.cell 0
        have d1 := r1.cell 1
        have d2 := r1.cell 2
        have g0 := r1.frozen 0
        have g1 := r1.frozen 1
        have g2 := r1.frozen 2
        simp only [List.getElem?_toArray, List.getElem?_cons_zero, List.getElem?_cons_succ] at b0 b1 d0 d1 d2
        clear r1
        go_wp2_with fail
        have hBK : Below w.heap.size w wr := hBW.trans (K.mono (by omega))
        go_wp2
        refine bodyPost_ret (v := .agg #[.int .u32 (rid id true), .bool true, .slice A' l.length c']) (by simp [results, Tryd.results92, go_sem, d0, d1, d2]) rfl ⟨_, rfl, ?_, ?_⟩
        · rw [List.take_of_length_le (by omega)]
          refine own_base (base := w.heap.size + 3) ?_ (by omega)
          repeat (first | exact HO.out | refine ownsRow_setCell_below ?_ (by dsimp only; omega) _)
        · exact (by repeat (first | exact Below.refl _ _ | assumption | refine Below.drew ?_ | refine below_drewN ?_ _ | (refine Below.alloc ?_ (by (try simp); (try omega)) _) | (refine Below.setCell ?_ (by (try simp); (try omega)) _)))
end rightW
end Go.Proofs.YthjjockimpndbaaDoor

namespace Go.Proofs.YthjjockimpndbaaDoor
open Go.RowKit Go.Bus
set_option linter.unusedVariables false
namespace sameW
theorem take_eq_succ {α : Type} {l m : List α} {k : Nat} (h1 : k < l.length) (h2 : k < m.length) (h : l.take k = m.take k) (he : l[k] = m[k]) : l.take (k + 1) = m.take (k + 1) := by
  rw [List.take_succ_eq_append_getElem h1, List.take_succ_eq_append_getElem h2, h, he]

end sameW
end Go.Proofs.YthjjockimpndbaaDoor

namespace Go.Proofs.YthjjockimpndbaaDoor
open Go.RowKit Go.Bus
set_option linter.unusedVariables false
namespace sameW
set_option maxRecDepth 100000 in
set_option maxHeartbeats 1000000 in
theorem bools_any (v u : Value) (l m : List Bool) (w : World) (B : Nat) (h : Sl w B Value.bool v l) (h' : Sl w B Value.bool u m) :
    Calls Tryd.prog 21 #[v, u] w fun e w' => e = .returned (.bool (decide (l = m))) ∧ ∃ n, w' = w.drewN n := by
  obtain ⟨A, cap, rfl, hcap, hmax⟩ := h.form
  obtain ⟨A', cap', rfl, hcap', hmax'⟩ := h'.form
  have HL := Lib.hid h; clear h
  have HL' := Lib.hid h'; clear h'
  unfold maxLen at hmax hmax'
  by_cases hne : l.length = m.length
  · have d0 : ((l.length : Int) != (m.length : Int)) = false := by simp; omega
    have hle : (l.length : Int) ≤ m.length := by omega
    have hge : (m.length : Int) ≤ l.length := by omega
    have HN := Lib.hid hne; clear hne
    go_enter Tryd.func21, Tryd.ntmps21
    go_wp2
    clear d0
    go_loopw [5] (fun i wr => ∃ k n : Nat, k ≤ l.length ∧ i = .int .i64 k ∧ Hid (l.take k = m.take k) ∧ wr = w.drewN n) (fun i _ => l.length - (intOf i).toNat)
    case atStart => exact ⟨0, 0, Nat.zero_le _, rfl, (show _ = _ by simp), rfl⟩
    case round =>
      obtain ⟨k, n, hk, rfl, ht, rfl⟩ := hrel
      by_cases hlt : k < l.length
      · have hlt2 : k < m.length := by omega
        obtain ⟨b, off, rfl, hb, hc⟩ := HL.out.at_ hlt
        obtain ⟨b', off', rfl, hb', hc'⟩ := HL'.out.at_ hlt2
        have HS : Hid (l[k] = m[k] → l.take (k + 1) = m.take (k + 1)) := take_eq_succ hlt hlt2 ht.out
        have HE : Hid (l[k] ≠ m[k] → ¬ l = m) := fun hne e => hne (by subst e; rfl)
        generalize l[k] = x1 at *
        generalize m[k] = y1 at *
        cases x1 <;> cases y1
        all_goals
          go_wp2
          go_quiet (fail)
          go_wp2
        all_goals first
          | (go_ret; exact ⟨ret_bool (Eq.symm (decide_eq_false (HE.out (by decide)))), _, by first | rfl | exact World.drewN_drewN _ _ _⟩)
          | go_roundw
        all_goals first
          | exact ⟨k + 1, _, by omega, by go_num, Lib.hid (HS.out (by first | rfl | trivial)), rfl⟩
          | (simp [intOf]; done)
          | (simp [intOf]; omega)
      · obtain rfl : k = l.length := by omega
        have ht2 := ht.out
        rw [List.take_of_length_le (Nat.le_refl _), HN.out, List.take_of_length_le (Nat.le_refl _)] at ht2
        have HT := Lib.hid ht2; clear ht2
        go_wp2
        go_ret
        exact ⟨ret_bool (Eq.symm (decide_eq_true HT.out)), _, rfl⟩
  · have d0 : ((l.length : Int) != (m.length : Int)) = true := by simp; omega
    have HN : Hid (¬ l.length = m.length) := hne
    clear hne
    go_enter Tryd.func21, Tryd.ntmps21
    go_wp2
    go_ret
    exact ⟨ret_bool (Eq.symm (decide_eq_false fun e => HN.out (by rw [e]))), 0, rfl⟩
end sameW
end Go.Proofs.YthjjockimpndbaaDoor

namespace Go.Proofs.YthjjockimpndbaaDoor
open Go.RowKit Go.Bus
set_option linter.unusedVariables false
namespace sameW
set_option maxRecDepth 100000 in
set_option maxHeartbeats 1000000 in
theorem bytes_any (v u : Value) (l m : List Int) (w : World) (B : Nat) (h : Sl w B (Value.int .u8) v l) (h' : Sl w B (Value.int .u8) u m) :
    Calls Tryd.prog 62 #[v, u] w fun e w' => e = .returned (.bool (decide (l = m))) ∧ ∃ n, w' = w.drewN n := by
  obtain ⟨A, cap, rfl, hcap, hmax⟩ := h.form
  obtain ⟨A', cap', rfl, hcap', hmax'⟩ := h'.form
  have HL := Lib.hid h; clear h
  have HL' := Lib.hid h'; clear h'
  unfold maxLen at hmax hmax'
  by_cases hne : l.length = m.length
  · have d0 : ((l.length : Int) != (m.length : Int)) = false := by simp; omega
    have hle : (l.length : Int) ≤ m.length := by omega
    have hge : (m.length : Int) ≤ l.length := by omega
    have HN := Lib.hid hne; clear hne
    go_enter Tryd.func62, Tryd.ntmps62
    go_wp2
    clear d0
    go_loopw [5] (fun i wr => ∃ k n : Nat, k ≤ l.length ∧ i = .int .i64 k ∧ Hid (l.take k = m.take k) ∧ wr = w.drewN n) (fun i _ => l.length - (intOf i).toNat)
    case atStart => exact ⟨0, 0, Nat.zero_le _, rfl, (show _ = _ by simp), rfl⟩
    case round =>
      obtain ⟨k, n, hk, rfl, ht, rfl⟩ := hrel
      by_cases hlt : k < l.length
      · have hlt2 : k < m.length := by omega
        obtain ⟨b, off, rfl, hb, hc⟩ := HL.out.at_ hlt
        obtain ⟨b', off', rfl, hb', hc'⟩ := HL'.out.at_ hlt2
        by_cases he : l[k] = m[k]
        · have d1 : (l[k] != m[k]) = false := by simp [he]
          have H2 := Lib.hid (take_eq_succ hlt hlt2 ht.out he)
          clear he
          go_wp2
          go_quiet (fail)
          go_wp2
          go_roundw
          case rel => exact ⟨k + 1, _, by omega, by go_num, H2, rfl⟩
          case measure => first | (simp [intOf]; done) | (simp [intOf]; omega)
        · have d1 : (l[k] != m[k]) = true := by simp [he]
          have HE : Hid (¬ l[k] = m[k]) := he
          clear he
          go_wp2
          go_quiet (fail)
          go_wp2
          go_ret
          refine ⟨ret_bool (Eq.symm (decide_eq_false fun e => HE.out (by subst e; rfl))), _, by first | rfl | exact World.drewN_drewN _ _ _⟩
      · obtain rfl : k = l.length := by omega
        have ht2 := ht.out
        rw [List.take_of_length_le (Nat.le_refl _), HN.out, List.take_of_length_le (Nat.le_refl _)] at ht2
        have HT := Lib.hid ht2; clear ht2
        go_wp2
        go_ret
        exact ⟨ret_bool (Eq.symm (decide_eq_true HT.out)), _, rfl⟩
  · have d0 : ((l.length : Int) != (m.length : Int)) = true := by simp; omega
    have HN : Hid (¬ l.length = m.length) := hne
    clear hne
    go_enter Tryd.func62, Tryd.ntmps62
    go_wp2
    go_ret
    exact ⟨ret_bool (Eq.symm (decide_eq_false fun e => HN.out (by rw [e]))), 0, rfl⟩

set_option maxRecDepth 100000 in
set_option maxHeartbeats 1000000 in
theorem frame_any (i j : Int) (a b : Bool) (v u : Value) (l m : List Int) (w : World) (h : Sl w w.heap.size (Value.int .u8) v l) (h' : Sl w w.heap.size (Value.int .u8) u m) :
    Calls Tryd.prog 27 #[.agg #[.int .u32 i, .bool a, v], .agg #[.int .u32 j, .bool b, u]] w fun e w' => e = .returned (.bool (decide (i = j ∧ a = b ∧ l = m))) ∧ Below w.heap.size w w' := by
  obtain ⟨A, cap, rfl, hcap, hmax⟩ := h.form
  obtain ⟨A', cap', rfl, hcap', hmax'⟩ := h'.form
  have HL := Lib.hid h; clear h
  have HL' := Lib.hid h'; clear h'
  by_cases h1 : i = j
  · subst h1
    by_cases h2 : a = b
    · subst h2
      go_enter Tryd.func27, Tryd.ntmps27
      go_wp2_with fail
      refine (bytes_any _ _ l m _ _ (HL.out.at_below (by repeat (first | exact Below.refl _ _ | assumption | refine Below.drew ?_ | refine below_drewN ?_ _ | (refine Below.alloc ?_ (by (try simp); (try omega)) _) | (refine Below.setCell ?_ (by (try simp); (try omega)) _)))) (HL'.out.at_below (by repeat (first | exact Below.refl _ _ | assumption | refine Below.drew ?_ | refine below_drewN ?_ _ | (refine Below.alloc ?_ (by (try simp); (try omega)) _) | (refine Below.setCell ?_ (by (try simp); (try omega)) _))))).mono ?_
      rintro e w1 ⟨rfl, n, rfl⟩
      go_wp2
      go_ret
      exact ⟨ret_bool (by simp), (by repeat (first | exact Below.refl _ _ | assumption | refine Below.drew ?_ | refine below_drewN ?_ _ | (refine Below.alloc ?_ (by (try simp); (try omega)) _) | (refine Below.setCell ?_ (by (try simp); (try omega)) _)))⟩
    · have d1 : (a == b) = false := by simp [h2]
      have HE : Hid (¬ a = b) := h2
      clear h2
      go_enter Tryd.func27, Tryd.ntmps27
      go_wp2
      go_ret
      exact ⟨ret_bool (Eq.symm (decide_eq_false fun e => HE.out e.2.1)), (by repeat (first | exact Below.refl _ _ | assumption | refine Below.drew ?_ | refine below_drewN ?_ _ | (refine Below.alloc ?_ (by (try simp); (try omega)) _) | (refine Below.setCell ?_ (by (try simp); (try omega)) _)))⟩
  · have d1 : (i == j) = false := by simp [h1]
    have HE : Hid (¬ i = j) := h1
    clear h1
    go_enter Tryd.func27, Tryd.ntmps27
    go_wp2
    go_ret
    exact ⟨ret_bool (Eq.symm (decide_eq_false fun e => HE.out e.1)), (by repeat (first | exact Below.refl _ _ | assumption | refine Below.drew ?_ | refine below_drewN ?_ _ | (refine Below.alloc ?_ (by (try simp); (try omega)) _) | (refine Below.setCell ?_ (by (try simp); (try omega)) _)))⟩
end sameW
end Go.Proofs.YthjjockimpndbaaDoor

namespace Go.Bus.rawK
open Go.RowKit
set_option linter.unusedVariables false
/-- The mask of k bits; the lowest k bits; the lowest n bits of any n. -/
def msk (k : Nat) : Int := 2 ^ k - 1
def lw (v : Int) (k : Nat) : Int := v % 2 ^ k
def lowZ (v n : Int) : Int := if 64 < n then v else lw v n.toNat

theorem pow_le64 {k : Nat} (h : k ≤ 64) : (2 : Nat) ^ k ≤ 18446744073709551616 := Nat.le_trans (Nat.pow_le_pow_right (by decide) h) (by decide)
theorem cast_pow (k : Nat) : ((2 ^ k : Nat) : Int) = 2 ^ k := by simp
theorem msk_nat (k : Nat) : msk k = ((2 ^ k - 1 : Nat) : Int) := by
  unfold msk; rw [Int.ofNat_sub (Nat.one_le_two_pow), cast_pow]; rfl
theorem lw_nat (x : Nat) (k : Nat) : lw (x : Int) k = ((x % 2 ^ k : Nat) : Int) := by
  unfold lw; rw [Int.natCast_emod, cast_pow]
theorem lw_nonneg (v : Int) (k : Nat) : 0 ≤ lw v k := Int.emod_nonneg _ (by rw [← cast_pow]; have := Nat.one_le_two_pow (n := k); omega)
theorem lw_lt (v : Int) (k : Nat) : lw v k < 2 ^ k := Int.emod_lt_of_pos _ (by rw [← cast_pow]; have := Nat.one_le_two_pow (n := k); omega)
theorem lw_zero (v : Int) : lw v 0 = 0 := by unfold lw; simp
theorem lw_64 (v : Int) (h : 0 ≤ v) (h' : v < 18446744073709551616) : lw v 64 = v := by unfold lw; exact Int.emod_eq_of_lt h h'
theorem wrap_pow {k : Nat} (h : k < 64) : IntKind.u64.wrap (2 ^ k) = ((2 ^ k : Nat) : Int) := by
  have h1 : (2 : Nat) ^ k < 18446744073709551616 := Nat.pow_lt_pow_right (a := 2) (by decide) h
  rw [IntKind.wrap_u64, ← cast_pow]
  generalize 2 ^ k = y at *
  omega

theorem msk_step {k : Nat} (h : k < 64) : bits BinOp.or IntKind.u64 (IntKind.u64.wrap (msk k * 2)) 1 = msk (k + 1) := by
  have h1 := Nat.one_le_two_pow (n := k)
  have h2 := pow_le64 (k := k + 1) (by omega)
  have h3 : (2 : Nat) ^ (k + 1) = 2 * 2 ^ k := by rw [Nat.pow_succ]; omega
  rw [msk_nat, msk_nat, IntKind.wrap_u64]
  have h4 : ((2 ^ k - 1 : Nat) : Int) * 2 % 18446744073709551616 = ((2 * (2 ^ k - 1) : Nat) : Int) := by omega
  rw [h4, show (1 : Int) = ((1 : Nat) : Int) from rfl, u64_or_nat _ _ (by omega) (by omega), nat_join 1 _ _ (by omega) (by omega)]
  congr 1; omega
theorem and_msk {v : Int} {k : Nat} (hv : 0 ≤ v) (hv' : v < 18446744073709551616) (h : k ≤ 64) : bits BinOp.and IntKind.u64 v (msk k) = lw v k := by
  obtain ⟨x, rfl⟩ := Int.eq_ofNat_of_zero_le hv
  have h1 := pow_le64 h
  have h2 := Nat.one_le_two_pow (n := k)
  rw [msk_nat, u64_and_nat _ _ (by omega) (by omega), Nat.and_two_pow_sub_one_eq_mod, lw_nat]
theorem lw_step {v : Int} {k : Nat} (hv : 0 ≤ v) (hv' : v < 18446744073709551616) (h : k < 64) : bits BinOp.or IntKind.u64 (lw v k) (bits BinOp.and IntKind.u64 v (IntKind.u64.wrap (2 ^ k))) = lw v (k + 1) := by
  obtain ⟨x, rfl⟩ := Int.eq_ofNat_of_zero_le hv
  have h1 := pow_le64 (k := k + 1) (by omega)
  have h3 : (2 : Nat) ^ (k + 1) = 2 * 2 ^ k := by rw [Nat.pow_succ]; omega
  have h2 := Nat.one_le_two_pow (n := k)
  have hm : x % 2 ^ k < 2 ^ k := Nat.mod_lt _ (by omega)
  have hb : x / 2 ^ k % 2 < 2 := Nat.mod_lt _ (by omega)
  have hbb : x / 2 ^ k % 2 * 2 ^ k ≤ 1 * 2 ^ k := Nat.mul_le_mul_right _ (by omega)
  rw [wrap_pow h, lw_nat, lw_nat, u64_and_nat _ _ (by omega) (by omega), nat_bit, u64_or_nat _ _ (by omega) (by omega), Nat.or_comm, nat_join k _ _ (by rw [Nat.mul_mod_left]) hm]
  congr 1
  rw [Nat.pow_succ, Nat.mod_mul, Nat.mul_comm (2 ^ k) (x / 2 ^ k % 2)]
  omega

theorem xor_low {x m : Nat} (h : x < 2 ^ m) : x ^^^ 2 ^ m = x + 2 ^ m := by
  have h1 : x + 2 ^ m = 2 ^ m ||| x := by rw [nat_join m _ _ (Nat.mod_self _) h]; omega
  rw [h1]
  apply Nat.eq_of_testBit_eq
  intro j
  rw [Nat.testBit_xor, Nat.testBit_or, Nat.testBit_two_pow]
  by_cases hj : m = j
  · subst hj; simp [Nat.testBit_lt_two_pow h]
  · simp [hj]
theorem xor_high {x m : Nat} (h : x < 2 ^ m) : (x + 2 ^ m) ^^^ 2 ^ m = x := by
  rw [← xor_low h, Nat.xor_assoc, Nat.xor_self, Nat.xor_zero]

/-- The lowest k bits with their sign; the same of any size. -/
def ext1 (v : Int) (k : Nat) : Int := if lw v k < 2 ^ (k - 1) then lw v k else lw v k + (18446744073709551616 - 2 ^ k)
def extZ (v n : Int) (s : Bool) : Int := if s = true ∧ 1 ≤ n ∧ n < 64 then ext1 v n.toNat else lowZ v n
def acc (v : Int) (k j : Nat) : Int := lw v k + (2 ^ j - 2 ^ k)

theorem lowZ_nat (v : Int) {k : Nat} (h : k ≤ 64) : lowZ v (k : Int) = lw v k := by
  rw [lowZ, if_neg (by omega)]; rfl
theorem ext_code {v : Int} {m : Nat} (hv : 0 ≤ v) (h : m < 63) :
    IntKind.u64.wrap (bits BinOp.xor IntKind.u64 (lowZ v ((m : Int) + 1)) (IntKind.u64.wrap (2 ^ m)) - IntKind.u64.wrap (2 ^ m)) = ext1 v (m + 1) := by
  obtain ⟨x, rfl⟩ := Int.eq_ofNat_of_zero_le hv
  have e : (m : Int) + 1 = ((m + 1 : Nat) : Int) := by omega
  rw [e, lowZ_nat _ (by omega), wrap_pow (by omega)]
  unfold ext1
  rw [lw_nat, show m + 1 - 1 = m from rfl, ← cast_pow, ← cast_pow, IntKind.wrap_u64]
  have h3 : (2 : Nat) ^ (m + 1) = 2 * 2 ^ m := by rw [Nat.pow_succ]; omega
  have h1 := pow_le64 (k := m + 1) (by omega)
  have hy : x % 2 ^ (m + 1) < 2 ^ (m + 1) := Nat.mod_lt _ (by have := Nat.one_le_two_pow (n := m + 1); omega)
  generalize x % 2 ^ (m + 1) = y at *
  rw [u64_xor_nat _ _ (by omega) (by omega)]
  by_cases hlt : y < 2 ^ m
  · rw [xor_low hlt, if_pos (by omega)]; omega
  · obtain ⟨z, rfl⟩ : ∃ z, y = z + 2 ^ m := ⟨y - 2 ^ m, by omega⟩
    rw [xor_high (by omega), if_neg (by omega), h3]
    generalize 2 ^ m = q at *
    omega
theorem acc_start (v : Int) (k : Nat) : acc v k k = lw v k := by unfold acc; omega
theorem acc_step {v : Int} {k j : Nat} (hv : 0 ≤ v) (hk : k ≤ j) (h : j < 64) : bits BinOp.or IntKind.u64 (acc v k j) (IntKind.u64.wrap (2 ^ j)) = acc v k (j + 1) := by
  obtain ⟨x, rfl⟩ := Int.eq_ofNat_of_zero_le hv
  have hkj : (2 : Nat) ^ k ≤ 2 ^ j := Nat.pow_le_pow_right (by decide) hk
  have hy : x % 2 ^ k < 2 ^ k := Nat.mod_lt _ (by have := Nat.one_le_two_pow (n := k); omega)
  have h3 : (2 : Nat) ^ (j + 1) = 2 * 2 ^ j := by rw [Nat.pow_succ]; omega
  have h1 := pow_le64 (k := j + 1) (by omega)
  have e1 : acc (x : Int) k j = ((x % 2 ^ k + (2 ^ j - 2 ^ k) : Nat) : Int) := by
    unfold acc; rw [lw_nat, ← cast_pow, ← cast_pow]; omega
  have e2 : acc (x : Int) k (j + 1) = ((x % 2 ^ k + (2 ^ (j + 1) - 2 ^ k) : Nat) : Int) := by
    unfold acc; rw [lw_nat, ← cast_pow, ← cast_pow]; omega
  rw [e1, e2, wrap_pow h, u64_or_nat _ _ (by omega) (by omega), Nat.or_comm, nat_join j _ _ (Nat.mod_self _) (by omega)]
  congr 1; omega
theorem bit_test {v : Int} {m : Nat} (hv : 0 ≤ v) (hv' : v < 18446744073709551616) : (bits BinOp.and IntKind.u64 (v / 2 ^ m) 1 == 1) = true ↔ ¬ lw v (m + 1) < 2 ^ m := by
  obtain ⟨x, rfl⟩ := Int.eq_ofNat_of_zero_le hv
  have hle : x / 2 ^ m ≤ x := Nat.div_le_self _ _
  rw [← cast_pow, ← Int.natCast_ediv, show (1 : Int) = ((1 : Nat) : Int) from rfl, u64_and_nat _ _ (by omega) (by omega), nat_mask1, lw_nat, Nat.mod_pow_succ]
  have hy : x % 2 ^ m < 2 ^ m := Nat.mod_lt _ (by have := Nat.one_le_two_pow (n := m); omega)
  have hb : x / 2 ^ m % 2 = 0 ∨ x / 2 ^ m % 2 = 1 := by omega
  rcases hb with hb | hb <;> rw [hb] <;> simp <;> omega
theorem ext_yes {v : Int} {m : Nat} (hv : 0 ≤ v) (hv' : v < 18446744073709551616) (h : m < 64) (ht : (bits BinOp.and IntKind.u64 (v / 2 ^ m) 1 == 1) = true) : acc v (m + 1) 64 = extZ v ((m : Int) + 1) true := by
  have h1 := (bit_test hv hv').1 ht
  have e : ((m : Int) + 1) = ((m + 1 : Nat) : Int) := by omega
  unfold extZ
  by_cases h63 : m < 63
  · rw [if_pos ⟨rfl, by omega, by omega⟩, e, Int.toNat_natCast]
    unfold ext1 acc
    rw [show m + 1 - 1 = m from rfl, if_neg h1]
    rfl
  · obtain rfl : m = 63 := by omega
    rw [if_neg (by omega)]
    show acc v 64 64 = lowZ v ((64 : Nat) : Int)
    rw [lowZ_nat _ (by omega), acc_start]
theorem ext_no {v : Int} {m : Nat} (hv : 0 ≤ v) (hv' : v < 18446744073709551616) (h : m < 64) (ht : (bits BinOp.and IntKind.u64 (v / 2 ^ m) 1 == 1) = false) : lowZ v ((m : Int) + 1) = extZ v ((m : Int) + 1) true := by
  have h1 : lw v (m + 1) < 2 ^ m := by
    by_cases hh : lw v (m + 1) < 2 ^ m
    · exact hh
    · have := (bit_test hv hv').2 hh; rw [this] at ht; cases ht
  have e : ((m : Int) + 1) = ((m + 1 : Nat) : Int) := by omega
  unfold extZ
  by_cases h63 : m < 63
  · rw [if_pos ⟨rfl, by omega, by omega⟩, e, Int.toNat_natCast, lowZ_nat _ (by omega)]
    unfold ext1
    rw [show m + 1 - 1 = m from rfl, if_pos h1]
  · rw [if_neg (by omega)]

/-- The least and the greatest number that fit. -/
def eLo (n : Int) (s : Bool) : Int := if 1 ≤ n ∧ n ≤ 64 then (if s = true then 18446744073709551616 - 2 ^ (n.toNat - 1) else 0) else 0
def eHi (n : Int) (s : Bool) : Int := if 1 ≤ n ∧ n ≤ 64 then (if s = true then 2 ^ (n.toNat - 1) - 1 else lowZ 18446744073709551615 n) else 0
def fitsB (v n : Int) (s : Bool) : Bool := decide (1 ≤ n) && (decide (n ≤ 64) && (extZ v n s == v))

theorem lw_all {k : Nat} (h : k ≤ 64) : lw 18446744073709551615 k = 2 ^ k - 1 := by
  have h1 := pow_le64 h
  have h2 := Nat.one_le_two_pow (n := k)
  have e : (18446744073709551615 : Int) = ((18446744073709551615 : Nat) : Int) := rfl
  rw [e, lw_nat, ← cast_pow]
  have h3 : 18446744073709551615 % 2 ^ k = 2 ^ k - 1 := by
    have h4 : (18446744073709551616 : Nat) = 2 ^ k * 2 ^ (64 - k) := by rw [← Nat.pow_add, show k + (64 - k) = 64 from by omega]
    have h5 : (18446744073709551615 : Nat) = 2 ^ k * (2 ^ (64 - k) - 1) + (2 ^ k - 1) := by
      have h6 := Nat.one_le_two_pow (n := 64 - k)
      have h7 : 2 ^ k * 1 ≤ 2 ^ k * 2 ^ (64 - k) := Nat.mul_le_mul_left _ h6
      rw [Nat.mul_sub]
      omega
    rw [h5, Nat.mul_add_mod, Nat.mod_eq_of_lt (by omega)]
  rw [h3]; omega
theorem neg_top {m : Nat} (h : m < 64) : IntKind.u64.wrap (-IntKind.u64.wrap (2 ^ m)) = 18446744073709551616 - 2 ^ m := by
  have h1 := Nat.one_le_two_pow (n := m)
  have h2 : (2 : Nat) ^ m < 18446744073709551616 := Nat.pow_lt_pow_right (a := 2) (by decide) h
  rw [wrap_pow h, IntKind.wrap_u64, ← cast_pow]
  generalize 2 ^ m = q at *
  omega
theorem top_less {m : Nat} (h : m < 64) : IntKind.u64.wrap (IntKind.u64.wrap (2 ^ m) - 1) = 2 ^ m - 1 := by
  have h1 := Nat.one_le_two_pow (n := m)
  have h2 : (2 : Nat) ^ m < 18446744073709551616 := Nat.pow_lt_pow_right (a := 2) (by decide) h
  rw [wrap_pow h, IntKind.wrap_u64, ← cast_pow]
  generalize 2 ^ m = q at *
  omega
theorem ext_top {n : Int} (h1 : 1 ≤ n) (h2 : n ≤ 64) : extZ (IntKind.u64.wrap (2 ^ (n.toNat - 1))) n true = 18446744073709551616 - 2 ^ (n.toNat - 1) := by
  obtain ⟨m, rfl⟩ : ∃ m : Nat, n = ((m + 1 : Nat) : Int) := ⟨(n - 1).toNat, by omega⟩
  rw [Int.toNat_natCast, show m + 1 - 1 = m from rfl, wrap_pow (by omega)]
  unfold extZ
  have h3 : (2 : Nat) ^ (m + 1) = 2 * 2 ^ m := by rw [Nat.pow_succ]; omega
  have h4 := Nat.one_le_two_pow (n := m)
  by_cases h63 : m < 63
  · rw [if_pos ⟨rfl, by omega, by omega⟩, Int.toNat_natCast]
    unfold ext1
    rw [lw_nat, show m + 1 - 1 = m from rfl, ← cast_pow, ← cast_pow, Nat.mod_eq_of_lt (by omega), if_neg (by omega), h3]
    generalize 2 ^ m = q at *
    omega
  · obtain rfl : m = 63 := by omega
    rw [if_neg (by omega), lowZ_nat _ (by omega), lw_nat]
    decide

theorem fits_out {v n : Int} {s : Bool} (h : ¬ (1 ≤ n ∧ n ≤ 64)) : fitsB v n s = false := by
  unfold fitsB
  by_cases h1 : 1 ≤ n
  · have h2 : ¬ n ≤ 64 := fun h2 => h ⟨h1, h2⟩
    simp [h2]
  · simp [h1]
theorem low_half {n : Int} (h1 : 1 ≤ n) (h2 : n ≤ 64) : lowZ 18446744073709551615 (n - 1) = 2 ^ (n.toNat - 1) - 1 := by
  have e : n - 1 = ((n.toNat - 1 : Nat) : Int) := by omega
  rw [e, lowZ_nat _ (by omega), lw_all (by omega)]
theorem fits_un {v n : Int} (hv : 0 ≤ v) (hv' : v < 18446744073709551616) (h1 : 1 ≤ n) (h2 : n ≤ 64) : decide (v ≤ eHi n false) = fitsB v n false := by
  obtain ⟨k, rfl⟩ : ∃ k : Nat, n = (k : Int) := ⟨n.toNat, by omega⟩
  have e1 : eHi (k : Int) false = 2 ^ k - 1 := by
    unfold eHi; rw [if_pos ⟨h1, h2⟩, if_neg (by simp), lowZ_nat _ (by omega), lw_all (by omega)]
  have e2 : extZ v (k : Int) false = lw v k := by unfold extZ; rw [if_neg (by simp), lowZ_nat _ (by omega)]
  unfold fitsB
  rw [e1, e2]
  have h3 := lw_lt v k
  rw [Bool.eq_iff_iff]
  simp only [decide_eq_true_eq, Bool.and_eq_true, beq_iff_eq]
  constructor
  · intro h; refine ⟨h1, h2, ?_⟩; unfold lw; exact Int.emod_eq_of_lt hv (by omega)
  · intro h; omega

theorem ext_nat {x m : Nat} (hx : x < 18446744073709551616) (h : m < 63) : ext1 (x : Int) (m + 1) = x ↔ x < 2 ^ m ∨ 18446744073709551616 - 2 ^ m ≤ x := by
  have h3 : (2 : Nat) ^ (m + 1) = 2 * 2 ^ m := by rw [Nat.pow_succ]; omega
  have h4 := Nat.one_le_two_pow (n := m)
  have hq : (2 : Nat) ^ m ≤ 4611686018427387904 := Nat.pow_le_pow_right (j := 62) (by decide) (by omega)
  have hd : (18446744073709551616 : Nat) = 2 ^ (m + 1) * 2 ^ (63 - m) := by rw [← Nat.pow_add, show m + 1 + (63 - m) = 64 from by omega]
  have hc : (x < 2 * 2 ^ m ∧ x % 2 ^ (m + 1) = x) ∨ (18446744073709551616 - 2 * 2 ^ m ≤ x ∧ x % 2 ^ (m + 1) + 18446744073709551616 = x + 2 * 2 ^ m) ∨ (2 * 2 ^ m ≤ x ∧ x < 18446744073709551616 - 2 * 2 ^ m) := by
    rcases Nat.lt_or_ge x (2 * 2 ^ m) with h1 | h1
    · exact .inl ⟨h1, Nat.mod_eq_of_lt (by omega)⟩
    · rcases Nat.lt_or_ge x (18446744073709551616 - 2 * 2 ^ m) with h2 | h2
      · exact .inr (.inr ⟨h1, h2⟩)
      · refine .inr (.inl ⟨h2, ?_⟩)
        have hp := Nat.one_le_two_pow (n := 63 - m)
        have h7 : 2 ^ (m + 1) * 1 ≤ 2 ^ (m + 1) * 2 ^ (63 - m) := Nat.mul_le_mul_left _ hp
        have h6 : x = 2 ^ (m + 1) * (2 ^ (63 - m) - 1) + (x - (18446744073709551616 - 2 ^ (m + 1))) := by
          rw [Nat.mul_sub, ← hd]; omega
        have h8 : x - (18446744073709551616 - 2 ^ (m + 1)) < 2 ^ (m + 1) := by omega
        have h9 : x % 2 ^ (m + 1) = x - (18446744073709551616 - 2 ^ (m + 1)) := by
          conv => lhs; rw [h6]
          rw [Nat.mul_add_mod, Nat.mod_eq_of_lt h8]
        omega
  have hlt : x % 2 ^ (m + 1) < 2 ^ (m + 1) := Nat.mod_lt _ (by omega)
  unfold ext1
  rw [lw_nat, show m + 1 - 1 = m from rfl, ← cast_pow, ← cast_pow]
  clear hd
  obtain ⟨r, hr⟩ : ∃ r, r = x % 2 ^ (m + 1) := ⟨_, rfl⟩
  rw [← hr] at hc hlt ⊢
  rw [h3] at hlt ⊢
  clear h3 hr
  obtain ⟨q, hq'⟩ : ∃ q, q = 2 ^ m := ⟨_, rfl⟩
  rw [← hq'] at hc hlt hq h4 ⊢
  clear hq'
  split <;> omega

theorem fits_si {v n : Int} (hv : 0 ≤ v) (hv' : v < 18446744073709551616) (h1 : 1 ≤ n) (h2 : n ≤ 64) : (decide (wrap64 (eLo n true) ≤ wrap64 v) && decide (wrap64 v ≤ wrap64 (eHi n true))) = fitsB v n true := by
  obtain ⟨m, rfl⟩ : ∃ m : Nat, n = ((m + 1 : Nat) : Int) := ⟨(n - 1).toNat, by omega⟩
  obtain ⟨x, rfl⟩ := Int.eq_ofNat_of_zero_le hv
  have h3 : (2 : Nat) ^ (m + 1) = 2 * 2 ^ m := by rw [Nat.pow_succ]; omega
  have h4 := Nat.one_le_two_pow (n := m)
  have h5 := pow_le64 (k := m + 1) (by omega)
  have e1 : eLo ((m + 1 : Nat) : Int) true = ((18446744073709551616 - 2 ^ m : Nat) : Int) := by
    unfold eLo; rw [if_pos ⟨h1, h2⟩, if_pos rfl, Int.toNat_natCast, show m + 1 - 1 = m from rfl, ← cast_pow]; omega
  have e2 : eHi ((m + 1 : Nat) : Int) true = ((2 ^ m - 1 : Nat) : Int) := by
    unfold eHi; rw [if_pos ⟨h1, h2⟩, if_pos rfl, Int.toNat_natCast, show m + 1 - 1 = m from rfl, ← cast_pow]; omega
  have e3 : extZ (x : Int) ((m + 1 : Nat) : Int) true = x ↔ x < 2 ^ m ∨ 18446744073709551616 - 2 ^ m ≤ x := by
    unfold extZ
    by_cases h63 : m < 63
    · rw [if_pos ⟨rfl, by omega, by omega⟩, Int.toNat_natCast, ext_nat (by omega) h63]
    · obtain rfl : m = 63 := by omega
      rw [if_neg (by omega), lowZ_nat _ (by omega), lw_nat, Nat.mod_eq_of_lt (by omega)]
      have h63 : (2 : Nat) ^ 63 = 9223372036854775808 := by decide
      rw [h63]
      constructor
      · intro _; omega
      · intro _; rfl
  rw [e1, e2]
  unfold fitsB
  rw [Bool.eq_iff_iff]
  simp only [decide_eq_true_eq, Bool.and_eq_true, beq_iff_eq]
  rw [e3]
  unfold wrap64
  rw [h3] at h5
  generalize 2 ^ m = q at *
  omega
end Go.Bus.rawK

namespace Go.Bus.bitK
open Go.RowKit
set_option linter.unusedVariables false
def bitI (v : Int) (i : Nat) : Bool := decide (v / 2 ^ i % 2 = 1)
/-- The lowest n bits of a number, the highest first. -/
def msb (v : Int) (n : Nat) : List Bool := (List.range n).map fun j => bitI v (n - 1 - j)
theorem msb_length (v : Int) (n : Nat) : (msb v n).length = n := by simp [msb]
theorem msb_take (v : Int) (n k : Nat) (h : k < n) : ((msb v n).map Value.bool).take k ++ [Value.bool (bitI v (n - 1 - k))] = ((msb v n).map Value.bool).take (k + 1) := by
  have h1 : ((msb v n).map Value.bool)[k]? = some (Value.bool (bitI v (n - 1 - k))) := by simp [msb, h]
  rw [List.take_add_one, h1]; rfl
theorem msb_all (v : Int) (n : Nat) : ((msb v n).map Value.bool).take n = (msb v n).map Value.bool := List.take_of_length_le (by simp [msb_length])

theorem div_bounds {v : Int} {m : Nat} {B : Int} (h0 : 0 ≤ v) (h1 : v < B) : 0 ≤ v / 2 ^ m ∧ v / 2 ^ m < B := by
  obtain ⟨x, rfl⟩ := Int.eq_ofNat_of_zero_le h0
  have hle : x / 2 ^ m ≤ x := Nat.div_le_self _ _
  rw [← rawK.cast_pow, ← Int.natCast_ediv]
  generalize x / 2 ^ m = y at *
  omega
theorem bit32 {v : Int} (i : Nat) (h0 : 0 ≤ v) (h1 : v < 4294967296) : (bits BinOp.and IntKind.u32 (v / 2 ^ i) 1 == 1) = bitI v i := by
  have hb := div_bounds (m := i) h0 h1
  unfold bitI
  rw [u32_and _ 1 hb.1 hb.2 (by omega) (by omega), show (1 : Int).toNat = 1 from rfl, nat_mask1, Bool.eq_iff_iff]
  simp only [beq_iff_eq, decide_eq_true_eq]
  omega
theorem bit64 {v : Int} (i : Nat) (h0 : 0 ≤ v) (h1 : v < 18446744073709551616) : (bits BinOp.and IntKind.u64 (v / 2 ^ i) 1 == 1) = bitI v i := by
  have hb := div_bounds (m := i) h0 h1
  unfold bitI
  rw [u64_and _ 1 hb.1 hb.2 (by omega) (by omega), show (1 : Int).toNat = 1 from rfl, nat_mask1, Bool.eq_iff_iff]
  simp only [beq_iff_eq, decide_eq_true_eq]
  omega
theorem bit16 {v : Int} (i : Nat) (h0 : 0 ≤ v) (h1 : v < 65536) : (bits BinOp.and IntKind.u16 (v / 2 ^ i) 1 == 1) = bitI v i := by
  have hb := div_bounds (m := i) h0 h1
  unfold bitI
  rw [u16_and _ 1 hb.1 hb.2 (by omega) (by omega), show (1 : Int).toNat = 1 from rfl, nat_mask1, Bool.eq_iff_iff]
  simp only [beq_iff_eq, decide_eq_true_eq]
  omega

/-- One step of the sum of 15 bits; the sum of a list. -/
def crcI (r : Int) (bit : Bool) : Int :=
  if (!((bits BinOp.and IntKind.u16 r 16384 != 0) == bit)) = true then bits BinOp.xor IntKind.u16 (bits BinOp.and IntKind.u16 (r * 2) 32767) 17817 else bits BinOp.and IntKind.u16 (r * 2) 32767
def crcS (l : List Bool) : Int := l.foldl crcI 0
theorem and_bd {r : Int} (h : 0 ≤ r) (h' : r < 32768) : bits BinOp.and IntKind.u16 (r * 2) 32767 = r * 2 % 32768 := by
  rw [u16_and _ _ (by omega) (by omega) (by omega) (by omega), show (32767 : Int).toNat = 32767 from rfl, nat_mask15]; omega
theorem crcI_bd {r : Int} (bit : Bool) (h : 0 ≤ r) (h' : r < 32768) : 0 ≤ crcI r bit ∧ crcI r bit < 32768 := by
  unfold crcI
  rw [and_bd h h']
  split
  · rw [u16_xor _ _ (by omega) (by omega) (by omega) (by omega)]
    have h1 : (r * 2 % 32768).toNat < 2 ^ 15 := by omega
    have h2 := Nat.xor_lt_two_pow h1 (show (17817 : Int).toNat < 2 ^ 15 from by decide)
    omega
  · omega
theorem crcS_snoc (l : List Bool) (b : Bool) : crcS (l ++ [b]) = crcI (crcS l) b := by simp [crcS, List.foldl_append]
theorem crcS_bd (l : List Bool) : 0 ≤ crcS l ∧ crcS l < 32768 := by
  have : ∀ (l : List Bool) (r : Int), 0 ≤ r ∧ r < 32768 → 0 ≤ l.foldl crcI r ∧ l.foldl crcI r < 32768 := by
    intro l
    induction l with
    | nil => intro r h; exact h
    | cons b l ih => intro r h; exact ih _ (crcI_bd b h.1 h.2)
  exact this l 0 (by omega)

/-- A frame's bits: what stands ahead of the sum; all. -/
def headF (id : Int) (wide : Bool) : List Bool := if wide = true then msb (id / 262144) 11 ++ (msb 3 2 ++ (msb id 18 ++ msb 0 3)) else msb id 11 ++ msb 0 3
def dataF (l : List Int) : List Bool := l.flatMap fun b => msb b 8
def preF (id : Int) (wide : Bool) (l : List Int) : List Bool := [false] ++ headF id wide ++ msb l.length 4 ++ dataF l
def bitsF (id : Int) (wide : Bool) (l : List Int) : List Bool := preF id wide l ++ msb (crcS (preF id wide l)) 15
theorem dataF_length (l : List Int) : (dataF l).length = 8 * l.length := by
  induction l with
  | nil => rfl
  | cons b l ih => simp [dataF, List.flatMap_cons, msb_length] at *; omega
theorem headF_length (id : Int) (wide : Bool) : (headF id wide).length = if wide = true then 34 else 14 := by
  unfold headF; split <;> simp [msb_length]
theorem preF_length (id : Int) (wide : Bool) (l : List Int) : (preF id wide l).length = (if wide = true then 39 else 19) + 8 * l.length := by
  unfold preF
  simp only [List.length_append, headF_length, dataF_length, msb_length, List.length_cons, List.length_nil]
  split <;> omega
theorem bitsF_length (id : Int) (wide : Bool) (l : List Int) : (bitsF id wide l).length = (if wide = true then 54 else 34) + 8 * l.length := by
  unfold bitsF
  rw [List.length_append, preF_length, msb_length]
  split <;> omega
theorem dataF_snoc (l : List Int) (k : Nat) (h : k < l.length) : dataF (l.take k) ++ msb l[k] 8 = dataF (l.take (k + 1)) := by
  unfold dataF; rw [List.take_succ_eq_append_getElem h, List.flatMap_append, List.flatMap_cons, List.flatMap_nil, List.append_nil]
end Go.Bus.bitK

namespace Go.Proofs.YthjjockimpndbaaDoor
open Go.RowKit Go.Bus Go.Bus.bitK
set_option linter.unusedVariables false
theorem Tryd.infoBool : (Tryd.prog.info? 4).map (fun i => (i.zero, i.size, i.bytes)) = some (some (.bool false), 1, 1) := by kernel_rfl

namespace putK
/-- A list of bools of the call's own, from block 'base' on; below it nothing has turned. -/
def Own (base : Nat) (w : World) (xs : List Bool) (e : Ending) (w' : World) : Prop :=
  ∃ v, e = .returned v ∧ w'.ownsRow base 4 1 v xs.length (xs.map Value.bool) ∧ Below base w w'

set_option maxRecDepth 100000 in
set_option maxHeartbeats 1000000 in
theorem put_any (base : Nat) (v : Value) (xs : List Bool) (x z : Int) (n : Nat) (w : World) (hown : w.ownsRow base 4 1 v xs.length (xs.map Value.bool)) (hbase : base ≤ w.heap.size)
    (hz : z = n) (hn : n ≤ 32) (hx : 0 ≤ x) (hx' : x < 4294967296) (hlen : xs.length ≤ 1000000000) :
    Calls Tryd.prog 44 #[v, .int .u32 x, .int .i64 z] w (Own base w (xs ++ msb x n)) := by
  subst hz
  obtain ⟨i0, hi, hz0, hz1, hz2⟩ := info_parts Tryd.infoBool
  have HO := Lib.hid hown; clear hown
  go_enter Tryd.func44, Tryd.ntmps44
  go_wp2
  go_loopw [0, 7] (fun o i wr => ∃ k : Nat, k ≤ n ∧ i = .int .i64 ((n : Int) - 1 - k) ∧ wr.ownsRow base 4 1 o (xs.length + k) (xs.map Value.bool ++ ((msb x n).map Value.bool).take k) ∧ Below base w wr ∧ base ≤ wr.heap.size) (fun _ i _ => (intOf i + 1).toNat)
  case atStart => exact ⟨0, Nat.zero_le _, by go_num, by simpa using HO.out, Below.refl _ _, hbase⟩
  case round =>
    clear hbase
    obtain ⟨k, hk, rfl, hown, hbel, hbase⟩ := hrel
    by_cases hlt : k < n
    · obtain ⟨j, hj⟩ : ∃ j : Nat, (n : Int) - 1 - k = j := ⟨n - 1 - k, by omega⟩
      have hjn : n - 1 - k = j := by omega
      have hjb : (j : Int) ≤ 64 := by omega
      have hj0 : (0 : Int) ≤ (j : Int) := by omega
      have hbit : (bits BinOp.and IntKind.u32 (x / 2 ^ min j 32) 1 == 1) = bitI x j := by rw [show min j 32 = j from by omega]; exact bit32 (v := x) j hx hx'
      have HJ := Lib.hid hjn; clear hjn
      have hm := msb_take x n k hlt
      rw [HJ.out] at hm
      have HM := Lib.hid hm; clear hm
      have HJ2 := Lib.hid hj
      rw [hj]
      clear hj
      go_wp2_with (at_builtin; refine wpList_append_own _ rfl _ _ 48 rfl base 4 i0 (.bool false) 1 1 Tryd.underlying48 hi hz0 hz1 hz2 rfl (by decide) _ _ _ rfl (hown.alloc _) ⟨wr.heap.size, 0, none⟩ 1 1 [.bool (bitI x j)] rfl rfl ?c1 ?c2 ?c3 ?c4 ?c5 ?_)
      case c1 => exact one_new wr _ _
      case c2 => intro u hu; simp at hu; subst hu; rfl
      case c3 => unfold maxLen; omega
      case c4 => omega
      case c5 => simp; omega
      intro v' w1 hown' hgrow _
      have hg := hgrow.size
      simp at hg
      have hr := Round.step (B := base) hbel hown hown' hgrow hbase (hxs := by first | rw [List.append_assoc, HM.out] | rw [HM.out])
      clear hown hown' hgrow hbel
      obtain ⟨hown1, hbel1⟩ := hr
      go_wp2
      have hj := HJ2.out
      go_roundw
      case rel => exact ⟨k + 1, by omega, by go_num, hown1, hbel1, by omega⟩
      case measure => first | (simp [intOf]; done) | (simp [intOf]; omega)
    · obtain rfl : k = n := by omega
      have e : (k : Int) - 1 - k = -1 := by omega
      rw [e]
      clear e
      go_wp2
      go_ret
      rw [msb_all] at hown
      exact ⟨_, rfl, by rw [List.length_append, msb_length, List.map_append]; exact hown, hbel⟩
end putK
end Go.Proofs.YthjjockimpndbaaDoor

namespace Go.Bus.stuffK
set_option linter.unusedVariables false
/-- How many are alike, and which. -/
def seeN (s : Bool × Nat) (b : Bool) : Bool × Nat := if 0 < s.2 ∧ s.1 = b then (b, s.2 + 1) else (b, 1)
/-- Behind one bit: the count, what is out. -/
def stepS (s : (Bool × Nat) × List Bool) (b : Bool) : (Bool × Nat) × List Bool :=
  if (seeN s.1 b).2 = 5 then ((!b, 1), s.2 ++ [b, !b]) else (seeN s.1 b, s.2 ++ [b])
def runS (l : List Bool) : (Bool × Nat) × List Bool := l.foldl stepS ((false, 0), [])
def stuffF (l : List Bool) : List Bool := (runS l).2
theorem runS_snoc (l : List Bool) (b : Bool) : runS (l ++ [b]) = stepS (runS l) b := by simp [runS, List.foldl_append]
theorem runS_take (l : List Bool) (k : Nat) (h : k < l.length) : runS (l.take (k + 1)) = stepS (runS (l.take k)) l[k] := by
  rw [List.take_succ_eq_append_getElem h, runS_snoc]
theorem run_bd (l : List Bool) : (runS l).1.2 ≤ 4 ∧ (runS l).2.length ≤ 2 * l.length := by
  have : ∀ (n : Nat) (l : List Bool), l.length = n → (runS l).1.2 ≤ 4 ∧ (runS l).2.length ≤ 2 * l.length := by
    intro n
    induction n with
    | zero =>
      intro l h
      obtain rfl := List.eq_nil_of_length_eq_zero h
      simp [runS]
    | succ n ih =>
      intro l h
      have hl : l = l.take n ++ [l[n]] := by
        have := List.take_succ_eq_append_getElem (l := l) (i := n) (by omega)
        rw [List.take_of_length_le (by omega)] at this
        exact this
      have hi := ih (l.take n) (by rw [List.length_take]; omega)
      rw [List.length_take, Nat.min_eq_left (by omega)] at hi
      rw [hl, runS_snoc]
      unfold stepS
      split
      · simp only [List.length_append, List.length_cons, List.length_nil, List.length_take]; omega
      · rename_i h5
        have h6 : (seeN (runS (l.take n)).1 l[n]).2 ≤ 5 := by unfold seeN; split <;> simp <;> omega
        simp only [List.length_append, List.length_cons, List.length_nil, List.length_take]; omega
  exact this _ l rfl
end Go.Bus.stuffK

namespace Go.Proofs.YthjjockimpndbaaDoor
open Go.RowKit Go.Bus Go.Bus.bitK
set_option linter.unusedVariables false
namespace crcK
set_option maxRecDepth 100000 in
set_option maxHeartbeats 1000000 in
theorem add_any (b : Nat) (r : Int) (bit : Bool) (w : World) (hr : 0 ≤ r) (hr' : r < 32768) (hc : w.cell? ⟨b, 0, none⟩ = some (.int .u16 r)) (hf : w.frozen? ⟨b, 0, none⟩ = false) :
    Calls Tryd.prog 81 #[.pointer (some ⟨b, 0, none⟩), .bool bit] w fun e w' => e = .returned (.tuple #[]) ∧ w' = w.setCell ⟨b, 0, none⟩ (.int .u16 (crcI r bit)) := by
  by_cases ht : (!((bits BinOp.and IntKind.u16 r 16384 != 0) == bit)) = true
  · have HT := Lib.hid ht
    go_enter Tryd.func81, Tryd.ntmps81
    go_wp2
    refine bodyPost_ret (results_none rfl _ _ _) rfl ⟨rfl, ?_⟩
    rw [crcI, if_pos HT.out]
  · have ht' : (!((bits BinOp.and IntKind.u16 r 16384 != 0) == bit)) = false := by simpa using ht
    clear ht
    have HT := Lib.hid ht'
    go_enter Tryd.func81, Tryd.ntmps81
    go_wp2
    go_end0
    refine ⟨rfl, ?_⟩
    rw [crcI, if_neg (by rw [HT.out]; simp)]

set_option maxRecDepth 100000 in
set_option maxHeartbeats 1000000 in
theorem sum_any (v : Value) (l : List Bool) (w : World) (h : Sl w w.heap.size Value.bool v l) :
    Calls Tryd.prog 45 #[v] w fun e w' => e = .returned (.int .u16 (crcS l)) ∧ Below w.heap.size w w' := by
  obtain ⟨A, cap, rfl, hcap, hmax⟩ := h.form
  have HL := Lib.hid h; clear h
  unfold maxLen at hmax
  go_enter Tryd.func45, Tryd.ntmps45
  go_wp2_with fail
  go_in
  go_wp2
  go_loopw [5, 9] (fun _ i wr => ∃ k : Nat, k ≤ l.length ∧ i = .int .i64 k ∧ wr = w.alloc (.cells #[.int .u16 (crcS (l.take k))] 136)) (fun _ i _ => l.length - (intOf i).toNat)
  case atStart => exact ⟨0, Nat.zero_le _, rfl, rfl⟩
  case round =>
    obtain ⟨k, hk, rfl, rfl⟩ := hrel
    by_cases hlt : k < l.length
    · obtain ⟨b, off, rfl, hb, hc⟩ := HL.out.at_ hlt
      have hs := crcS_snoc (l.take k) l[k]
      rw [← take_snoc l k hlt] at hs
      have HS := Lib.hid hs; clear hs
      have hbd := crcS_bd (l.take k)
      have HB := Lib.hid hbd; clear hbd
      go_wp2_with (go_at_call 81; refine (add_any _ _ _ _ HB.out.1 HB.out.2 (by simp) (by simp)).mono ?_; rintro e w' ⟨rfl, rfl⟩)
      go_roundw
      case rel =>
        rw [← HS.out]
        (repeat apply Exists.intro); exact ⟨⟨k + 1, by omega, by go_num, rfl⟩, rfl⟩
      case measure => first | (simp [intOf]; done) | (simp [intOf]; omega)
    · obtain rfl : k = l.length := by omega
      go_wp2
      go_ret
      exact ⟨ret_int (by simp), (Below.refl _ _).alloc (Nat.le_refl _) _⟩
end crcK
end Go.Proofs.YthjjockimpndbaaDoor

namespace Go.Proofs.YthjjockimpndbaaDoor
open Go.RowKit Go.Bus
set_option linter.unusedVariables false
namespace pickK
theorem tmod_neg {k n : Int} (hk : k < 0) (hn : 0 < n) : (-n < k.tmod n ∧ k.tmod n ≤ 0) ∧ (k.tmod n < 0 → k.tmod n + n = k % n) ∧ (k.tmod n = 0 → k % n = 0) := by
  obtain ⟨m, rfl⟩ : ∃ m : Int, k = -m := ⟨-k, by omega⟩
  have h1 : (-m).tmod n = -(m % n) := by rw [Int.neg_tmod, Int.tmod_eq_emod_of_nonneg (by omega)]
  have h2 := Int.emod_nonneg m (show n ≠ 0 by omega)
  have h3 := Int.emod_lt_of_pos m hn
  have h4 := Int.mul_ediv_add_emod m n
  rw [h1]
  refine ⟨by omega, fun h => ?_, fun h => ?_⟩
  · have e5 : n * (-(m / n) - 1) = -(n * (m / n)) - n := by rw [Int.mul_sub, Int.mul_neg, Int.mul_one]
    have h5 : -m = (n - m % n) + n * (-(m / n) - 1) := by
      rw [e5]; generalize n * (m / n) = Q at *; generalize m % n = R at *; omega
    rw [h5, Int.add_mul_emod_self_left, Int.emod_eq_of_lt (a := n - m % n) (b := n) (by omega) (by omega)]
    omega
  · have h5 : -m = 0 + n * (-(m / n)) := by rw [Int.mul_neg]; omega
    rw [h5, Int.add_mul_emod_self_left]; rfl

set_option maxRecDepth 100000 in
set_option maxHeartbeats 1000000 in
theorem pick_any (k n : Int) (w : World) (hn : 0 < n) (hn' : n ≤ 9223372036854775807) (hk : -9223372036854775808 ≤ k) (hk' : k ≤ 9223372036854775807) :
    Calls Tryd.prog 10 #[.int .i64 k, .int .i64 n] w fun e w' => e = .returned (.int .i64 (k % n)) ∧ w = w' := by
  by_cases h0 : 0 ≤ k
  · have h3 := Int.emod_nonneg k (show n ≠ 0 by omega)
    go_enter Tryd.func10, Tryd.ntmps10
    go_wp2
    go_ret
    exact ⟨rfl, rfl⟩
  · obtain ⟨⟨h1, h2⟩, h3, h4⟩ := tmod_neg (k := k) (n := n) (by omega) hn
    have H3 := Lib.hid h3; clear h3
    have H4 := Lib.hid h4; clear h4
    by_cases ht : k.tmod n < 0
    · have HT := Lib.hid (H3.out ht)
      go_enter Tryd.func10, Tryd.ntmps10
      go_wp2
      go_ret
      exact ⟨ret_int (by first | exact HT.out | omega), rfl⟩
    · have HT := Lib.hid (H4.out (by omega))
      go_enter Tryd.func10, Tryd.ntmps10
      go_wp2
      go_ret
      exact ⟨ret_int (by rw [HT.out]; omega), rfl⟩
end pickK
end Go.Proofs.YthjjockimpndbaaDoor

namespace Go.Bus.stuffK
set_option linter.unusedVariables false
/-- What stuffing puts out from a state on. -/
def emit : Bool × Nat → List Bool → List Bool
  | _, [] => []
  | s, b :: l => if (seeN s b).2 = 5 then b :: (!b) :: emit (!b, 1) l else b :: emit (seeN s b) l
/-- Unstuffing from a state on, `at_` bits read: the row, or which fault (0: short, 1: ill stuffed) and where. -/
def unF : Bool × Nat → Nat → List Bool → Except (Nat × Nat) (List Bool)
  | _, _, [] => .ok []
  | s, n, [b] => if (seeN s b).2 = 5 then .error (0, n + 1) else .ok [b]
  | s, n, b :: c :: r =>
    if (seeN s b).2 = 5 then
      if c = b then .error (1, n + 1) else (unF (!b, 1) (n + 2) r).map (b :: ·)
    else (unF (seeN s b) (n + 1) (c :: r)).map (b :: ·)
theorem run_emit : ∀ (l : List Bool) (s : Bool × Nat) (o : List Bool), (l.foldl stepS (s, o)).2 = o ++ emit s l
  | [], s, o => by simp [emit]
  | b :: l, s, o => by
    rw [List.foldl_cons]
    by_cases h : (seeN s b).2 = 5
    · rw [show stepS (s, o) b = ((!b, 1), o ++ [b, !b]) from if_pos h, run_emit l, emit, if_pos h]; simp
    · rw [show stepS (s, o) b = (seeN s b, o ++ [b]) from if_neg h, run_emit l, emit, if_neg h]; simp
theorem stuff_emit (l : List Bool) : stuffF l = emit (false, 0) l := by
  have := run_emit l (false, 0) []
  simpa [stuffF, runS] using this
theorem un_emit : ∀ (l : List Bool) (s : Bool × Nat) (n : Nat), unF s n (emit s l) = .ok l
  | [], s, n => rfl
  | b :: l, s, n => by
    unfold emit
    split
    · rename_i h
      have hb : ¬ (!b) = b := by cases b <;> decide
      rw [unF, if_pos h, if_neg hb, un_emit l]; rfl
    · rename_i h
      cases l with
      | nil => simp only [emit]; rw [unF, if_neg h]
      | cons c l =>
        have ih := un_emit (c :: l) (seeN s b) (n + 1)
        obtain ⟨d, r, hd⟩ : ∃ d r, emit (seeN s b) (c :: l) = d :: r := by unfold emit; split <;> exact ⟨_, _, rfl⟩
        rw [hd] at ih ⊢
        rw [unF, if_neg h, ih]; rfl
theorem un_stuff (l : List Bool) : unF (false, 0) 0 (stuffF l) = .ok l := by rw [stuff_emit]; exact un_emit _ _ _
theorem un_only : ∀ (k : Nat) (r : List Bool) (s : Bool × Nat) (n : Nat) (l : List Bool), r.length ≤ k → unF s n r = .ok l → emit s l = r
  | _, [], s, n, l, _, h => by
    simp only [unF, Except.ok.injEq] at h
    subst h; rfl
  | 0, b :: r, s, n, l, hk, h => by simp at hk
  | k + 1, [b], s, n, l, _, h => by
    rw [unF] at h
    split at h
    · cases h
    · rename_i h5
      simp only [Except.ok.injEq] at h
      subst h
      simp [emit, h5]
  | k + 1, b :: c :: r, s, n, l, hk, h => by
    rw [unF] at h
    split at h
    · rename_i h5
      split at h
      · cases h
      · rename_i hc
        cases hu : unF (!b, 1) (n + 2) r with
        | error e => rw [hu] at h; cases h
        | ok m =>
          rw [hu] at h
          obtain rfl : b :: m = l := by simpa [Except.map] using h
          have ih := un_only k r _ _ m (by simp at hk; omega) hu
          unfold emit
          rw [if_pos h5, ih]
          have : (!b) = c := by cases b <;> cases c <;> simp_all
          rw [this]
    · rename_i h5
      cases hu : unF (seeN s b) (n + 1) (c :: r) with
      | error e => rw [hu] at h; cases h
      | ok m =>
        rw [hu] at h
        obtain rfl : b :: m = l := by simpa [Except.map] using h
        have ih := un_only k (c :: r) _ _ m (by simp at hk ⊢; omega) hu
        unfold emit
        rw [if_neg h5, ih]
theorem stuff_only {r l : List Bool} (h : unF (false, 0) 0 r = .ok l) : stuffF l = r := by rw [stuff_emit]; exact un_only _ _ _ _ _ (Nat.le_refl _) h
end Go.Bus.stuffK

namespace Go.Bus.stuffK
set_option linter.unusedVariables false
abbrev UnR := Except (Nat × Nat) (List Bool)
def pre (xs : List Bool) (r : UnR) : UnR := r.map (xs ++ ·)
theorem pre_nil (r : UnR) : pre [] r = r := by cases r <;> rfl
theorem pre_err (xs : List Bool) (x : Nat × Nat) : pre xs (.error x) = .error x := rfl
theorem pre_ok (xs l : List Bool) : pre xs (.ok l) = .ok (xs ++ l) := rfl
theorem pre_map (xs : List Bool) (b : Bool) (r : UnR) : pre xs (r.map (b :: ·)) = pre (xs ++ [b]) r := by
  cases r with
  | error x => rfl
  | ok l => show Except.ok (xs ++ b :: l) = Except.ok (xs ++ [b] ++ l); simp
theorem un_on {s : Bool × Nat} {n : Nat} {b : Bool} {xs r : List Bool} (h : ¬ (seeN s b).2 = 5) : pre xs (unF s n (b :: r)) = pre (xs ++ [b]) (unF (seeN s b) (n + 1) r) := by
  rw [← pre_map]
  cases r with
  | nil => simp only [unF, if_neg h]; rfl
  | cons c r => rw [unF, if_neg h]
theorem un_short {s : Bool × Nat} {n : Nat} {b : Bool} {xs : List Bool} (h : (seeN s b).2 = 5) : pre xs (unF s n [b]) = .error (0, n + 1) := by rw [unF, if_pos h]; rfl
theorem un_ill {s : Bool × Nat} {n : Nat} {b : Bool} {xs r : List Bool} (h : (seeN s b).2 = 5) : pre xs (unF s n (b :: b :: r)) = .error (1, n + 1) := by rw [unF, if_pos h, if_pos rfl]; rfl
theorem un_skip {s : Bool × Nat} {n : Nat} {b c : Bool} {xs r : List Bool} (h : (seeN s b).2 = 5) (hc : ¬ c = b) : pre xs (unF s n (b :: c :: r)) = pre (xs ++ [b]) (unF (!b, 1) (n + 2) r) := by
  rw [unF, if_pos h, if_neg hc, pre_map]
theorem see_le {s : Bool × Nat} (b : Bool) (h : s.2 ≤ 4) : (seeN s b).2 ≤ 5 := by unfold seeN; split <;> simp <;> omega
/-- What a call answers, by what the whole row comes to. -/
theorem drop_cons {l : List Bool} {k : Nat} (h : k < l.length) : l.drop k = l[k] :: l.drop (k + 1) := List.drop_eq_getElem_cons h
end Go.Bus.stuffK

namespace Go.Bus.decK
open Go.RowKit Go.Bus.bitK Go.Bus.stuffK
set_option linter.unusedVariables false
/-- A row, stuffed, with ten ones behind it. -/
def onF (l : List Bool) : List Bool := stuffF l ++ msb 1023 10
theorem onF_length (l : List Bool) : (onF l).length = (stuffF l).length + 10 := by unfold onF; rw [List.length_append, msb_length]
end Go.Bus.decK

namespace Go.Bus.stuffK
set_option linter.unusedVariables false
/-- Behind n bits: four bits at least stand ahead of each one put in. -/
def Fine (n : Nat) (s : (Bool × Nat) × List Bool) : Prop := n ≤ s.2.length ∧ 4 * (s.2.length - n) + s.1.2 ≤ n ∧ s.1.2 ≤ 4 ∧ (0 < n → 1 ≤ s.1.2)
theorem fine_step {n : Nat} {s : (Bool × Nat) × List Bool} (h : Fine n s) (b : Bool) : Fine (n + 1) (stepS s b) := by
  obtain ⟨h1, h2, h3, h4⟩ := h
  have h6 : 1 ≤ (seeN s.1 b).2 ∧ (seeN s.1 b).2 ≤ s.1.2 + 1 := by
    unfold seeN
    split
    · constructor <;> simp
    · constructor <;> simp
  unfold stepS Fine
  split
  · rename_i h5
    simp only [List.length_append, List.length_cons, List.length_nil]
    omega
  · rename_i h5
    simp only [List.length_append, List.length_cons, List.length_nil]
    omega
theorem fine_all : ∀ (l : List Bool) (n : Nat) (s : (Bool × Nat) × List Bool), Fine n s → Fine (n + l.length) (l.foldl stepS s)
  | [], n, s, h => h
  | b :: l, n, s, h => by
    have := fine_all l (n + 1) (stepS s b) (fine_step h b)
    rw [List.length_cons, show n + (l.length + 1) = n + 1 + l.length from by omega]
    exact this
theorem stuff_len (l : List Bool) : l.length ≤ (stuffF l).length ∧ (stuffF l).length ≤ l.length + (l.length - 1) / 4 := by
  have h := fine_all l 0 ((false, 0), []) ⟨Nat.le_refl _, by simp, by simp, by simp⟩
  rw [Nat.zero_add] at h
  obtain ⟨h1, h2, h3, h4⟩ := h
  unfold stuffF runS
  refine ⟨h1, ?_⟩
  rcases Nat.eq_zero_or_pos l.length with h0 | h0
  · omega
  · have := h4 h0
    omega
end Go.Bus.stuffK

namespace Go.Bus.farmK
open Go.RowKit Go.Bus
set_option linter.unusedVariables false
section
variable {α : Type} {w w' : World} {base : Nat} {e : TypeId} {f : α → Value} {R : List (Value × List α)}
structure Farm (w : World) (base : Nat) (e : TypeId) (f : α → Value) (R : List (Value × List α)) : Prop where
  own : ∀ (i : Nat) (v : Value) (z : List α), R[i]? = some (v, z) → w.ownsRow base e 1 v z.length (z.map f)
  apart : ∀ (i j : Nat) (v : Value) (z : List α) (u : Value) (y : List α), R[i]? = some (v, z) → R[j]? = some (u, y) → i ≠ j → ∀ q, v.ownBlock = some q → u.ownBlock ≠ some q
theorem Farm.kept {row : Option Nat} (h : Farm w base e f R) (hg : w.grownBy w' row) (hr : ∀ (i : Nat) (v : Value) (z : List α), R[i]? = some (v, z) → v.ownBlock = none ∨ v.ownBlock ≠ row) : Farm w' base e f R :=
  ⟨fun i v z hi => (h.own i v z hi).kept hg (hr i v z hi), h.apart⟩
theorem Farm.below (h : Farm w base e f R) (hb : Below w.heap.size w w') : Farm w' base e f R := ⟨fun i v z hi => own_kept (h.own i v z hi) hb, h.apart⟩
theorem Farm.cell {i t g n c : Nat} {z : List α} (h : Farm w base e f R) (hi : R[i]? = some (.slice (some ⟨g, 0, none⟩) n c, z)) (hn : z.length = n) (ht : t < z.length) :
    w.cell? ⟨g, t, none⟩ = some (f z[t]) ∧ w.frozen? ⟨g, t, none⟩ = false := by
  have ho := h.own i _ z hi
  subst hn
  refine ⟨?_, ho.frozenAt t⟩
  rw [ho.cellAt t (by omega), List.getElem?_map, List.getElem?_eq_getElem ht]; rfl
theorem Farm.form {i : Nat} {v : Value} {z : List α} (h : Farm w base e f R) (hi : R[i]? = some (v, z)) :
    ∃ A c, v = .slice A z.length c ∧ z.length ≤ c ∧ c ≤ 9223372036854775807 ∧ (0 < z.length → ∃ g, A = some ⟨g, 0, none⟩) := by
  rcases (h.own i v z hi).2 with ⟨rfl, h0⟩ | ⟨g, cap, cur, rfl, _, _, h1, h2, _⟩
  · exact ⟨none, 0, by rw [h0], by omega, by omega, fun hh => by omega⟩
  · exact ⟨_, cap, rfl, h1, by unfold maxLen at h2; omega, fun _ => ⟨g, rfl⟩⟩
theorem Farm.set {i t g n c : Nat} {z : List α} (h : Farm w base e f R) (hi : R[i]? = some (.slice (some ⟨g, 0, none⟩) n c, z)) (hn : z.length = n) (x : α) :
    Farm (w.setCell ⟨g, t, none⟩ (f x)) base e f (R.set i (.slice (some ⟨g, 0, none⟩) n c, z.set t x)) := by
  have hil : i < R.length := (List.getElem?_eq_some_iff.1 hi).1
  have ho := h.own i _ z hi
  subst hn
  have hst := ho.stored t (f x)
  constructor
  · intro j v y hj
    by_cases hji : j = i
    · subst hji
      rw [List.getElem?_set_self hil] at hj
      simp only [Option.some.injEq, Prod.mk.injEq] at hj
      obtain ⟨rfl, rfl⟩ := hj
      rw [List.length_set, List.map_set]
      exact hst.1
    · rw [List.getElem?_set_ne (Ne.symm hji)] at hj
      refine (h.own j v y hj).kept hst.2 ?_
      cases hv : v.ownBlock with
      | none => exact .inl rfl
      | some q =>
        refine .inr fun he => ?_
        exact h.apart i j _ z v y hi hj (Ne.symm hji) g (by simp [Value.ownBlock]) (by rw [hv]; exact he)
  · intro j k v y u x' hj hk hjk q hq
    have hblk : ∀ (j : Nat) (v : Value) (y : List α), (R.set i (.slice (some ⟨g, 0, none⟩) z.length c, z.set t x))[j]? = some (v, y) → ∃ y', R[j]? = some (v, y') := by
      intro j v y hj
      by_cases hji : j = i
      · subst hji
        rw [List.getElem?_set_self hil] at hj
        simp only [Option.some.injEq, Prod.mk.injEq] at hj
        obtain ⟨rfl, rfl⟩ := hj
        exact ⟨z, hi⟩
      · rw [List.getElem?_set_ne (Ne.symm hji)] at hj
        exact ⟨y, hj⟩
    obtain ⟨y1, h1⟩ := hblk j v y hj
    obtain ⟨y2, h2⟩ := hblk k u x' hk
    exact h.apart j k v y1 u y2 h1 h2 hjk q hq
/-- A row more, in a block of its own. -/
theorem Farm.snoc {v : Value} {z : List α} (h : Farm w base e f R) (ho : w.ownsRow base e 1 v z.length (z.map f)) (hv : ∀ (i : Nat) (u : Value) (y : List α) (q : Nat), R[i]? = some (u, y) → u.ownBlock = some q → v.ownBlock ≠ some q) : Farm w base e f (R ++ [(v, z)]) := by
  have hsp : ∀ (i : Nat) (p : Value × List α), (R ++ [(v, z)])[i]? = some p → R[i]? = some p ∨ (i = R.length ∧ p = (v, z)) := by
    intro i p hi
    rcases Nat.lt_or_ge i R.length with hlt | hge
    · rw [List.getElem?_append_left hlt] at hi; exact .inl hi
    · have hl := (List.getElem?_eq_some_iff.1 hi).1
      simp at hl
      obtain rfl : i = R.length := by omega
      rw [List.getElem?_append_right (Nat.le_refl _), Nat.sub_self] at hi
      simp at hi
      exact .inr ⟨rfl, hi.symm⟩
  constructor
  · intro i u y hi
    rcases hsp i _ hi with hi | ⟨_, hi⟩
    · exact h.own i u y hi
    · simp only [Prod.mk.injEq] at hi; obtain ⟨rfl, rfl⟩ := hi; exact ho
  · intro i j u y u2 y2 hi hj hij q hq
    rcases hsp i _ hi with a1 | ⟨e1, a1⟩ <;> rcases hsp j _ hj with b1 | ⟨e2, b1⟩
    · exact h.apart i j u y u2 y2 a1 b1 hij q hq
    · have e3 : u2 = v := (Prod.mk.inj b1).1
      rw [e3]
      exact hv i u y q a1 hq
    · have e3 : u = v := (Prod.mk.inj a1).1
      rw [e3] at hq
      intro he
      exact hv j u2 y2 q b1 he hq
    · omega
end
end Go.Bus.farmK

namespace Go.Bus.farmK
open Go.RowKit Go.Bus
set_option linter.unusedVariables false
section
variable {α : Type} {w w' : World} {base : Nat} {e : TypeId} {f : α → Value} {R : List (Value × List α)}
theorem own_prefix {A : Option Addr} {m n c : Nat} {xs : List Value} (h : w.ownsRow base e 1 (.slice A m c) m xs) (hn : n ≤ m) : w.ownsRow base e 1 (.slice A n c) n (xs.take n) := by
  have hl := h.1
  refine ⟨by rw [List.length_take]; omega, ?_⟩
  rcases h.2 with ⟨h0, h1⟩ | ⟨g, cap, cur, hv, hb, hh, h1, h2, h3, h4⟩
  · simp only [Value.slice.injEq] at h0
    obtain ⟨rfl, rfl, rfl⟩ := h0
    obtain rfl : n = 0 := by omega
    exact .inl ⟨rfl, rfl⟩
  · simp only [Value.slice.injEq] at hv
    obtain ⟨rfl, _, rfl⟩ := hv
    refine .inr ⟨g, c, cur, rfl, hb, hh, by omega, h2, h3, ?_⟩
    rw [← h4, List.take_take, Nat.min_eq_left (by omega), Nat.mul_one]
theorem own_ne_own {base' : Nat} {t : TypeId} {s s' n m : Nat} {v u : Value} {xs ys : List Value} (h : w.ownsRow base e s v n xs) (h' : w.ownsRow base' t s' u m ys) (hne : e ≠ t) : ∀ q, v.ownBlock = some q → u.ownBlock ≠ some q := by
  intro q hq he
  rcases h.2 with ⟨rfl, _⟩ | ⟨g, cap, cur, rfl, _, hh, _⟩
  · simp [Value.ownBlock] at hq
  · rcases h'.2 with ⟨rfl, _⟩ | ⟨g', cap', cur', rfl, _, hh', _⟩
    · simp [Value.ownBlock] at he
    · have e1 : g = q := by simpa [Value.ownBlock] using hq
      have e2 : g' = q := by simpa [Value.ownBlock] using he
      subst e1; subst e2
      rw [hh] at hh'
      simp only [Option.some.injEq, Obj.cells.injEq] at hh'
      exact hne hh'.2.1
theorem Farm.lt {i : Nat} {v : Value} {z : List α} (h : Farm w base e f R) (hi : R[i]? = some (v, z)) : ∀ q, v.ownBlock = some q → base ≤ q ∧ q < w.heap.size := fun q hq => (h.own i v z hi).lt q hq
/-- Row i is another one now, in its own block or in a new one. -/
theorem Farm.put {i : Nat} {v v' : Value} {z z' : List α} (h : Farm w base e f R) (hi : R[i]? = some (v, z)) (ho : w'.ownsRow base e 1 v' z'.length (z'.map f)) (hg : w.grownBy w' v.ownBlock)
    (hb : v'.ownBlock = v.ownBlock ∨ ∀ q, v'.ownBlock = some q → w.heap.size ≤ q) : Farm w' base e f (R.set i (v', z')) := by
  have hil : i < R.length := (List.getElem?_eq_some_iff.1 hi).1
  have hother : ∀ (j : Nat) (u : Value) (y : List α), j ≠ i → R[j]? = some (u, y) → u.ownBlock = none ∨ u.ownBlock ≠ v.ownBlock := by
    intro j u y hji hj
    cases hu : u.ownBlock with
    | none => exact .inl rfl
    | some q => exact .inr fun he => h.apart j i u y v z hj hi hji q hu he.symm
  have hnew : ∀ (j : Nat) (u : Value) (y : List α), j ≠ i → R[j]? = some (u, y) → ∀ q, v'.ownBlock = some q → u.ownBlock ≠ some q := by
    intro j u y hji hj q hq hu
    rcases hb with hb | hb
    · exact h.apart j i u y v z hj hi hji q hu (by rw [← hb]; exact hq)
    · have h1 := hb q hq
      have h2 := (h.lt hj q hu).2
      omega
  have hget : ∀ (j : Nat) (p : Value × List α), (R.set i (v', z'))[j]? = some p → (j = i ∧ p = (v', z')) ∨ (j ≠ i ∧ R[j]? = some p) := by
    intro j p hj
    by_cases hji : j = i
    · subst hji
      rw [List.getElem?_set_self hil] at hj
      exact .inl ⟨rfl, (Option.some.inj hj).symm⟩
    · rw [List.getElem?_set_ne (Ne.symm hji)] at hj
      exact .inr ⟨hji, hj⟩
  constructor
  · intro j u y hj
    rcases hget j _ hj with ⟨_, hp⟩ | ⟨hji, hj⟩
    · simp only [Prod.mk.injEq] at hp; obtain ⟨rfl, rfl⟩ := hp; exact ho
    · exact (h.own j u y hj).kept hg (hother j u y hji hj)
  · intro j k u y u2 y2 hj hk hjk q hq
    rcases hget j _ hj with ⟨e1, hp⟩ | ⟨hji, hj'⟩ <;> rcases hget k _ hk with ⟨e2, hp2⟩ | ⟨hki, hk'⟩
    · omega
    · have e3 : u = v' := (Prod.mk.inj hp).1
      rw [e3] at hq
      exact hnew k u2 y2 hki hk' q hq
    · have e3 : u2 = v' := (Prod.mk.inj hp2).1
      rw [e3]
      intro he
      exact hnew j u y hji hj' q he hq
    · exact h.apart j k u y u2 y2 hj' hk' hjk q hq
theorem grown_any (h : w.grownBy w' none) (row : Option Nat) : w.grownBy w' row := ⟨h.os, h.tape, h.output, h.size, fun i hi _ => h.block i hi (by simp)⟩
theorem own_reads {A : Option Addr} {n c : Nat} {xs : List Value} (h : w.ownsRow base e 1 (.slice A n c) n xs) :
    (A = none → n = 0 ∧ c = 0) ∧ (0 < c → ∃ g, A = some ⟨g, 0, none⟩) ∧ (∀ b, A = some b → ∀ (j : Nat) (u : Value), xs[j]? = some u → w.cell? (b.add j) = some u) := by
  rcases h.2 with ⟨h0, h1⟩ | ⟨g, cap, cur, hv, hb, hh, h1, h2, h3, h4⟩
  · simp only [Value.slice.injEq] at h0
    obtain ⟨rfl, rfl, rfl⟩ := h0
    exact ⟨fun _ => ⟨rfl, rfl⟩, fun hc => by omega, fun b hb => by cases hb⟩
  · simp only [Value.slice.injEq] at hv
    obtain ⟨rfl, _, rfl⟩ := hv
    refine ⟨fun hn => by simp at hn, fun _ => ⟨g, rfl⟩, fun b hb j u hu => ?_⟩
    obtain rfl : (⟨g, 0, none⟩ : Addr) = b := by simpa using hb
    have hadd : ((⟨g, 0, none⟩ : Addr).add j) = ⟨g, j, none⟩ := by unfold Addr.add; split <;> simp_all
    rw [hadd, cell_of_row w g j cur e (0, 0) hh]
    rw [← h4, List.getElem?_take] at hu
    split at hu
    · simpa using hu
    · cases hu
/-- Row i moves into new memory; what it was, or a part of it, stays as row l, where none was. -/
theorem Farm.move {i l : Nat} {v v1 V u : Value} {z z1 Y y : List α} (h : Farm w base e f R) (hil : i ≠ l) (hi : R[i]? = some (v, z)) (hl : R[l]? = some (u, y)) (hu : u.ownBlock = none) (hg : w.grownBy w' none)
    (ho : w'.ownsRow base e 1 v1 z1.length (z1.map f)) (hb : ∀ q, v1.ownBlock = some q → w.heap.size ≤ q) (hV : w'.ownsRow base e 1 V Y.length (Y.map f)) (hVb : V.ownBlock = v.ownBlock) :
    Farm w' base e f ((R.set i (v1, z1)).set l (V, Y)) := by
  have hiL : i < R.length := (List.getElem?_eq_some_iff.1 hi).1
  have hlL : l < R.length := (List.getElem?_eq_some_iff.1 hl).1
  have hget : ∀ (j : Nat) (p : Value × List α), ((R.set i (v1, z1)).set l (V, Y))[j]? = some p → (j = l ∧ p = (V, Y)) ∨ (j = i ∧ j ≠ l ∧ p = (v1, z1)) ∨ (j ≠ i ∧ j ≠ l ∧ R[j]? = some p) := by
    intro j p hj
    by_cases hjl : j = l
    · subst hjl
      rw [List.getElem?_set_self (by rw [List.length_set]; exact hlL)] at hj
      exact .inl ⟨rfl, (Option.some.inj hj).symm⟩
    · rw [List.getElem?_set_ne (Ne.symm hjl)] at hj
      by_cases hji : j = i
      · subst hji
        rw [List.getElem?_set_self hiL] at hj
        exact .inr (.inl ⟨rfl, hjl, (Option.some.inj hj).symm⟩)
      · rw [List.getElem?_set_ne (Ne.symm hji)] at hj
        exact .inr (.inr ⟨hji, hjl, hj⟩)
  have old : ∀ (j : Nat) (x : Value) (t : List α), R[j]? = some (x, t) → ∀ q, v1.ownBlock = some q → x.ownBlock ≠ some q := by
    intro j x t hj q hq he
    have h1 := hb q hq
    have h2 := (h.lt hj q he).2
    omega
  constructor
  · intro j x t hj
    rcases hget j _ hj with ⟨_, hp⟩ | ⟨_, _, hp⟩ | ⟨_, _, hj'⟩
    · simp only [Prod.mk.injEq] at hp; obtain ⟨rfl, rfl⟩ := hp; exact hV
    · simp only [Prod.mk.injEq] at hp; obtain ⟨rfl, rfl⟩ := hp; exact ho
    · exact (h.own j x t hj').kept hg (by cases hx : x.ownBlock with | none => exact .inl rfl | some q => exact .inr (by simp))
  · intro j k x t x2 t2 hj hk hjk q hq
    rcases hget j _ hj with ⟨e1, hp⟩ | ⟨e1, n1, hp⟩ | ⟨n1, m1, hj'⟩ <;> rcases hget k _ hk with ⟨e2, hp2⟩ | ⟨e2, n2, hp2⟩ | ⟨n2, m2, hk'⟩
    · omega
    · have a1 : x = V := (Prod.mk.inj hp).1
      have a2 : x2 = v1 := (Prod.mk.inj hp2).1
      rw [a1, hVb] at hq
      rw [a2]
      intro he
      exact old i v z hi q he hq
    · have a1 : x = V := (Prod.mk.inj hp).1
      rw [a1, hVb] at hq
      exact h.apart i k v z x2 t2 hi hk' (Ne.symm n2) q hq
    · have a1 : x = v1 := (Prod.mk.inj hp).1
      have a2 : x2 = V := (Prod.mk.inj hp2).1
      rw [a1] at hq
      rw [a2, hVb]
      exact old i v z hi q hq
    · omega
    · have a1 : x = v1 := (Prod.mk.inj hp).1
      rw [a1] at hq
      exact old k x2 t2 hk' q hq
    · have a2 : x2 = V := (Prod.mk.inj hp2).1
      rw [a2, hVb]
      exact h.apart j i x t v z hj' hi n1 q hq
    · have a2 : x2 = v1 := (Prod.mk.inj hp2).1
      rw [a2]
      intro he
      exact old j x t hj' q he hq
    · exact h.apart j k x t x2 t2 hj' hk' hjk q hq
end
end Go.Bus.farmK

namespace Go.Bus.flipK
open Go.RowKit Go.Bus Go.Bus.farmK
set_option linter.unusedVariables false
def flipTo (t : Nat) (y : List Bool) : List Bool := (y.take t).map (!·) ++ y.drop t
theorem flip_length (t : Nat) (y : List Bool) : (flipTo t y).length = y.length := by
  unfold flipTo; rw [List.length_append, List.length_map, List.length_take, List.length_drop]; omega
theorem flip_zero (y : List Bool) : flipTo 0 y = y := by simp [flipTo]
theorem flip_get {t i : Nat} {y : List Bool} (h : i < y.length) : (flipTo t y)[i]'(by rw [flip_length]; exact h) = if i < t then !y[i] else y[i] := by
  unfold flipTo
  by_cases hi : i < t
  · rw [List.getElem_append_left (by rw [List.length_map, List.length_take]; omega), List.getElem_map, List.getElem_take, if_pos hi]
  · rw [List.getElem_append_right (by rw [List.length_map, List.length_take]; omega), List.getElem_drop, if_neg hi]
    congr 1
    rw [List.length_map, List.length_take]; omega
theorem flip_set {t : Nat} {y : List Bool} (h : t < y.length) : (flipTo t y).set t (!y[t]) = flipTo (t + 1) y := by
  apply List.ext_getElem
  · rw [List.length_set, flip_length, flip_length]
  · intro i h1 h2
    have hi : i < y.length := by rw [List.length_set, flip_length] at h1; exact h1
    rw [flip_get hi]
    by_cases hit : t = i
    · subst hit; rw [List.getElem_set_self, if_pos (by omega)]
    · rw [List.getElem_set_ne hit, flip_get hi]
      by_cases h3 : i < t
      · rw [if_pos h3, if_pos (by omega)]
      · rw [if_neg h3, if_neg (by omega)]
end Go.Bus.flipK

namespace Go.Proofs.YthjjockimpndbaaDoor
open Go.RowKit Go.Bus Go.Bus.farmK Go.Bus.flipK
set_option linter.unusedVariables false
namespace apartK
structure Env (w wr : World) (q base gg cg wsz : Nat) (rows F Wl : List (Value × List Bool)) (was : Value) : Prop where
  was_ : wr.ownsRow wsz 48 1 was rows.length (Wl.map (·.1))
  gs_ : wr.ownsRow w.heap.size 48 1 (.slice (some ⟨gg, 0, none⟩) rows.length cg) rows.length (F.map (·.1))
  q_ : Has wr q 48 (rows.map (·.1)).toArray
  bel : Below base w wr
  sz : wsz ≤ wr.heap.size
section
variable {w wr : World} {q base gg cg wsz : Nat} {rows F Wl : List (Value × List Bool)} {was : Value}
theorem Env.drewN (h : Env w wr q base gg cg wsz rows F Wl was) (n : Nat) : Env w (wr.drewN n) q base gg cg wsz rows F Wl was :=
  ⟨h.was_, h.gs_, h.q_, below_drewN h.bel n, h.sz⟩
theorem Env.store (h : Env w wr q base gg cg wsz rows F Wl was) {g n c : Nat} {xs : List Value} (ho : wr.ownsRow base 4 1 (.slice (some ⟨g, 0, none⟩) n c) n xs) (t : Nat) (u : Value) :
    Env w (wr.setCell ⟨g, t, none⟩ u) q base gg cg wsz rows F Wl was := by
  have hg : wr.grownBy (wr.setCell ⟨g, t, none⟩ u) (some g) := only_set (World.grownBy.refl _ _) t u
  have hne : ∀ {bb m : Nat} {v : Value} {ys : List Value}, wr.ownsRow bb 48 1 v m ys → v.ownBlock = none ∨ v.ownBlock ≠ some g := by
    intro bb m v ys hv
    cases hvb : v.ownBlock with
    | none => exact .inl rfl
    | some r => exact .inr fun he => own_ne_own hv ho (by decide) r hvb he.symm
  refine ⟨h.was_.kept hg (hne h.was_), h.gs_.kept hg (hne h.gs_), h.q_.far (p := ⟨g, t, none⟩) (fun e => own_has_ne ho h.q_ (by decide) (by rw [e]; rfl)) u, h.bel.setCell (p := ⟨g, t, none⟩) (ho.lt g (by rfl)).1 u, ?_⟩
  rw [World.size_setCell]; exact h.sz
end
end apartK
end Go.Proofs.YthjjockimpndbaaDoor

namespace Go.Proofs.YthjjockimpndbaaDoor
open Go.RowKit Go.Bus
set_option linter.unusedVariables false
namespace lentK
section
variable {α : Type} {w w' : World} {base B : Nat} {e : TypeId} {f : α → Value} {v : Value} {l t : List α}
theorem sl_of (h : Lent w base e f v l.length (l ++ t)) : Sl w w.heap.size f v l := by
  obtain ⟨g, cap, rfl, hn, ho⟩ := h
  obtain ⟨A', cap', hv, hl, hc, hx⟩ := Sl.of_own ho
  simp only [Value.slice.injEq] at hv
  obtain ⟨rfl, _, rfl⟩ := hv
  refine ⟨_, cap, rfl, by omega, hc, fun h0 => ?_⟩
  obtain ⟨b, off, hb, hlt, hcell⟩ := hx (by rw [List.length_append]; omega)
  exact ⟨b, off, hb, hlt, fun i x hi => hcell i x (by rw [List.getElem?_append_left (List.getElem?_eq_some_iff.1 hi).1]; exact hi)⟩
theorem own_below {v : Value} {n : Nat} {xs : List Value} (h : w.ownsRow base e 1 v n xs) (hb : Below B w w') (hlt : ∀ q, v.ownBlock = some q → q < B) : w'.ownsRow base e 1 v n xs := by
  refine ⟨h.1, ?_⟩
  rcases h.2 with hn | ⟨g, cap, cur, rfl, hbb, hgg, rest⟩
  · exact .inl hn
  · exact .inr ⟨g, cap, cur, rfl, hbb, (hb.block g (hlt g (by rfl))).trans hgg, rest⟩
theorem lent_below {n : Nat} (h : Lent w base e f v n l) (hb : Below B w w') (hlt : ∀ q, v.ownBlock = some q → q < B) : Lent w' base e f v n l := by
  obtain ⟨g, cap, rfl, hn, ho⟩ := h
  exact ⟨g, cap, rfl, hn, own_below ho hb (fun q hq => hlt q (by simpa [Value.ownBlock] using hq))⟩
theorem lent_lt {n : Nat} (h : Lent w base e f v n l) : ∀ q, v.ownBlock = some q → q < w.heap.size := by
  obtain ⟨g, cap, rfl, hn, ho⟩ := h
  intro q hq
  exact (ho.lt q (by simpa [Value.ownBlock] using hq)).2
end
end lentK
end Go.Proofs.YthjjockimpndbaaDoor

namespace Go.Bus
open Go.RowKit Go.ChangeShapes Go.WideShapes
set_option linter.unusedVariables false
section
variable {H : Type} {enc : TypeId × Value → H} {P : Program} {w : World}
theorem open_bl {t e : TypeId} {n : Nat} {v : Value} {y : DataW H × List MemPlace} (ht : P.underlying t = some (.slice e)) (he : P.underlying e = some .bool) (hc : P.cellsOf e = 1)
    (h : DataW.trod enc P w 0 (fun _ => true) true n t [v] = some y) :
    ∃ l : List Bool, Sl w w.heap.size Value.bool v l ∧ ((∀ m ∈ y.1.weights P t, m ≤ reachBytes) → l.length * P.bytesOf e ≤ 140737488351232) ∧ (l = [] ∨ ∃ es sp, y.1 = .slice es sp ∧ es.length = l.length) := by
  rcases Go.Deep.open_bools ht he hc h with ⟨hcs, hx⟩ | ⟨a, len, cap, B, hcs, _, hl, hm, hx, hcell⟩
  · obtain rfl : v = .slice none 0 0 := by simpa using hcs
    exact ⟨[], Sl.nil_ _ _ _, by simp, .inl rfl⟩
  · obtain rfl : v = .slice (some a) len cap := by simpa using hcs
    have hll : ((List.range len).map B).length = len := by simp
    refine ⟨(List.range len).map B, ⟨some a, cap, by rw [hll], by omega, hm, fun h0 => ?_⟩, fun hw => ?_, .inr ⟨_, _, by rw [hx]; rfl, by simp⟩⟩
    · have h1 := hcell 0 (by omega)
      obtain ⟨b, off, spot⟩ := a
      have hspot : spot = none := by simpa [Addr.add] using World.cell?_spot h1
      subst hspot
      refine ⟨b, off, rfl, World.block_lt_of_cell? w ⟨b, off, none⟩ (by simpa [Addr.add] using h1), fun i x hi => ?_⟩
      obtain ⟨hi1, hi2⟩ := List.getElem?_eq_some_iff.1 hi
      have h2 := hcell i (by omega)
      have h3 : ((⟨b, off, none⟩ : Addr).add i) = ⟨b, off + i, none⟩ := by unfold Addr.add; split <;> simp_all
      rw [h3] at h2
      rw [h2, ← hi2, List.getElem_map, List.getElem_range]
    · subst hx
      have := hw (((List.range len).map fun i => (DataW.lit (Lit.bool (B i)) : DataW H)).length * 1 * P.bytesOf e + ((List.range (cap - len)).map fun j => (DataW.lit (Lit.bool (B (len + j))) : DataW H)).length * P.bytesOf e) (by
        simp only [Go.Deep.boolRow, DataW.weights, ht, Nat.mul_one, Nat.add_mul]; exact List.mem_cons_self)
      simp only [List.length_map, List.length_range, reachBytes, Nat.mul_one] at this
      rw [hll]
      omega
end
end Go.Bus
namespace Go.Proofs.YthjjockimpndbaaDoor
open Go.RowKit Go.Bus Go.Joins Go.ChangeShapes Go.WideShapes
namespace boolsA
set_option maxRecDepth 100000 in
theorem open_bools {H : Type} {enc : TypeId × Value → H} {w : World} {r : Reach} {b0 : Nat} {v : Value} {d : DataW H} {p : List MemPlace} (hv : Value.okWide Tryd.prog w r b0 48 v)
    (h : DataW.Trod enc Tryd.prog w 0 (fun _ => true) true 48 v d p) (hw : ∀ m ∈ d.weights Tryd.prog 48, m ≤ reachBytes) :
    ∃ l : List Bool, Sl w w.heap.size Value.bool v l ∧ l.length ≤ 140737488351232 := by
  obtain ⟨a0, n0, c0, rfl⟩ := Go.WideShapes.okWide_slice Tryd.underlying48 hv
  obtain ⟨m, hm⟩ := h
  obtain ⟨l, hs, hb, _⟩ := open_bl Tryd.underlying48 Tryd.underlying4 (by kernel_rfl) hm
  have hb' := hb hw
  rw [show Tryd.prog.bytesOf 4 = 1 from by kernel_rfl] at hb'
  exact ⟨l, hs, by omega⟩
set_option maxRecDepth 100000 in
theorem open_bools_bulk {H : Type} {enc : TypeId × Value → H} {w : World} {r : Reach} {b0 : Nat} {v : Value} {d : DataW H} {p : List MemPlace} (hv : Value.okWide Tryd.prog w r b0 48 v)
    (h : DataW.Trod enc Tryd.prog w 0 (fun _ => true) true 48 v d p) (hw : ∀ m ∈ d.weights Tryd.prog 48, m ≤ reachBytes) :
    ∃ l : List Bool, Sl w w.heap.size Value.bool v l ∧ l.length ≤ 140737488351232 ∧ (l = [] ∨ ∃ es sp, d = .slice es sp ∧ es.length = l.length) := by
  obtain ⟨a0, n0, c0, rfl⟩ := Go.WideShapes.okWide_slice Tryd.underlying48 hv
  obtain ⟨m, hm⟩ := h
  obtain ⟨l, hs, hb, hd⟩ := open_bl Tryd.underlying48 Tryd.underlying4 (by kernel_rfl) hm
  have hb' := hb hw
  rw [show Tryd.prog.bytesOf 4 = 1 from by kernel_rfl] at hb'
  exact ⟨l, hs, by omega, hd⟩
end boolsA
end Go.Proofs.YthjjockimpndbaaDoor

namespace Go.Bus.apartG
open Go.RowKit Go.Bus Go.Bus.farmK
set_option linter.unusedVariables false
theorem own_cap2 {w : World} {base : Nat} {e : TypeId} {A : Option Addr} {n c : Nat} {xs : List Value} (h : w.ownsRow base e 1 (.slice A n c) n xs) : n ≤ c ∧ c ≤ 9223372036854775807 := by
  rcases h.2 with ⟨h0, h1⟩ | ⟨g, cap, cur, hv, _, _, h1, h2, _⟩
  · simp only [Value.slice.injEq] at h0
    obtain ⟨_, rfl, rfl⟩ := h0
    omega
  · simp only [Value.slice.injEq] at hv
    obtain ⟨_, _, rfl⟩ := hv
    exact ⟨h1, by unfold maxLen at h2; omega⟩
section
variable {α : Type} {f : α → Value} {e : TypeId}
/-- How a list V with content X lies to the same with more behind: in one block, or in d. -/
def Pair (V : Value) (X : List α) (m : Nat) (G : Value) (d : Value × List α) : Prop :=
  (d = (.slice none 0 0, []) ∧ ∃ A c, V = .slice A X.length c ∧ G = .slice A m c) ∨ (d.1 = V ∧ d.2 = X ∧ ∃ A c, G = .slice A m c)
structure P1 (E : Nat → List α → List α) (rows F D : List (Value × List α)) (k : Nat) : Prop where
  lenF : F.length = rows.length
  lenD : D.length = k
  done : ∀ (i : Nat) (p : Value × List α), i < k → rows[i]? = some p → ∃ (G : Value) (d : Value × List α), F[i]? = some (G, E i p.2) ∧ D[i]? = some d ∧ Pair p.1 p.2 (E i p.2).length G d
  todo : ∀ i, k ≤ i → F[i]? = rows[i]?
variable {w w1 : World} {base k m c : Nat} {F D : List (Value × List α)} {V gv v1 : Value} {X Z Z1 : List α} {d : Value × List α} {o : Obj} {A : Option Addr}
theorem at_k (hk : k < F.length) (p : Value × List α) (T : List (Value × List α)) : (F.set k p ++ T)[k]? = some p := by
  rw [List.getElem?_append_left (by rw [List.length_set]; exact hk), List.getElem?_set_self hk]
theorem set_k (hk : k < F.length) (p p1 : Value × List α) (T : List (Value × List α)) : (F.set k p ++ T).set k p1 = F.set k p1 ++ T := by
  rw [List.set_append_left _ _ (by rw [List.length_set]; exact hk), List.set_set]
theorem set_same {p : Value × List α} (hk : F[k]? = some p) : F.set k p = F := by
  have hl := (List.getElem?_eq_some_iff.1 hk).1
  apply List.ext_getElem?
  intro j
  by_cases hj : j = k
  · subst hj; rw [List.getElem?_set_self hl, hk]
  · rw [List.getElem?_set_ne (Ne.symm hj)]
theorem fit_step (hk : k < F.length) (h : Farm w base e f (F.set k (gv, Z) ++ (D ++ [d]))) (ho : w1.ownsRow base e 1 v1 Z1.length (Z1.map f)) (hg : (w.alloc o).grownBy w1 gv.ownBlock)
    (hb : v1.ownBlock = gv.ownBlock) : Farm w1 base e f (F.set k (v1, Z1) ++ (D ++ [d])) := by
  have h1 : Farm (w.alloc o) base e f (F.set k (gv, Z) ++ (D ++ [d])) := h.below ((Below.refl _ _).alloc (Nat.le_refl _) _)
  have h2 := h1.put (at_k hk _ _) ho hg (.inl hb)
  rw [set_k hk] at h2
  exact h2
theorem grow_step (hk : k < F.length) (hXZ : Z.take X.length = X) (hXl : X.length ≤ Z.length) (hm : Z.length = m) (hgv : gv = .slice A m c) (hV : Pair V X m gv d) (h : Farm w base e f (F.set k (gv, Z) ++ (D ++ [d])))
    (ho : w1.ownsRow (w.alloc o).heap.size e 1 v1 Z1.length (Z1.map f)) (hbase : base ≤ w.heap.size) (hg : (w.alloc o).grownBy w1 none) (hv1 : ∃ A c, v1 = .slice A (m + 1) c) :
    ∃ d1, Pair V X (m + 1) v1 d1 ∧ Farm w1 base e f (F.set k (v1, Z1) ++ (D ++ [d1])) := by
  have h1 : Farm (w.alloc o) base e f (F.set k (gv, Z) ++ (D ++ [d])) := h.below ((Below.refl _ _).alloc (Nat.le_refl _) _)
  have hbn : base ≤ (w.alloc o).heap.size := by simp; omega
  have hfresh : ∀ q, v1.ownBlock = some q → (w.alloc o).heap.size ≤ q := fun q hq => (ho.lt q hq).1
  rcases hV with ⟨hd, A0, c0, hV1, hV2⟩ | ⟨hd1, hd2, hd3⟩
  · subst hd
    have hi := at_k hk (gv, Z) (D ++ [(Value.slice none 0 0, [])])
    have hlen : (F.set k (gv, Z)).length = F.length := List.length_set
    have hl : (F.set k (gv, Z) ++ (D ++ [((Value.slice none 0 0 : Value), ([] : List α))]))[F.length + D.length]? = some (.slice none 0 0, []) := by
      rw [List.getElem?_append_right (by omega), hlen]
      simp
    have hgo := (h1.own k gv Z hi).kept hg (by cases gv.ownBlock with | none => exact .inl rfl | some q => exact .inr (by simp))
    have hgv2 : w1.ownsRow base e 1 (.slice A0 Z.length c0) Z.length (Z.map f) := by rw [hm]; rw [hV2] at hgo; rw [← hm] at hgo ⊢; exact hgo
    have hpre := own_prefix hgv2 hXl
    rw [← List.map_take, hXZ] at hpre
    have hVb : V.ownBlock = gv.ownBlock := by rw [hV1, hV2]; cases A0 <;> rfl
    have hmv := h1.move (i := k) (l := F.length + D.length) (by omega) hi hl rfl hg (own_base ho hbn) hfresh (V := V) (Y := X) (by rw [hV1]; exact hpre) hVb
    refine ⟨(V, X), .inr ⟨rfl, rfl, hv1⟩, ?_⟩
    rw [set_k hk] at hmv
    have e1 : (F.set k (v1, Z1) ++ (D ++ [((Value.slice none 0 0 : Value), ([] : List α))])).set (F.length + D.length) (V, X) = F.set k (v1, Z1) ++ (D ++ [(V, X)]) := by
      rw [List.set_append_right _ _ (by rw [List.length_set]; omega), List.length_set, Nat.add_sub_cancel_left, List.set_append_right _ _ (Nat.le_refl _), Nat.sub_self]; rfl
    rw [e1] at hmv
    exact hmv
  · refine ⟨d, .inr ⟨hd1, hd2, hv1⟩, ?_⟩
    have h2 := h1.put (at_k hk _ _) (own_base ho hbn) (grown_any hg _) (.inr hfresh)
    rw [set_k hk] at h2
    exact h2
end
section
variable {α : Type} {f : α → Value} {e : TypeId}
theorem p1_step {E : Nat → List α → List α} {rows F D : List (Value × List α)} {k : Nat} {V gv : Value} {X : List α} {d : Value × List α} (h : P1 E rows F D k) (hk : k < rows.length) (hr : rows[k]? = some (V, X)) (hp : Pair V X (E k X).length gv d) :
    P1 E rows (F.set k (gv, E k X)) (D ++ [d]) (k + 1) ∧ ((F.set k (gv, E k X)).take (k + 1)).map (·.1) = (F.take k).map (·.1) ++ [gv] := by
  have hkF : k < F.length := by rw [h.lenF]; exact hk
  refine ⟨⟨by rw [List.length_set]; exact h.lenF, by simp [h.lenD], fun i p hi hpi => ?_, fun i hi => ?_⟩, ?_⟩
  · by_cases hik : i = k
    · subst hik
      rw [hr] at hpi
      obtain rfl : (V, X) = p := Option.some.inj hpi
      exact ⟨gv, d, List.getElem?_set_self hkF, by rw [List.getElem?_append_right (by rw [h.lenD]; exact Nat.le_refl _), h.lenD]; simp, hp⟩
    · obtain ⟨G, d', h1, h2, h3⟩ := h.done i p (by omega) hpi
      exact ⟨G, d', by rw [List.getElem?_set_ne (Ne.symm hik)]; exact h1, by rw [List.getElem?_append_left (by rw [h.lenD]; omega)]; exact h2, h3⟩
  · rw [List.getElem?_set_ne (by omega)]
    exact h.todo i (by omega)
  · rw [List.take_succ_eq_append_getElem (by rw [List.length_set]; exact hkF), List.map_append, List.getElem_set_self]
    rw [List.take_set_of_le (Nat.le_refl _)]
    rfl
/-- The first k rows are written over: row j holds M j. -/
structure S0 (M : Nat → Nat → List α) (rows R : List (Value × List α)) (k : Nat) : Prop where
  heads : R.map (·.1) = rows.map (·.1)
  lens : R.map (fun p => p.2.length) = rows.map (fun p => p.2.length)
  done : ∀ (j : Nat) (p : Value × List α), j < k → R[j]? = some p → p.2 = M j p.2.length
theorem S0.at_ {M : Nat → Nat → List α} {rows R : List (Value × List α)} {k i : Nat} {p : Value × List α} (h : S0 M rows R k) (hp : rows[i]? = some p) : ∃ z, R[i]? = some (p.1, z) ∧ z.length = p.2.length := by
  have h1 := congrArg (fun l : List Value => l[i]?) h.heads
  have h2 := congrArg (fun l : List Nat => l[i]?) h.lens
  simp only [List.getElem?_map, hp, Option.map_some] at h1 h2
  cases hr : R[i]? with
  | none => rw [hr] at h1; simp at h1
  | some r =>
    rw [hr] at h1 h2
    simp only [Option.map_some, Option.some.injEq] at h1 h2
    exact ⟨r.2, by rw [← h1], h2⟩
theorem S0.next {M : Nat → Nat → List α} {rows R : List (Value × List α)} {k : Nat} {V : Value} {Y : List α} (h : S0 M rows R k) (hp : R[k]? = some (V, Y)) (hM : (M k Y.length).length = Y.length) : S0 M rows (R.set k (V, M k Y.length)) (k + 1) := by
  have hl := (List.getElem?_eq_some_iff.1 hp).1
  refine ⟨?_, ?_, fun j p hj hjp => ?_⟩
  · rw [← h.heads, List.map_set]
    refine List.ext_getElem? fun j => ?_
    by_cases hjk : j = k
    · subst hjk
      rw [List.getElem?_set_self (by rw [List.length_map]; exact hl), List.getElem?_map, hp]; rfl
    · rw [List.getElem?_set_ne (Ne.symm hjk)]
  · rw [← h.lens, List.map_set]
    refine List.ext_getElem? fun j => ?_
    by_cases hjk : j = k
    · subst hjk
      rw [List.getElem?_set_self (by rw [List.length_map]; exact hl), List.getElem?_map, hp]
      simp only [Option.map_some, hM]
    · rw [List.getElem?_set_ne (Ne.symm hjk)]
  · by_cases hjk : j = k
    · subst hjk
      rw [List.getElem?_set_self hl] at hjp
      obtain rfl := Option.some.inj hjp
      show M j Y.length = M j (M j Y.length).length
      rw [hM]
    · rw [List.getElem?_set_ne (Ne.symm hjk)] at hjp
      exact h.done j p (by omega) hjp
theorem fill_set {M : Nat → List α} {m : Nat → α} (hM : ∀ n, M n = (List.range n).map m) {Y : List α} {t : Nat} (ht : t < Y.length) : (M t ++ Y.drop t).set t (m t) = M (t + 1) ++ Y.drop (t + 1) := by
  have h : (Y.drop t).set 0 (m t) = m t :: Y.drop (t + 1) := by rw [List.drop_eq_getElem_cons ht]; rfl
  rw [hM, hM, List.set_append_right _ _ (by simp), List.range_succ, List.map_append]
  simp [h]
theorem fill_len {M : Nat → List α} {m : Nat → α} (hM : ∀ n, M n = (List.range n).map m) {Y : List α} {t : Nat} (ht : t ≤ Y.length) : (M t ++ Y.drop t).length = Y.length := by
  rw [hM]; simp; omega
end
end Go.Bus.apartG

namespace Go.Proofs.YthjjockimpndbaaDoor
open Go.RowKit Go.Bus Go.Bus.farmK Go.Bus.apartG
set_option linter.unusedVariables false
theorem Tryd.infoRowBytes : (Tryd.prog.info? 44).map (fun i => (i.zero, i.size, i.bytes)) = some (some (.slice none 0 0), 1, 24) := by kernel_rfl
namespace apartBytes
abbrev Row := Value × List Int
def markI (k i : Nat) : Int := (((37 * (k + 1) + i) % 256 : Nat) : Int)
def M (k n : Nat) : List Int := (List.range n).map (markI k)
theorem M_len (k n : Nat) : (M k n).length = n := by simp [M]
theorem M_snoc (k n : Nat) : M k n ++ [markI k n] = M k (n + 1) := by simp [M, List.range_succ]
theorem M_take {k n m : Nat} (h : n ≤ m) : (M k m).take n = M k n := by
  unfold M; rw [← List.map_take, List.take_range, Nat.min_eq_left h]
theorem M_get {k n i : Nat} (h : i < n) : (M k n)[i]'(by rw [M_len]; exact h) = markI k i := by simp [M]
def E (k : Nat) (X : List Int) : List Int := M k (X.length + 64)
set_option maxRecDepth 100000 in
set_option maxHeartbeats 1000000 in
theorem mark_any (k i : Nat) (x z : Int) (w : World) (hx : x = k) (hz : z = i) (hk : k ≤ 1000000) (hi : i ≤ 281474976710656) :
    Calls Tryd.prog 64 #[.int .i64 x, .int .i64 z] w fun e w' => e = .returned (.int .u8 (markI k i)) ∧ w = w' := by
  subst hx
  subst hz
  have h1 : markI k i = IntKind.u8.wrap (37 * ((k : Int) + 1) + i) := by rw [IntKind.wrap_u8]; unfold markI; omega
  rw [h1]
  go_enter Tryd.func64, Tryd.ntmps64
  go_wp2
  go_ret
  exact ⟨rfl, rfl⟩

set_option maxRecDepth 100000 in
set_option maxHeartbeats 6000000 in
theorem apart_any (q base : Nat) (rows : List Row) (w : World) (hq : Has w q 44 (rows.map (·.1)).toArray) (hF : Farm w base 5 (Value.int .u8) rows) (hbase : base ≤ w.heap.size) (hN : rows.length ≤ 1000000) (hN0 : 0 < rows.length) (hlen : ∀ p ∈ rows, p.2.length ≤ 1000000000) :
    Calls Tryd.prog 29 #[.slice (some ⟨q, 0, none⟩) rows.length rows.length] w fun e w' => e = .returned (.bool true) ∧ Below base w w' := by
  obtain ⟨i0, hi, hz0, hz1, hz2⟩ := info_parts Tryd.infoB
  obtain ⟨i1, hj, hy0, hy1, hy2⟩ := info_parts Tryd.infoRowBytes
  have hqlt := hq.lt
  have HQ := Lib.hid hq
  have HF := Lib.hid hF
  have HL := Lib.hid hlen
  have hMM : ∀ k n, M k n = (List.range n).map (markI k) := fun _ _ => rfl
  have HMM := Lib.hid hMM
  clear hq hF hlen hMM
  go_enter Tryd.func29, Tryd.ntmps29
  go_wp2
  go_loopw [3] (fun i wr => ∃ (k : Nat) (R : List Row), i = .int .i64 k ∧ k ≤ rows.length ∧ Hid (S0 M rows R k) ∧ Farm wr base 5 (Value.int .u8) R ∧ Has wr q 44 (rows.map (·.1)).toArray ∧ Below base w wr ∧ w.heap.size ≤ wr.heap.size) (fun i _ => rows.length - (intOf i).toNat)
  case atStart => exact ⟨0, rows, rfl, Nat.zero_le _, Lib.hid ⟨rfl, rfl, fun j p h => absurd h (by omega)⟩, HF.out, HQ.out, Below.refl _ _, Nat.le_refl _⟩
  case round =>
    clear HF
    obtain ⟨k, R, rfl, hk, HS, hFm, hqr, hbel, hsz⟩ := hrel
    have HFm := Lib.hid hFm; clear hFm
    have HQR := Lib.hid hqr; clear hqr
    have HB := Lib.hid hbel; clear hbel
    have hRl : R.length = rows.length := by have := congrArg List.length HS.out.heads; simpa using this
    by_cases hlt : k < rows.length
    · obtain ⟨⟨V, X⟩, hr⟩ : ∃ p, rows[k]? = some p := ⟨_, List.getElem?_eq_getElem hlt⟩
      have hX : X.length ≤ 1000000000 := HL.out (V, X) (List.mem_of_getElem? hr)
      obtain ⟨Y, hRk, hYl⟩ := HS.out.at_ hr
      simp only at hYl
      obtain ⟨A, c, rfl, hc1, hc2, hA⟩ := HFm.out.form hRk
      have hkR : k < R.length := by omega
      have hqk : ∀ W : World, Has W q 44 (rows.map (·.1)).toArray → W.cell? ⟨q, k, none⟩ = some (.slice A Y.length c) := fun W h => by rw [h.cell k]; simp [hr]
      have HQK := Lib.hid hqk
      have HRk := Lib.hid hRk
      have HA := Lib.hid hA
      have hY : Y.length ≤ 1000000000 := by omega
      have hqc := hqk _ HQR.out
      clear hqk hRk hr hYl hA
      go_wp2
      clear hqc
      go_loopw [4] (fun i wr => ∃ t : Nat, i = .int .i64 t ∧ t ≤ Y.length ∧ Farm wr base 5 (Value.int .u8) (R.set k (.slice A Y.length c, M k t ++ Y.drop t)) ∧ Has wr q 44 (rows.map (·.1)).toArray ∧ Below base w wr ∧ w.heap.size ≤ wr.heap.size) (fun i _ => Y.length - (intOf i).toNat)
      case atStart => exact ⟨0, rfl, Nat.zero_le _, by rw [show M k 0 ++ Y.drop 0 = Y by simp [M], set_same HRk.out]; exact HFm.out, HQR.out, HB.out, hsz⟩
      case round =>
        clear HFm HQR HB hsz
        obtain ⟨t, rfl, ht, hFr, hqr, hbel, hsz⟩ := hrel
        have hqc := HQK.out _ hqr
        by_cases htl : t < Y.length
        · obtain ⟨g, rfl⟩ := HA.out (by omega)
          have hlen2 : (M k t ++ Y.drop t).length = Y.length := fill_len (HMM.out k) (by omega)
          have hgk : (R.set k (.slice (some ⟨g, 0, none⟩) Y.length c, M k t ++ Y.drop t))[k]? = some (.slice (some ⟨g, 0, none⟩) Y.length c, M k t ++ Y.drop t) := List.getElem?_set_self hkR
          obtain ⟨hc0, hf0⟩ := hFr.cell (t := t) hgk hlen2 (by omega)
          have hFn := hFr.set (t := t) hgk hlen2 (markI k t)
          rw [List.set_set, fill_set (HMM.out k) htl] at hFn
          have hown := hFr.own k _ _ hgk
          have hqn : Has (wr.setCell ⟨g, t, none⟩ ((Value.int .u8) (markI k t))) q 44 (rows.map (·.1)).toArray := hqr.far (p := ⟨g, t, none⟩) (fun e => own_has_ne hown hqr (by decide) (by rw [e]; rfl)) _
          have hbn : Below base w (wr.setCell ⟨g, t, none⟩ ((Value.int .u8) (markI k t))) := hbel.setCell (p := ⟨g, t, none⟩) (hown.lt g (by rfl)).1 _
          have HFn := Lib.hid hFn
          have HQn := Lib.hid hqn
          have HBn := Lib.hid hbn
          generalize (M k t ++ Y.drop t)[t]'(by rw [hlen2]; exact htl) = y at *
          clear hFn hqn hbn hown hgk hlen2 hFr hqr hbel
          go_wp2_with fail
          go_region_with (go_at_call 64; refine (mark_any k t _ _ _ (by rfl) (by rfl) (by omega) (by omega)).mono ?_; rintro e w9 ⟨rfl, rfl⟩)
          all_goals
            go_wp2
            go_roundw
          all_goals first
            | exact ⟨t + 1, by go_num, by omega, (by exact ⟨fun i v z hi => HFn.out.own i v z hi, HFn.out.apart⟩), (by exact HQn.out), (by exact ⟨HBn.out.os, HBn.out.tape, HBn.out.output, HBn.out.size, HBn.out.block⟩), by simp; omega⟩
            | (simp [intOf]; done)
            | (simp [intOf]; omega)
        · obtain rfl : t = Y.length := by omega
          rw [List.drop_of_length_le (Nat.le_refl _), List.append_nil] at hFr
          have HS1 := Lib.hid (HS.out.next HRk.out (M_len k _))
          have HFr := Lib.hid hFr
          have HQr := Lib.hid hqr
          have HBr := Lib.hid hbel
          clear hFr hqr hbel HS
          go_wp2
          go_roundw
          case rel => exact ⟨k + 1, _, by go_num, by omega, HS1, HFr.out, HQr.out, HBr.out, hsz⟩
          case measure => first | (simp [intOf]; done) | (simp [intOf]; omega)
    · obtain rfl : k = rows.length := by omega
      have hcont : ∀ (j : Nat) (p : Row), R[j]? = some p → p.2 = M j p.2.length := fun j p hp => HS.out.done j p (by have := (List.getElem?_eq_some_iff.1 hp).1; omega) hp
      have hbd : ∀ p ∈ R, p.2.length ≤ 1000000000 := by
        intro p hp
        obtain ⟨j, hj⟩ := List.mem_iff_getElem?.1 hp
        have hjl := (List.getElem?_eq_some_iff.1 hj).1
        obtain ⟨p2, hr2⟩ : ∃ p2, rows[j]? = some p2 := ⟨_, List.getElem?_eq_getElem (by omega)⟩
        obtain ⟨z, hz, hzl⟩ := HS.out.at_ hr2
        have := HL.out p2 (List.mem_of_getElem? hr2)
        rw [hj] at hz
        have := Option.some.inj hz
        rw [this]; simp only; omega
      have hhd : R.map (·.1) = rows.map (·.1) := HS.out.heads
      have hq2 : Has wr q 44 (R.map (·.1)).toArray := by rw [hhd]; exact HQR.out
      have HQR2 := Lib.hid hq2
      have HCO := Lib.hid hcont
      have HBD := Lib.hid hbd
      have hR1 : R.length ≤ rows.length := Nat.le_of_eq hRl
      have hR2 : rows.length ≤ R.length := Nat.le_of_eq hRl.symm
      clear hcont hbd hhd hq2 HQR HL HS hlt hk hRl
      go_wp2
      go_loopw [5, 6] (fun gsv' i wr => ∃ (gsv : Value) (k : Nat) (F D : List Row), gsv = gsv' ∧ i = .int .i64 k ∧ k ≤ rows.length ∧ Hid (P1 E R F D k) ∧ Farm wr base 5 (Value.int .u8) (F ++ D) ∧ wr.ownsRow w.heap.size 44 1 gsv k ((F.take k).map (·.1)) ∧ Has wr q 44 (R.map (·.1)).toArray ∧ Below base w wr ∧ w.heap.size ≤ wr.heap.size) (fun _ i _ => rows.length - (intOf i).toNat)
      case atStart => exact ⟨_, 0, R, [], rfl, rfl, Nat.zero_le _, Lib.hid ⟨rfl, rfl, fun i p h => absurd h (by omega), fun i _ => rfl⟩, by simpa using HFm.out, World.ownsRow_nil _ _ _ _, HQR2.out, HB.out, hsz⟩
      case round =>
        clear HFm HQR2 HB hsz
        obtain ⟨gsv, k, F, D, rfl, rfl, hk, HP, hFm, hgs, hqr, hbel, hsz⟩ := hrel
        have HFm := Lib.hid hFm; clear hFm
        have HGS := Lib.hid hgs; clear hgs
        have HQR := Lib.hid hqr; clear hqr
        have HB := Lib.hid hbel; clear hbel
        by_cases hlt : k < rows.length
        · have hltR : k < R.length := by omega
          obtain ⟨⟨V, X⟩, hr⟩ : ∃ p, R[k]? = some p := ⟨_, List.getElem?_eq_getElem hltR⟩
          have hX : X.length ≤ 1000000000 := HBD.out (V, X) (List.mem_of_getElem? hr)
          have hXM : X = M k X.length := HCO.out k (V, X) hr
          have hFk : (F ++ D)[k]? = some (V, X) := by
            rw [List.getElem?_append_left (by rw [HP.out.lenF]; exact hltR), HP.out.todo k (Nat.le_refl _)]; exact hr
          obtain ⟨A, c, rfl, hc1, hc2, hA⟩ := HFm.out.form hFk
          have hcv : wr.cell? ⟨q, k, none⟩ = some (.slice A X.length c) := by
            rw [HQR.out.cell k]; simp [hr]
          have HFK := Lib.hid hFk
          have HR := Lib.hid hr
          have HXM := Lib.hid hXM
          clear hFk hr hA hXM
          obtain ⟨wo, rfl⟩ : ∃ wo : World, wo = wr := ⟨_, rfl⟩
          have hkF : k < F.length := by rw [HP.out.lenF]; exact hltR
          have hdl : D.length = k := HP.out.lenD
          have h0 : Farm wo base 5 (Value.int .u8) (F.set k (.slice A X.length c, M k (X.length + 0)) ++ (D ++ [((Value.slice none 0 0 : Value), ([] : List Int))])) := by
            have e1 : F.set k (.slice A X.length c, M k (X.length + 0)) = F := by
              have hk2 : F[k]? = some (.slice A X.length c, X) := by rw [HP.out.todo k (Nat.le_refl _)]; exact HR.out
              have e2 : M k (X.length + 0) = X := HXM.out.symm
              rw [e2]
              exact set_same hk2
            rw [e1, ← List.append_assoc]
            exact HFm.out.snoc (World.ownsRow_nil _ _ _ _) (fun i u y q _ _ => by simp [Value.ownBlock])
          have H0 := Lib.hid h0; clear h0
          go_wp2
          go_loopw [7, 8] (fun gv' i wr => ∃ (gv : Value) (j : Nat) (d : Row), gv = gv' ∧ i = .int .i64 j ∧ j ≤ 64 ∧ Hid (Pair (.slice A X.length c) X (X.length + j) gv d) ∧ Farm wr base 5 (Value.int .u8) (F.set k (gv, M k (X.length + j)) ++ (D ++ [d])) ∧
              wr.ownsRow w.heap.size 44 1 gsv k ((F.take k).map (·.1)) ∧ Has wr q 44 (R.map (·.1)).toArray ∧ Below base w wr ∧ w.heap.size ≤ wr.heap.size) (fun _ i _ => 64 - (intOf i).toNat)
          case atStart => exact ⟨_, 0, _, rfl, rfl, Nat.zero_le _, Lib.hid (.inl ⟨rfl, A, c, rfl, rfl⟩), H0.out, HGS.out, HQR.out, HB.out, hsz⟩
          case round =>
            clear H0 hcv
            obtain ⟨gv, j, d, rfl, rfl, hj64, hPr, hFr, hgr, hqr, hbr, hzr⟩ := hrel
            obtain ⟨A1, c1, rfl⟩ : ∃ A1 c1, gv = .slice A1 (X.length + j) c1 := by
              rcases hPr.out with ⟨_, A1, c1, _, h⟩ | ⟨_, _, A1, c1, h⟩ <;> exact ⟨A1, c1, h⟩
            have hZ : (M k (X.length + j)).length = X.length + j := M_len _ _
            have hcv : wr.cell? ⟨q, k, none⟩ = some (.slice A X.length c) := by
              rw [hqr.cell k]; simp [HR.out]
            by_cases hlt2 : j < 64
            · have hown := hFr.own k _ _ (at_k hkF _ _)
              have hrd := own_reads (by rw [hZ] at hown; exact hown)
              obtain ⟨hn1, hn2, hn3⟩ := hrd
              have HPr := Lib.hid hPr.out; clear hPr
              have HFr := Lib.hid hFr; clear hFr
              have HGR := Lib.hid hgr; clear hgr
              have HQ2 := Lib.hid hqr; clear hqr
              have HBR := Lib.hid hbr; clear hbr
              have hl1 : (M k (X.length + (j + 1))).length = X.length + j + 1 := M_len _ _
              have hm1 : (M k (X.length + (j + 1))).map (Value.int .u8) = (M k (X.length + j)).map (Value.int .u8) ++ [(Value.int .u8) (markI k (X.length + j))] := by
                rw [show X.length + (j + 1) = (X.length + j) + 1 from rfl, ← M_snoc, List.map_append]; rfl
              have HL1 := Lib.hid hl1; clear hl1
              have HM1 := Lib.hid hm1; clear hm1
              have HZ := Lib.hid hZ
              have HN3 := Lib.hid hn3; clear hn3
              have HN1 := Lib.hid hn1; clear hn1
              rw [hZ] at hown
              have HOW := Lib.hid hown; clear hown hZ
              by_cases hfit : X.length + j < c1
              · obtain ⟨g, rfl⟩ := hn2 (by omega)
                clear hn2
                go_wp2_with fail
                refine (mark_any k (X.length + j) _ _ _ (by rfl) (by omega) (by omega) (by omega)).mono ?_
                rintro e w9 ⟨rfl, rfl⟩
                go_wp2_with (at_builtin; refine wpList_append_fits _ rfl _ _ 44 rfl base 5 i0 1 Tryd.underlying44 hi hz1 g (X.length + j) c1 ((M k (X.length + j)).map (Value.int .u8)) rfl (HOW.out.alloc _) ⟨wr.heap.size, 0, none⟩ 1 1 [(Value.int .u8) (markI k (X.length + j))] rfl rfl ?c1 ?c2 ?c3 ?_)
                case c1 => exact one_new wr _ _
                case c2 => intro u hu; simp at hu; subst hu; rfl
                case c3 => omega
                intro w1 hown1 hg1
                have hPn : Pair (.slice A X.length c) X (X.length + (j + 1)) (.slice (some ⟨g, 0, none⟩) (X.length + j + 1) c1) d := by
                  rcases HPr.out with ⟨hd, A0, c0, hV1, hV2⟩ | ⟨hd1, hd2, _⟩
                  · simp only [Value.slice.injEq] at hV2
                    obtain ⟨rfl, _, rfl⟩ := hV2
                    exact .inl ⟨hd, _, _, hV1, rfl⟩
                  · exact .inr ⟨hd1, hd2, _, _, rfl⟩
                have hFn := fit_step (v1 := .slice (some ⟨g, 0, none⟩) (X.length + j + 1) c1) (Z1 := M k (X.length + (j + 1))) hkF HFr.out (by rw [HL1.out, HM1.out]; exact hown1) hg1 rfl
                have hgn : w1.ownsRow w.heap.size 44 1 gsv k ((F.take k).map (·.1)) := (HGR.out.alloc _).kept hg1 (.inr (own_ne_own HOW.out HGR.out (by decide) g rfl))
                have hqn : Has w1 q 44 (R.map (·.1)).toArray := (HQ2.out.alloc _).grown hg1 (fun e => own_has_ne (HOW.out.alloc (.cells #[(Value.int .u8) (markI k (X.length + j))] 5)) (HQ2.out.alloc _) (by decide) e.symm)
                have hbn : Below base w w1 := Below.grown (HBR.out.alloc (by omega) _) hg1 (by simp; omega) (fun r hr => by cases hr; exact (HOW.out.lt g rfl).1)
                have hzn : w.heap.size ≤ w1.heap.size := Nat.le_trans (by simp; omega) hg1.size
                have HPn := Lib.hid hPn
                have HFn := Lib.hid hFn
                have HGn := Lib.hid hgn
                have HQn := Lib.hid hqn
                have HBn := Lib.hid hbn
                clear hPn hFn hgn hqn hbn hown1 hg1 hcv
                go_wp2
                go_roundw
                case rel => exact ⟨_, j + 1, d, rfl, by go_num, by omega, HPn, HFn.out, HGn.out, HQn.out, HBn.out, hzn⟩
                case measure => first | (simp [intOf]; done) | (simp [intOf]; omega)
              · have hce : c1 = X.length + j := by
                  have := (own_cap2 HOW.out).1
                  omega
                subst hce
                clear hn2 hfit
                go_wp2_with fail
                refine (mark_any k (X.length + j) _ _ _ (by rfl) (by omega) (by omega) (by omega)).mono ?_
                rintro e w9 ⟨rfl, rfl⟩
                go_wp2_with (at_builtin; refine wpList_append_grows _ rfl _ _ 44 rfl 5 i0 (.int .u8 0) 1 1 Tryd.underlying44 hi hz0 hz1 hz2 rfl (by decide) A1 (X.length + j) (X.length + j) ((M k (X.length + j)).map (Value.int .u8)) rfl ?d1 ?d2 ?d3 ⟨wr.heap.size, 0, none⟩ 1 1 [(Value.int .u8) (markI k (X.length + j))] rfl rfl ?d4 ?d5 ?d6 ?d7 ?d8 ?_)
                case d1 => exact (own_reads HOW.out).1
                case d2 => have := HOW.out.1; omega
                case d3 => exact (own_reads (HOW.out.alloc _)).2.2
                case d4 => exact one_new wr _ _
                case d5 => intro u hu; simp at hu; subst hu; rfl
                case d6 => omega
                case d7 => unfold maxLen; omega
                case d8 => omega
                intro v1 w1 hown1 hg1
                obtain ⟨g2, c2, rfl, hg21, hg22⟩ := own_form hown1 (by omega)
                obtain ⟨d1, hPn, hFn⟩ := grow_step (A := A1) (c := X.length + j) (Z1 := M k (X.length + (j + 1))) (X := X) hkF ((M_take (Nat.le_add_right _ _)).trans HXM.out.symm) (by rw [HZ.out]; omega) HZ.out rfl HPr.out HFr.out (by rw [HL1.out, HM1.out]; exact own_base hown1 (by simp)) (Nat.le_trans hbase hzr) hg1 ⟨_, _, rfl⟩
                have hgn : w1.ownsRow w.heap.size 44 1 gsv k ((F.take k).map (·.1)) := (HGR.out.alloc _).kept hg1 (by cases gsv.ownBlock with | none => exact .inl rfl | some r => exact .inr (by simp))
                have hqn : Has w1 q 44 (R.map (·.1)).toArray := (HQ2.out.alloc _).grown hg1 (by simp)
                have hbn : Below base w w1 := Below.grown (HBR.out.alloc (by omega) _) hg1 (by simp; omega) (fun r hr => by cases hr)
                have hzn : w.heap.size ≤ w1.heap.size := Nat.le_trans (by simp; omega) hg1.size
                have HPn := Lib.hid hPn
                have HFn := Lib.hid hFn
                have HGn := Lib.hid hgn
                have HQn := Lib.hid hqn
                have HBn := Lib.hid hbn
                clear hPn hFn hgn hqn hbn hown1 hg1 hcv
                go_wp2
                go_roundw
                case rel => exact ⟨_, j + 1, d1, rfl, by go_num, by omega, HPn, HFn.out, HGn.out, HQn.out, HBn.out, hzn⟩
                case measure => first | (simp [intOf]; done) | (simp [intOf]; omega)
            · obtain rfl : j = 64 := by omega
              obtain ⟨hPn, hTn⟩ := p1_step HP.out hltR HR.out (show Pair _ X (E k X).length _ d by unfold E; rw [M_len]; exact hPr.out)
              have HPn := Lib.hid hPn
              have HTn := Lib.hid hTn
              have HFr := Lib.hid hFr; clear hFr hPr hPn hTn
              have HGR := Lib.hid hgr; clear hgr
              have HQ2 := Lib.hid hqr; clear hqr
              have HBR := Lib.hid hbr; clear hbr hZ hcv
              go_wp2_with (at_builtin; refine wpList_append_own _ rfl _ _ 67 rfl w.heap.size 44 i1 (.slice none 0 0) 1 24 Tryd.underlying67 hj hy0 hy1 hy2 rfl (by decide) _ _ _ rfl (HGR.out.alloc _) ⟨wr.heap.size, 0, none⟩ 1 1 [.slice A1 (X.length + 64) c1] rfl rfl (one_new wr _ _) ?e2 ?e3 ?e4 ?e5 ?_)
              case e2 => first | rfl | (intro u hu; simp at hu; subst hu; rfl)
              case e3 => unfold maxLen; omega
              case e4 => omega
              case e5 => first | omega | (simp; omega)
              intro v1 w1 hown1 hg1 _
              have hFa : Farm (wr.alloc (.cells #[.slice A1 (X.length + 64) c1] 44)) base 5 (Value.int .u8) (F.set k (.slice A1 (X.length + 64) c1, M k (X.length + 64)) ++ (D ++ [d])) := HFr.out.below ((Below.refl _ _).alloc (Nat.le_refl _) _)
              have hFn := hFa.kept hg1 (fun i v z hiv => by
                cases hvb : v.ownBlock with
                | none => exact .inl rfl
                | some r => exact .inr fun he => own_ne_own (hFa.own i v z hiv) (HGR.out.alloc _) (by decide) r hvb he.symm)
              have hqn : Has w1 q 44 (R.map (·.1)).toArray := (HQ2.out.alloc _).grown hg1 (fun e => by have h1 := (HGR.out.lt q e.symm).1; omega)
              have hbn : Below base w w1 := Below.grown (HBR.out.alloc (by omega) _) hg1 (by simp; omega) (fun r hr => by have h1 := (HGR.out.lt r hr).1; omega)
              have hzn : w.heap.size ≤ w1.heap.size := Nat.le_trans (by simp; omega) hg1.size
              have HG1 : Hid (w1.ownsRow w.heap.size 44 1 v1 (k + 1) (((F.set k (.slice A1 (X.length + 64) c1, E k X)).take (k + 1)).map (·.1))) := by
                unfold Hid; rw [HTn.out, List.map_take]; exact hown1
              have HFn := Lib.hid hFn
              have HQn := Lib.hid hqn
              have HBn := Lib.hid hbn
              clear hFa hFn hqn hbn hown1 hg1
              go_wp2
              go_roundw
              case rel => exact ⟨_, k + 1, _, _, rfl, by go_num, by omega, HPn, HFn.out, HG1.out, HQn.out, HBn.out, hzn⟩
              case measure => first | (simp [intOf]; done) | (simp [intOf]; omega)
        · obtain rfl : k = rows.length := by omega
          have hFl : F.length = rows.length := by rw [HP.out.lenF]; omega
          have hgs2 : wr.ownsRow w.heap.size 44 1 gsv rows.length (F.map (·.1)) := by have := HGS.out; rw [List.take_of_length_le (by omega)] at this; exact this
          obtain ⟨gg, cg, rfl, hcg1, hcg2⟩ := own_form hgs2 hN0
          have HGS2 := Lib.hid hgs2; clear hgs2 HGS
          obtain ⟨wo, rfl⟩ : ∃ wo : World, wo = wr := ⟨_, rfl⟩
          have hrow : ∀ k, k < rows.length → ∃ (n g c c0 : Nat) (A0 : Option Addr), n ≤ 1000000000 ∧ wo.cell? ⟨gg, k, none⟩ = some (.slice (some ⟨g, 0, none⟩) (n + 64) c) ∧ wo.cell? ⟨q, k, none⟩ = some (.slice A0 n c0) ∧ n ≤ c0 ∧ c0 ≤ 9223372036854775807 ∧
              (∀ i, i < n + 64 → wo.cell? ⟨g, i, none⟩ = some ((Value.int .u8) (markI k i))) ∧ (∀ i, i < n → ∃ b, A0 = some ⟨b, 0, none⟩ ∧ wo.cell? ⟨b, i, none⟩ = some ((Value.int .u8) (markI k i))) := by
            intro k hk
            have hkR : k < R.length := by omega
            obtain ⟨⟨V, X⟩, hr⟩ : ∃ p, R[k]? = some p := ⟨_, List.getElem?_eq_getElem hkR⟩
            have hX : X.length ≤ 1000000000 := HBD.out (V, X) (List.mem_of_getElem? hr)
            have hXM : X = M k X.length := HCO.out k (V, X) hr
            obtain ⟨G, d, hFj, hDj, hPj⟩ := HP.out.done k (V, X) hk hr
            have hFD : (F ++ D)[k]? = some (G, M k (X.length + 64)) := by rw [List.getElem?_append_left (by omega)]; exact hFj
            obtain ⟨A, c, rfl, hc1, hc2, hA⟩ := HFm.out.form hFD
            rw [M_len] at hc1 hA
            obtain ⟨g, rfl⟩ := hA (by omega)
            have hcellG : ∀ i, i < X.length + 64 → wo.cell? ⟨g, i, none⟩ = some ((Value.int .u8) (markI k i)) := by
              intro i hi
              have h1 := (HFm.out.cell (t := i) hFD rfl (by rw [M_len]; exact hi)).1
              rw [h1, M_get hi]
            have hhdG : wo.cell? ⟨gg, k, none⟩ = some (.slice (some ⟨g, 0, none⟩) (X.length + 64) c) := by
              rw [HGS2.out.cellAt k (by omega), List.getElem?_map, hFj, M_len]; rfl
            have hhdV : wo.cell? ⟨q, k, none⟩ = some V := by rw [HQR.out.cell k]; simp [hr]
            rcases hPj with ⟨_, A0, c0, hV1, hG1⟩ | ⟨hd1, hd2, _⟩
            · simp only [Value.slice.injEq] at hG1
              obtain ⟨rfl, _, rfl⟩ := hG1
              simp only at hV1
              refine ⟨X.length, g, _, _, _, hX, hhdG, by rw [hhdV, hV1], by omega, by omega, hcellG, fun i hi => ⟨g, rfl, hcellG i (by omega)⟩⟩
            · simp only at hd1 hd2
              have hDk : (F ++ D)[F.length + k]? = some (V, X) := by
                rw [List.getElem?_append_right (by omega), Nat.add_sub_cancel_left, hDj, ← hd1, ← hd2]
              obtain ⟨A0, c0, hV1, h1, h2, h4⟩ := HFm.out.form hDk
              refine ⟨X.length, g, c, c0, A0, hX, hhdG, by rw [hhdV, hV1], h1, h2, hcellG, fun i hi => ?_⟩
              obtain ⟨b, rfl⟩ := h4 (by omega)
              subst hV1
              refine ⟨b, rfl, ?_⟩
              have h5 := (HFm.out.cell (t := i) hDk rfl hi).1
              rw [h5]
              have h6 : X[i] = markI k i := by
                have h7 : X[i]? = (M k X.length)[i]? := by rw [← hXM]
                rw [List.getElem?_eq_getElem hi, List.getElem?_eq_getElem (by rw [M_len]; exact hi)] at h7
                rw [Option.some.inj h7, M_get hi]
              rw [h6]
          have HROW := Lib.hid hrow
          clear hrow hFl HP HFm HGS2 HQR HCO HBD
          go_wp2
          go_loop [9] (fun i => ∃ k : Nat, i = .int .i64 k ∧ k ≤ rows.length) (fun i => rows.length - (intOf i).toNat)
          case atStart => exact ⟨0, rfl, Nat.zero_le _⟩
          case round =>
            obtain ⟨k, rfl, hk⟩ := hrel
            by_cases hlt3 : k < rows.length
            · obtain ⟨n, g, c, c0, A0, hn, hcg, hcv, hc1, hc2, hG, hV⟩ := HROW.out k hlt3
              have HG := Lib.hid hG
              have HV := Lib.hid hV
              clear hG hV
              go_wp2
              go_loop [10] (fun i => ∃ t : Nat, i = .int .i64 t ∧ t ≤ n + 64) (fun i => (n + 64) - (intOf i).toNat)
              case atStart => exact ⟨0, rfl, Nat.zero_le _⟩
              case round =>
                obtain ⟨t, rfl, ht⟩ := hrel
                by_cases htl : t < n + 64
                · have hct := HG.out t htl
                  by_cases htn : t < n
                  · obtain ⟨b, rfl, hcb⟩ := HV.out t htn
                    obtain ⟨x, hx⟩ : ∃ x, x = markI k t := ⟨_, rfl⟩
                    rw [← hx] at hct hcb
                    have HX := Lib.hid hx; clear hx
                    go_wp2_with fail
                    refine (mark_any k t _ _ _ (by rfl) (by rfl) (by omega) (by omega)).mono ?_
                    rintro e w9 ⟨rfl, rfl⟩
                    rw [← HX.out]
                    go_wp2
                    go_round
                    case rel => exact ⟨t + 1, by go_num, by omega⟩
                    case measure => first | (simp [intOf]; done) | (simp [intOf]; omega)
                  · obtain ⟨x, hx⟩ : ∃ x, x = markI k t := ⟨_, rfl⟩
                    rw [← hx] at hct
                    have HX := Lib.hid hx; clear hx
                    go_wp2_with fail
                    refine (mark_any k t _ _ _ (by rfl) (by rfl) (by omega) (by omega)).mono ?_
                    rintro e w9 ⟨rfl, rfl⟩
                    rw [← HX.out]
                    go_wp2
                    go_round
                    case rel => exact ⟨t + 1, by go_num, by omega⟩
                    case measure => first | (simp [intOf]; done) | (simp [intOf]; omega)
                · obtain rfl : t = n + 64 := by omega
                  go_wp2
                  go_round
                  case rel => exact ⟨k + 1, by go_num, by omega⟩
                  case measure => first | (simp [intOf]; done) | (simp [intOf]; omega)
            · obtain rfl : k = rows.length := by omega
              go_wp2
              go_ret
              exact ⟨rfl, HB.out⟩
end apartBytes
end Go.Proofs.YthjjockimpndbaaDoor

namespace Go.Proofs.YthjjockimpndbaaDoor
open Go.RowKit Go.Bus
set_option linter.unusedVariables false
namespace boolK
def markB (k : Nat) : Bool := ((k : Int) % 3 == 0)
def marksB : List Bool := (List.range 16).map markB
theorem marksB_length : marksB.length = 16 := by simp [marksB]
theorem marksB_take (k : Nat) (hk : k < 16) : (marksB.map Value.bool).take k ++ [Value.bool (markB k)] = (marksB.map Value.bool).take (k + 1) := by
  have h1 : (marksB.map Value.bool)[k]? = some (Value.bool (markB k)) := by simp [marksB, hk]
  rw [List.take_add_one, h1]; rfl
theorem marksB_all : (marksB.map Value.bool).take 16 = marksB.map Value.bool := List.take_of_length_le (by simp [marksB])
def Lends (w : World) (l : List Bool) (e : Ending) (w' : World) : Prop :=
  ∃ v, e = .returned v ∧ Lent w' w.heap.size 4 Value.bool v l.length (l ++ marksB) ∧ Below w.heap.size w w'

set_option maxRecDepth 100000 in
set_option maxHeartbeats 1000000 in
theorem lent_any (v : Value) (l : List Bool) (w : World) (h : Sl w w.heap.size Value.bool v l) (hlen : l.length ≤ 140737488351232) :
    Calls Tryd.prog 24 #[v] w (Lends w l) := by
  obtain ⟨A, cap, rfl, hcap, hmax⟩ := h.form
  obtain ⟨i0, hi, hz0, hz1, hz2⟩ := info_parts Tryd.infoBool
  have HL := Lib.hid h; clear h
  unfold maxLen at hmax
  go_enter Tryd.func24, Tryd.ntmps24
  go_wp2
  go_loopw [3, 4] (fun o i wr => ∃ k : Nat, k ≤ l.length ∧ i = .int .i64 k ∧ wr.ownsRow w.heap.size 4 1 o k ((l.map Value.bool).take k) ∧ Below w.heap.size w wr) (fun _ i _ => l.length - (intOf i).toNat)
  case atStart => exact ⟨0, Nat.zero_le _, rfl, World.ownsRow_nil _ _ _ _, Below.refl _ _⟩
  case round =>
    obtain ⟨k, hk, rfl, hown, hbel⟩ := hrel
    by_cases hlt : k < l.length
    · obtain ⟨b, off, rfl, hb, hc0⟩ := HL.out.at_ hlt
      have hc : wr.cell? ⟨b, off + k, none⟩ = some (.bool l[k]) := (hbel.cell (p := ⟨b, off + k, none⟩) hb).trans hc0
      have HT := Lib.hid (take_map_snoc Value.bool l k hlt)
      clear hc0
      generalize l[k] = xk at *
      go_wp2_with (at_builtin; refine wpList_append_own _ rfl _ _ 48 rfl w.heap.size 4 i0 (.bool false) 1 1 Tryd.underlying48 hi hz0 hz1 hz2 rfl (by decide) _ _ _ rfl (hown.alloc _) ⟨wr.heap.size, 0, none⟩ 1 1 [.bool xk] rfl rfl ?c1 ?c2 ?c3 ?c4 ?c5 ?_)
      case c1 => exact one_new wr _ _
      case c2 => intro u hu; simp at hu; subst hu; rfl
      case c3 => unfold maxLen; omega
      case c4 => omega
      case c5 => have := hbel.size; simp; omega
      intro v' w1 hown' hgrow _
      have hr := Round.step hbel hown hown' hgrow (hxs := HT.out)
      clear hown hown' hgrow hbel hc
      obtain ⟨hown1, hbel1⟩ := hr
      have HO1 := Lib.hid hown1; clear hown1
      go_wp2
      go_roundw
      case rel => exact ⟨k + 1, by omega, by go_num, HO1.out, hbel1⟩
      case measure => first | (simp [intOf]; done) | (simp [intOf]; omega)
    · obtain rfl : k = l.length := by omega
      rw [List.take_of_length_le (by simp)] at hown
      obtain ⟨wo, rfl⟩ : ∃ wo : World, wo = wr := ⟨_, rfl⟩
      have HO := Lib.hid hown; clear hown
      have HB := Lib.hid hbel; clear hbel
      go_wp2
      go_loopw [3, 5] (fun o i wr => ∃ k : Nat, k ≤ 16 ∧ i = .int .i64 k ∧ wr.ownsRow w.heap.size 4 1 o (l.length + k) (l.map Value.bool ++ (marksB.map Value.bool).take k) ∧ Below w.heap.size w wr) (fun _ i _ => 16 - (intOf i).toNat)
      case atStart => exact ⟨0, Nat.zero_le _, rfl, by simpa using HO.out, HB.out⟩
      case round =>
        clear HO HB
        obtain ⟨k, hk, rfl, hown, hbel⟩ := hrel
        by_cases hlt : k < 16
        · have HT := Lib.hid (marksB_take k hlt)
          go_wp2_with (at_builtin; refine wpList_append_own _ rfl _ _ 48 rfl w.heap.size 4 i0 (.bool false) 1 1 Tryd.underlying48 hi hz0 hz1 hz2 rfl (by decide) _ _ _ rfl (hown.alloc _) ⟨wr.heap.size, 0, none⟩ 1 1 [.bool (markB k)] rfl rfl ?d1 ?d2 ?d3 ?d4 ?d5 ?_)
          case d1 => exact one_new wr _ _
          case d2 => intro u hu; simp at hu; subst hu; rfl
          case d3 => unfold maxLen; omega
          case d4 => omega
          case d5 => have := hbel.size; simp; omega
          intro v' w1 hown' hgrow _
          have hr := Round.step hbel hown hown' hgrow (hxs := by first | rw [List.append_assoc, HT.out] | rw [HT.out])
          clear hown hown' hgrow hbel
          obtain ⟨hown1, hbel1⟩ := hr
          have HO1 := Lib.hid hown1; clear hown1
          go_wp2
          go_roundw
          case rel => exact ⟨k + 1, by omega, by go_num, HO1.out, hbel1⟩
          case measure => first | (simp [intOf]; done) | (simp [intOf]; omega)
        · obtain rfl : k = 16 := by omega
          rw [marksB_all] at hown
          obtain ⟨g, c, rfl, hc1, hc2⟩ := own_form hown (by omega)
          have HO := Lib.hid hown; clear hown
          go_wp2
          go_ret
          refine ⟨_, rfl, ⟨g, c, rfl, by simp, ?_⟩, hbel⟩
          rw [List.length_append, marksB_length, List.map_append]
          exact HO.out

set_option maxRecDepth 100000 in
set_option maxHeartbeats 1000000 in
theorem kept_yes (v u : Value) (l : List Bool) (w : World) (B base : Nat) (h : Lent w base 4 Value.bool v l.length (l ++ marksB)) (h' : Sl w B Value.bool u l) (hlen : l.length ≤ 140737488351232) :
    Calls Tryd.prog 30 #[v, u] w fun e w' => e = .returned (.bool true) ∧ ∃ n, w' = w.drewN n := by
  obtain ⟨A', cap', rfl, hcap', hmax'⟩ := h'.form
  obtain ⟨g, c, rfl, hn, hown⟩ := h
  have hs := Sl.of_own hown
  obtain ⟨hcap, hmax⟩ := own_cap hown
  have hll : (l ++ marksB).length = l.length + 16 := by rw [List.length_append, marksB_length]
  rw [hll] at hs hcap
  have HL := Lib.hid hs; clear hs
  have HL' := Lib.hid h'; clear h'
  have HLL := Lib.hid hll
  clear hown hll hn
  unfold maxLen at hmax'
  go_enter Tryd.func30, Tryd.ntmps30
  go_wp2
  go_loopw [7] (fun i wr => ∃ k n : Nat, k ≤ l.length ∧ i = .int .i64 k ∧ wr = w.drewN n) (fun i _ => l.length - (intOf i).toNat)
  case atStart => exact ⟨0, 0, Nat.zero_le _, rfl, rfl⟩
  case round =>
    obtain ⟨k, n, hk, rfl, rfl⟩ := hrel
    by_cases hlt : k < l.length
    · obtain ⟨b, off, he, hb, hc⟩ := HL.out.at_ (k := k) (by rw [HLL.out]; omega)
      obtain ⟨rfl, rfl⟩ : g = b ∧ 0 = off := by simpa using he
      obtain ⟨b', off', rfl, hb', hc'⟩ := HL'.out.at_ hlt
      rw [List.getElem_append_left hlt, Nat.zero_add] at hc
      clear he
      generalize l[k] = x at *
      cases x
      all_goals
        go_wp2
        go_quiet (fail)
        go_wp2
        go_roundw
      all_goals first
        | exact ⟨k + 1, _, by omega, by go_num, rfl⟩
        | (simp [intOf]; done)
        | (simp [intOf]; omega)
    · obtain rfl : k = l.length := by omega
      go_wp2
      go_loopw [8] (fun i wr => ∃ j n : Nat, j ≤ 16 ∧ i = .int .i64 ((l.length : Int) + j) ∧ wr = w.drewN n) (fun i _ => (l.length + 16) - (intOf i).toNat)
      case atStart => exact ⟨0, n, Nat.zero_le _, by simp, rfl⟩
      case round =>
        obtain ⟨j, n, hj, rfl, rfl⟩ := hrel
        by_cases hlt : j < 16
        · obtain ⟨b, off, he, hb, hc⟩ := HL.out.at_ (k := l.length + j) (by rw [HLL.out]; omega)
          obtain ⟨rfl, rfl⟩ : g = b ∧ 0 = off := by simpa using he
          have hm : (l ++ marksB)[l.length + j]'(by rw [HLL.out]; omega) = ((j : Int) % 3 == 0) := by
            rw [List.getElem_append_right (by omega)]
            simp [marksB, markB]
          rw [hm, Nat.zero_add] at hc
          clear he hm
          have d16 : decide ((j : Int) < 16) = true := decide_eq_true (by omega)
          have e2 : (l.length : Int) + (j : Int) - (l.length : Int) = (j : Int) := by omega
          have d17 : (((j : Int) % 3 == 0) != ((j : Int) % 3 == 0)) = false := bne_self_eq_false _
          go_wp2
          go_roundw
          case rel => exact ⟨j + 1, n, by omega, by rw [show (l.length : Int) + ((j + 1 : Nat) : Int) = (l.length : Int) + (j : Int) + 1 from by omega], rfl⟩
          case measure => simp only [intOf]; omega
        · obtain rfl : j = 16 := by omega
          go_wp2
          go_ret
          exact ⟨rfl, _, rfl⟩
end boolK
end Go.Proofs.YthjjockimpndbaaDoor
