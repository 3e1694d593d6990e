/- Rows of the call's own that lie apart: a farm. What a store into one, and new memory, do to it. Plain. -/
import Derived.Test.YtdibfkcddcjiiaaBase
import Derived.Laws.OwnMore
namespace Go.Bus.farmK
open Go.RowKit Go.Bus
set_option linter.unusedVariables false
section
variable {α : Type} {w w' : World} {base : Nat} {e : TypeId} {f : α → Value} {R : List (Value × List α)}
structure Farm (w : World) (base : Nat) (e : TypeId) (f : α → Value) (R : List (Value × List α)) : Prop where
  own : ∀ (i : Nat) (v : Value) (z : List α), R[i]? = some (v, z) → w.ownsRow base e 1 v z.length (z.map f)
  apart : ∀ (i j : Nat) (v : Value) (z : List α) (u : Value) (y : List α), R[i]? = some (v, z) → R[j]? = some (u, y) → i ≠ j → ∀ q, v.ownBlock = some q → u.ownBlock ≠ some q
theorem Farm.kept {row : Option Nat} (h : Farm w base e f R) (hg : w.grownBy w' row) (hr : ∀ (i : Nat) (v : Value) (z : List α), R[i]? = some (v, z) → v.ownBlock = none ∨ v.ownBlock ≠ row) : Farm w' base e f R :=
  ⟨fun i v z hi => (h.own i v z hi).kept hg (hr i v z hi), h.apart⟩
theorem Farm.below (h : Farm w base e f R) (hb : Below w.heap.size w w') : Farm w' base e f R := ⟨fun i v z hi => own_kept (h.own i v z hi) hb, h.apart⟩
theorem Farm.cell {i t g n c : Nat} {z : List α} (h : Farm w base e f R) (hi : R[i]? = some (.slice (some ⟨g, 0, none⟩) n c, z)) (hn : z.length = n) (ht : t < z.length) :
    w.cell? ⟨g, t, none⟩ = some (f z[t]) ∧ w.frozen? ⟨g, t, none⟩ = false := by
  have ho := h.own i _ z hi
  subst hn
  refine ⟨?_, ho.frozenAt t⟩
  rw [ho.cellAt t (by omega), List.getElem?_map, List.getElem?_eq_getElem ht]; rfl
theorem Farm.form {i : Nat} {v : Value} {z : List α} (h : Farm w base e f R) (hi : R[i]? = some (v, z)) :
    ∃ A c, v = .slice A z.length c ∧ z.length ≤ c ∧ c ≤ 9223372036854775807 ∧ (0 < z.length → ∃ g, A = some ⟨g, 0, none⟩) := by
  rcases (h.own i v z hi).2 with ⟨rfl, h0⟩ | ⟨g, cap, cur, rfl, _, _, h1, h2, _⟩
  · exact ⟨none, 0, by rw [h0], by omega, by omega, fun hh => by omega⟩
  · exact ⟨_, cap, rfl, h1, by unfold maxLen at h2; omega, fun _ => ⟨g, rfl⟩⟩
theorem Farm.set {i t g n c : Nat} {z : List α} (h : Farm w base e f R) (hi : R[i]? = some (.slice (some ⟨g, 0, none⟩) n c, z)) (hn : z.length = n) (x : α) :
    Farm (w.setCell ⟨g, t, none⟩ (f x)) base e f (R.set i (.slice (some ⟨g, 0, none⟩) n c, z.set t x)) := by
  have hil : i < R.length := (List.getElem?_eq_some_iff.1 hi).1
  have ho := h.own i _ z hi
  subst hn
  have hst := ho.stored t (f x)
  constructor
  · intro j v y hj
    by_cases hji : j = i
    · subst hji
      rw [List.getElem?_set_self hil] at hj
      simp only [Option.some.injEq, Prod.mk.injEq] at hj
      obtain ⟨rfl, rfl⟩ := hj
      rw [List.length_set, List.map_set]
      exact hst.1
    · rw [List.getElem?_set_ne (Ne.symm hji)] at hj
      refine (h.own j v y hj).kept hst.2 ?_
      cases hv : v.ownBlock with
      | none => exact .inl rfl
      | some q =>
        refine .inr fun he => ?_
        exact h.apart i j _ z v y hi hj (Ne.symm hji) g (by simp [Value.ownBlock]) (by rw [hv]; exact he)
  · intro j k v y u x' hj hk hjk q hq
    have hblk : ∀ (j : Nat) (v : Value) (y : List α), (R.set i (.slice (some ⟨g, 0, none⟩) z.length c, z.set t x))[j]? = some (v, y) → ∃ y', R[j]? = some (v, y') := by
      intro j v y hj
      by_cases hji : j = i
      · subst hji
        rw [List.getElem?_set_self hil] at hj
        simp only [Option.some.injEq, Prod.mk.injEq] at hj
        obtain ⟨rfl, rfl⟩ := hj
        exact ⟨z, hi⟩
      · rw [List.getElem?_set_ne (Ne.symm hji)] at hj
        exact ⟨y, hj⟩
    obtain ⟨y1, h1⟩ := hblk j v y hj
    obtain ⟨y2, h2⟩ := hblk k u x' hk
    exact h.apart j k v y1 u y2 h1 h2 hjk q hq
/-- A row more, in a block of its own. -/
theorem Farm.snoc {v : Value} {z : List α} (h : Farm w base e f R) (ho : w.ownsRow base e 1 v z.length (z.map f)) (hv : ∀ (i : Nat) (u : Value) (y : List α) (q : Nat), R[i]? = some (u, y) → u.ownBlock = some q → v.ownBlock ≠ some q) : Farm w base e f (R ++ [(v, z)]) := by
  have hsp : ∀ (i : Nat) (p : Value × List α), (R ++ [(v, z)])[i]? = some p → R[i]? = some p ∨ (i = R.length ∧ p = (v, z)) := by
    intro i p hi
    rcases Nat.lt_or_ge i R.length with hlt | hge
    · rw [List.getElem?_append_left hlt] at hi; exact .inl hi
    · have hl := (List.getElem?_eq_some_iff.1 hi).1
      simp at hl
      obtain rfl : i = R.length := by omega
      rw [List.getElem?_append_right (Nat.le_refl _), Nat.sub_self] at hi
      simp at hi
      exact .inr ⟨rfl, hi.symm⟩
  constructor
  · intro i u y hi
    rcases hsp i _ hi with hi | ⟨_, hi⟩
    · exact h.own i u y hi
    · simp only [Prod.mk.injEq] at hi; obtain ⟨rfl, rfl⟩ := hi; exact ho
  · intro i j u y u2 y2 hi hj hij q hq
    rcases hsp i _ hi with a1 | ⟨e1, a1⟩ <;> rcases hsp j _ hj with b1 | ⟨e2, b1⟩
    · exact h.apart i j u y u2 y2 a1 b1 hij q hq
    · have e3 : u2 = v := (Prod.mk.inj b1).1
      rw [e3]
      exact hv i u y q a1 hq
    · have e3 : u = v := (Prod.mk.inj a1).1
      rw [e3] at hq
      intro he
      exact hv j u2 y2 q b1 he hq
    · omega
end
end Go.Bus.farmK
