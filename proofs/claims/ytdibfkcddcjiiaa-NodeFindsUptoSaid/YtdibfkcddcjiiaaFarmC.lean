/- Rows of the call's own that lie apart, so many cells an element. Plain. No condition. -/
import Derived.Test.YtdibfkcddcjiiaaLentC
import Derived.Test.YtdibfkcddcjiiaaApartKit
namespace Go.Bus.farmC
open Go.RowKit Go.Bus Go.Bus.cellK
open Go.Bus.farmK (grown_any own_ne_own)
set_option linter.unusedVariables false
section
variable {α : Type} {w w' : World} {base : Nat} {e : TypeId} {K : Nat} {cells : α → List Value} {R : List (Value × List α)}
structure Farm (w : World) (base : Nat) (e : TypeId) (K : Nat) (cells : α → List Value) (R : List (Value × List α)) : Prop where
  own : ∀ (i : Nat) (v : Value) (z : List α), R[i]? = some (v, z) → w.ownsRow base e K v z.length (z.flatMap cells)
  apart : ∀ (i j : Nat) (v : Value) (z : List α) (u : Value) (y : List α), R[i]? = some (v, z) → R[j]? = some (u, y) → i ≠ j → ∀ q, v.ownBlock = some q → u.ownBlock ≠ some q
theorem Farm.kept {row : Option Nat} (h : Farm w base e K cells R) (hg : w.grownBy w' row) (hr : ∀ (i : Nat) (v : Value) (z : List α), R[i]? = some (v, z) → v.ownBlock = none ∨ v.ownBlock ≠ row) : Farm w' base e K cells R :=
  ⟨fun i v z hi => (h.own i v z hi).kept hg (hr i v z hi), h.apart⟩
theorem Farm.below (h : Farm w base e K cells R) (hb : Below w.heap.size w w') : Farm w' base e K cells R := ⟨fun i v z hi => own_kept (h.own i v z hi) hb, h.apart⟩
theorem Farm.cell {i t j g n c : Nat} {z : List α} {u : Value} (hk : ∀ x, (cells x).length = K) (h : Farm w base e K cells R) (hi : R[i]? = some (.slice (some ⟨g, 0, none⟩) n c, z)) (hn : z.length = n) (ht : t < z.length) (hj : (cells z[t])[j]? = some u) :
    w.cell? ⟨g, t * K + j, none⟩ = some u ∧ w.frozen? ⟨g, t * K + j, none⟩ = false := by
  have ho := h.own i _ z hi
  subst hn
  refine ⟨?_, ho.frozenAt _⟩
  rw [← Go.Bus.lentC.flat_elt hk z t ht] at hj
  obtain ⟨h1, h2⟩ := eltOf_get hj
  rw [ho.cellAt (t * K + j) (by have : (t + 1) * K ≤ z.length * K := Nat.mul_le_mul_right K ht; rw [Nat.add_mul, Nat.one_mul] at this; omega)]
  exact h1
/-- So many cells stored one behind the other. -/
def putC (w : World) (g : Nat) : Nat → List Value → World
  | _, [] => w
  | i, u :: us => putC (w.setCell ⟨g, i, none⟩ u) g (i + 1) us
def setM : List Value → Nat → List Value → List Value
  | xs, _, [] => xs
  | xs, i, u :: us => setM (xs.set i u) (i + 1) us
theorem setM_eq : ∀ (us xs : List Value) (i : Nat), i + us.length ≤ xs.length → setM xs i us = xs.take i ++ (us ++ xs.drop (i + us.length))
  | [], xs, i, h => by simp [setM]
  | u :: us, xs, i, h => by
    rw [List.length_cons] at h
    rw [setM, setM_eq us _ (i + 1) (by rw [List.length_set]; omega), List.take_succ_eq_append_getElem (by rw [List.length_set]; omega), List.getElem_set_self, List.take_set_of_le (Nat.le_refl _), List.drop_set_of_lt (by omega), List.length_cons, List.append_assoc]
    rw [show i + 1 + us.length = i + (us.length + 1) from by omega]
    rfl
theorem setM_flat (hk : ∀ x, (cells x).length = K) (z : List α) (t : Nat) (x : α) (ht : t < z.length) : setM (z.flatMap cells) (t * K) (cells x) = (z.set t x).flatMap cells := by
  have hl := Go.Bus.lentC.flat_len hk z
  have hlt : (t + 1) * K ≤ z.length * K := Nat.mul_le_mul_right K ht
  rw [Nat.add_mul, Nat.one_mul] at hlt
  rw [setM_eq _ _ _ (by rw [hl, hk]; exact hlt), hk]
  have hz : z = z.take t ++ (z[t] :: z.drop (t + 1)) := by rw [← List.drop_eq_getElem_cons ht, List.take_append_drop]
  have e1 : (z.take t).flatMap cells = (z.flatMap cells).take (t * K) := by
    have h2 : z.flatMap cells = (z.take t).flatMap cells ++ (z.drop t).flatMap cells := by rw [← List.flatMap_append, List.take_append_drop]
    have h3 : ((z.take t).flatMap cells).length = t * K := by rw [Go.Bus.lentC.flat_len hk, List.length_take, Nat.min_eq_left (Nat.le_of_lt ht)]
    rw [h2, ← h3, List.take_left]
  have e2 : (z.drop (t + 1)).flatMap cells = (z.flatMap cells).drop (t * K + K) := by
    have h2 : z.flatMap cells = (z.take (t + 1)).flatMap cells ++ (z.drop (t + 1)).flatMap cells := by rw [← List.flatMap_append, List.take_append_drop]
    have h3 : ((z.take (t + 1)).flatMap cells).length = t * K + K := by rw [Go.Bus.lentC.flat_len hk, List.length_take, Nat.min_eq_left (show t + 1 ≤ z.length from ht), Nat.add_mul, Nat.one_mul]
    rw [h2, ← h3, List.drop_left]
  rw [List.set_eq_take_append_cons_drop, if_pos ht, List.flatMap_append, List.flatMap_cons, e1, e2]
theorem stored_many {g n c : Nat} : ∀ (us : List Value) (w : World) (i : Nat) (xs : List Value), w.ownsRow base e K (.slice (some ⟨g, 0, none⟩) n c) n xs → (putC w g i us).ownsRow base e K (.slice (some ⟨g, 0, none⟩) n c) n (setM xs i us) ∧ w.grownBy (putC w g i us) (some g)
  | [], w, i, xs, h => ⟨h, World.grownBy.refl _ _⟩
  | u :: us, w, i, xs, h => by
    obtain ⟨h1, h2⟩ := h.stored i u
    obtain ⟨h3, h4⟩ := stored_many us _ (i + 1) _ h1
    exact ⟨h3, h4.os.trans h2.os, h4.tape.trans h2.tape, h4.output.trans h2.output, Nat.le_trans h2.size h4.size, fun b hb hne => (h4.block b (Nat.lt_of_lt_of_le hb h2.size) hne).trans (h2.block b hb hne)⟩
theorem Farm.set {i t g n c : Nat} {z : List α} (h : Farm w base e K cells R) (hi : R[i]? = some (.slice (some ⟨g, 0, none⟩) n c, z)) (hn : z.length = n) (hk : ∀ x, (cells x).length = K) (ht : t < z.length) (x : α) :
    Farm (putC w g (t * K) (cells x)) base e K cells (R.set i (.slice (some ⟨g, 0, none⟩) n c, z.set t x)) := by
  have hil : i < R.length := (List.getElem?_eq_some_iff.1 hi).1
  have ho := h.own i _ z hi
  subst hn
  have hst := stored_many (cells x) w (t * K) _ ho
  rw [setM_flat hk z t x ht] at hst
  constructor
  · intro j v y hj
    by_cases hji : j = i
    · subst hji
      rw [List.getElem?_set_self hil] at hj
      simp only [Option.some.injEq, Prod.mk.injEq] at hj
      obtain ⟨rfl, rfl⟩ := hj
      rw [List.length_set]
      exact hst.1
    · rw [List.getElem?_set_ne (Ne.symm hji)] at hj
      refine (h.own j v y hj).kept hst.2 ?_
      cases hv : v.ownBlock with
      | none => exact .inl rfl
      | some q =>
        refine .inr fun he => ?_
        exact h.apart i j _ z v y hi hj (Ne.symm hji) g (by simp [Value.ownBlock]) (by rw [hv]; exact he)
  · intro j k v y u x' hj hk hjk q hq
    have hblk : ∀ (j : Nat) (v : Value) (y : List α), (R.set i (.slice (some ⟨g, 0, none⟩) z.length c, z.set t x))[j]? = some (v, y) → ∃ y', R[j]? = some (v, y') := by
      intro j v y hj
      by_cases hji : j = i
      · subst hji
        rw [List.getElem?_set_self hil] at hj
        simp only [Option.some.injEq, Prod.mk.injEq] at hj
        obtain ⟨rfl, rfl⟩ := hj
        exact ⟨z, hi⟩
      · rw [List.getElem?_set_ne (Ne.symm hji)] at hj
        exact ⟨y, hj⟩
    obtain ⟨y1, h1⟩ := hblk j v y hj
    obtain ⟨y2, h2⟩ := hblk k u x' hk
    exact h.apart j k v y1 u y2 h1 h2 hjk q hq
theorem Farm.form {i : Nat} {v : Value} {z : List α} (h : Farm w base e K cells R) (hi : R[i]? = some (v, z)) :
    ∃ A c, v = .slice A z.length c ∧ z.length ≤ c ∧ c ≤ 9223372036854775807 ∧ (0 < z.length → ∃ g, A = some ⟨g, 0, none⟩) := by
  rcases (h.own i v z hi).2 with ⟨rfl, h0⟩ | ⟨g, cap, cur, rfl, _, _, h1, h2, _⟩
  · exact ⟨none, 0, by rw [h0], by omega, by omega, fun hh => by omega⟩
  · exact ⟨_, cap, rfl, h1, by unfold maxLen at h2; omega, fun _ => ⟨g, rfl⟩⟩
/-- A row more, in a block of its own. -/
theorem Farm.snoc {v : Value} {z : List α} (h : Farm w base e K cells R) (ho : w.ownsRow base e K v z.length (z.flatMap cells)) (hv : ∀ (i : Nat) (u : Value) (y : List α) (q : Nat), R[i]? = some (u, y) → u.ownBlock = some q → v.ownBlock ≠ some q) : Farm w base e K cells (R ++ [(v, z)]) := by
  have hsp : ∀ (i : Nat) (p : Value × List α), (R ++ [(v, z)])[i]? = some p → R[i]? = some p ∨ (i = R.length ∧ p = (v, z)) := by
    intro i p hi
    rcases Nat.lt_or_ge i R.length with hlt | hge
    · rw [List.getElem?_append_left hlt] at hi; exact .inl hi
    · have hl := (List.getElem?_eq_some_iff.1 hi).1
      simp at hl
      obtain rfl : i = R.length := by omega
      rw [List.getElem?_append_right (Nat.le_refl _), Nat.sub_self] at hi
      simp at hi
      exact .inr ⟨rfl, hi.symm⟩
  constructor
  · intro i u y hi
    rcases hsp i _ hi with hi | ⟨_, hi⟩
    · exact h.own i u y hi
    · simp only [Prod.mk.injEq] at hi; obtain ⟨rfl, rfl⟩ := hi; exact ho
  · intro i j u y u2 y2 hi hj hij q hq
    rcases hsp i _ hi with a1 | ⟨e1, a1⟩ <;> rcases hsp j _ hj with b1 | ⟨e2, b1⟩
    · exact h.apart i j u y u2 y2 a1 b1 hij q hq
    · have e3 : u2 = v := (Prod.mk.inj b1).1
      rw [e3]
      exact hv i u y q a1 hq
    · have e3 : u = v := (Prod.mk.inj a1).1
      rw [e3] at hq
      intro he
      exact hv j u2 y2 q b1 he hq
    · omega
theorem own_prefix {A : Option Addr} {m n c : Nat} {xs : List Value} (h : w.ownsRow base e K (.slice A m c) m xs) (hn : n ≤ m) : w.ownsRow base e K (.slice A n c) n (xs.take (n * K)) := by
  have hl := h.1
  have hnm : n * K ≤ m * K := Nat.mul_le_mul_right K hn
  refine ⟨by rw [List.length_take]; omega, ?_⟩
  rcases h.2 with ⟨h0, h1⟩ | ⟨g, cap, cur, hv, hb, hh, h1, h2, h3, h4⟩
  · simp only [Value.slice.injEq] at h0
    obtain ⟨rfl, rfl, rfl⟩ := h0
    obtain rfl : n = 0 := by omega
    exact .inl ⟨rfl, rfl⟩
  · simp only [Value.slice.injEq] at hv
    obtain ⟨rfl, _, rfl⟩ := hv
    refine .inr ⟨g, c, cur, rfl, hb, hh, by omega, h2, h3, ?_⟩
    rw [← h4, List.take_take, Nat.min_eq_left (by omega)]
theorem own_reads {A : Option Addr} {n c : Nat} {xs : List Value} (h : w.ownsRow base e K (.slice A n c) n xs) :
    (A = none → n = 0 ∧ c = 0) ∧ (0 < c → ∃ g, A = some ⟨g, 0, none⟩) := by
  rcases h.2 with ⟨h0, h1⟩ | ⟨g, cap, cur, hv, hb, hh, h1, h2, h3, h4⟩
  · simp only [Value.slice.injEq] at h0
    obtain ⟨rfl, rfl, rfl⟩ := h0
    exact ⟨fun _ => ⟨rfl, rfl⟩, fun hc => by omega⟩
  · simp only [Value.slice.injEq] at hv
    obtain ⟨rfl, _, rfl⟩ := hv
    exact ⟨fun hn => by simp at hn, fun _ => ⟨g, rfl⟩⟩
theorem own_cells {A : Option Addr} {n c : Nat} {xs : List Value} (h : w.ownsRow base e K (.slice A n c) n xs) : ∀ b, A = some b → ∀ (j : Nat) (u : Value), xs[j]? = some u → w.cell? (b.add j) = some u := by
  intro b hb j u hu
  subst hb
  rcases h.2 with ⟨h0, _⟩ | ⟨g, cap, cur, hv, _⟩
  · simp at h0
  · simp only [Value.slice.injEq, Option.some.injEq] at hv
    obtain ⟨rfl, _⟩ := hv
    exact h.cells rfl j u hu
theorem Farm.lt {i : Nat} {v : Value} {z : List α} (h : Farm w base e K cells R) (hi : R[i]? = some (v, z)) : ∀ q, v.ownBlock = some q → base ≤ q ∧ q < w.heap.size := fun q hq => (h.own i v z hi).lt q hq
/-- Row i is another one now, in its own block or in a new one. -/
theorem Farm.put {i : Nat} {v v' : Value} {z z' : List α} (h : Farm w base e K cells R) (hi : R[i]? = some (v, z)) (ho : w'.ownsRow base e K v' z'.length (z'.flatMap cells)) (hg : w.grownBy w' v.ownBlock)
    (hb : v'.ownBlock = v.ownBlock ∨ ∀ q, v'.ownBlock = some q → w.heap.size ≤ q) : Farm w' base e K cells (R.set i (v', z')) := by
  have hil : i < R.length := (List.getElem?_eq_some_iff.1 hi).1
  have hother : ∀ (j : Nat) (u : Value) (y : List α), j ≠ i → R[j]? = some (u, y) → u.ownBlock = none ∨ u.ownBlock ≠ v.ownBlock := by
    intro j u y hji hj
    cases hu : u.ownBlock with
    | none => exact .inl rfl
    | some q => exact .inr fun he => h.apart j i u y v z hj hi hji q hu he.symm
  have hnew : ∀ (j : Nat) (u : Value) (y : List α), j ≠ i → R[j]? = some (u, y) → ∀ q, v'.ownBlock = some q → u.ownBlock ≠ some q := by
    intro j u y hji hj q hq hu
    rcases hb with hb | hb
    · exact h.apart j i u y v z hj hi hji q hu (by rw [← hb]; exact hq)
    · have h1 := hb q hq
      have h2 := (h.lt hj q hu).2
      omega
  have hget : ∀ (j : Nat) (p : Value × List α), (R.set i (v', z'))[j]? = some p → (j = i ∧ p = (v', z')) ∨ (j ≠ i ∧ R[j]? = some p) := by
    intro j p hj
    by_cases hji : j = i
    · subst hji
      rw [List.getElem?_set_self hil] at hj
      exact .inl ⟨rfl, (Option.some.inj hj).symm⟩
    · rw [List.getElem?_set_ne (Ne.symm hji)] at hj
      exact .inr ⟨hji, hj⟩
  constructor
  · intro j u y hj
    rcases hget j _ hj with ⟨_, hp⟩ | ⟨hji, hj⟩
    · simp only [Prod.mk.injEq] at hp; obtain ⟨rfl, rfl⟩ := hp; exact ho
    · exact (h.own j u y hj).kept hg (hother j u y hji hj)
  · intro j k u y u2 y2 hj hk hjk q hq
    rcases hget j _ hj with ⟨e1, hp⟩ | ⟨hji, hj'⟩ <;> rcases hget k _ hk with ⟨e2, hp2⟩ | ⟨hki, hk'⟩
    · omega
    · have e3 : u = v' := (Prod.mk.inj hp).1
      rw [e3] at hq
      exact hnew k u2 y2 hki hk' q hq
    · have e3 : u2 = v' := (Prod.mk.inj hp2).1
      rw [e3]
      intro he
      exact hnew j u y hji hj' q he hq
    · exact h.apart j k u y u2 y2 hj' hk' hjk q hq
/-- Row i moves into new memory; what it was, or a part of it, stays as row l, where none was. -/
theorem Farm.move {i l : Nat} {v v1 V u : Value} {z z1 Y y : List α} (h : Farm w base e K cells R) (hil : i ≠ l) (hi : R[i]? = some (v, z)) (hl : R[l]? = some (u, y)) (hu : u.ownBlock = none) (hg : w.grownBy w' none)
    (ho : w'.ownsRow base e K v1 z1.length (z1.flatMap cells)) (hb : ∀ q, v1.ownBlock = some q → w.heap.size ≤ q) (hV : w'.ownsRow base e K V Y.length (Y.flatMap cells)) (hVb : V.ownBlock = v.ownBlock) :
    Farm w' base e K cells ((R.set i (v1, z1)).set l (V, Y)) := by
  have hiL : i < R.length := (List.getElem?_eq_some_iff.1 hi).1
  have hlL : l < R.length := (List.getElem?_eq_some_iff.1 hl).1
  have hget : ∀ (j : Nat) (p : Value × List α), ((R.set i (v1, z1)).set l (V, Y))[j]? = some p → (j = l ∧ p = (V, Y)) ∨ (j = i ∧ j ≠ l ∧ p = (v1, z1)) ∨ (j ≠ i ∧ j ≠ l ∧ R[j]? = some p) := by
    intro j p hj
    by_cases hjl : j = l
    · subst hjl
      rw [List.getElem?_set_self (by rw [List.length_set]; exact hlL)] at hj
      exact .inl ⟨rfl, (Option.some.inj hj).symm⟩
    · rw [List.getElem?_set_ne (Ne.symm hjl)] at hj
      by_cases hji : j = i
      · subst hji
        rw [List.getElem?_set_self hiL] at hj
        exact .inr (.inl ⟨rfl, hjl, (Option.some.inj hj).symm⟩)
      · rw [List.getElem?_set_ne (Ne.symm hji)] at hj
        exact .inr (.inr ⟨hji, hjl, hj⟩)
  have old : ∀ (j : Nat) (x : Value) (t : List α), R[j]? = some (x, t) → ∀ q, v1.ownBlock = some q → x.ownBlock ≠ some q := by
    intro j x t hj q hq he
    have h1 := hb q hq
    have h2 := (h.lt hj q he).2
    omega
  constructor
  · intro j x t hj
    rcases hget j _ hj with ⟨_, hp⟩ | ⟨_, _, hp⟩ | ⟨_, _, hj'⟩
    · simp only [Prod.mk.injEq] at hp; obtain ⟨rfl, rfl⟩ := hp; exact hV
    · simp only [Prod.mk.injEq] at hp; obtain ⟨rfl, rfl⟩ := hp; exact ho
    · exact (h.own j x t hj').kept hg (by cases hx : x.ownBlock with | none => exact .inl rfl | some q => exact .inr (by simp))
  · intro j k x t x2 t2 hj hk hjk q hq
    rcases hget j _ hj with ⟨e1, hp⟩ | ⟨e1, n1, hp⟩ | ⟨n1, m1, hj'⟩ <;> rcases hget k _ hk with ⟨e2, hp2⟩ | ⟨e2, n2, hp2⟩ | ⟨n2, m2, hk'⟩
    · omega
    · have a1 : x = V := (Prod.mk.inj hp).1
      have a2 : x2 = v1 := (Prod.mk.inj hp2).1
      rw [a1, hVb] at hq
      rw [a2]
      intro he
      exact old i v z hi q he hq
    · have a1 : x = V := (Prod.mk.inj hp).1
      rw [a1, hVb] at hq
      exact h.apart i k v z x2 t2 hi hk' (Ne.symm n2) q hq
    · have a1 : x = v1 := (Prod.mk.inj hp).1
      have a2 : x2 = V := (Prod.mk.inj hp2).1
      rw [a1] at hq
      rw [a2, hVb]
      exact old i v z hi q hq
    · omega
    · have a1 : x = v1 := (Prod.mk.inj hp).1
      rw [a1] at hq
      exact old k x2 t2 hk' q hq
    · have a2 : x2 = V := (Prod.mk.inj hp2).1
      rw [a2, hVb]
      exact h.apart j i x t v z hj' hi n1 q hq
    · have a2 : x2 = v1 := (Prod.mk.inj hp2).1
      rw [a2]
      intro he
      exact old j x t hj' q he hq
    · exact h.apart j k x t x2 t2 hj' hk' hjk q hq
end
section
variable {α : Type} {K : Nat} {cells : α → List Value} {e : TypeId}
variable {w w1 : World} {base k m c : Nat} {F D : List (Value × List α)} {V gv v1 : Value} {X Z Z1 : List α} {d : Value × List α} {o : Obj} {A : Option Addr}
theorem fit_step (hk : k < F.length) (h : Farm w base e K cells (F.set k (gv, Z) ++ (D ++ [d]))) (ho : w1.ownsRow base e K v1 Z1.length (Z1.flatMap cells)) (hg : (w.alloc o).grownBy w1 gv.ownBlock)
    (hb : v1.ownBlock = gv.ownBlock) : Farm w1 base e K cells (F.set k (v1, Z1) ++ (D ++ [d])) := by
  have h1 : Farm (w.alloc o) base e K cells (F.set k (gv, Z) ++ (D ++ [d])) := h.below ((Below.refl _ _).alloc (Nat.le_refl _) _)
  have h2 := h1.put (apartG.at_k hk _ _) ho hg (.inl hb)
  rw [apartG.set_k hk] at h2
  exact h2
theorem take_flatC (hk : ∀ x, (cells x).length = K) (z : List α) (t : Nat) (ht : t ≤ z.length) : (z.flatMap cells).take (t * K) = (z.take t).flatMap cells := by
  have h2 : z.flatMap cells = (z.take t).flatMap cells ++ (z.drop t).flatMap cells := by rw [← List.flatMap_append, List.take_append_drop]
  have h3 : ((z.take t).flatMap cells).length = t * K := by rw [Go.Bus.lentC.flat_len hk, List.length_take, Nat.min_eq_left ht]
  rw [h2, ← h3, List.take_left]
theorem grow_step (hk2 : ∀ x, (cells x).length = K) (hk : k < F.length) (hXZ : Z.take X.length = X) (hXl : X.length ≤ Z.length) (hm : Z.length = m) (hgv : gv = .slice A m c) (hV : apartG.Pair V X m gv d) (h : Farm w base e K cells (F.set k (gv, Z) ++ (D ++ [d])))
    (ho : w1.ownsRow (w.alloc o).heap.size e K v1 Z1.length (Z1.flatMap cells)) (hbase : base ≤ w.heap.size) (hg : (w.alloc o).grownBy w1 none) (hv1 : ∃ A c, v1 = .slice A (m + 1) c) :
    ∃ d1, apartG.Pair V X (m + 1) v1 d1 ∧ Farm w1 base e K cells (F.set k (v1, Z1) ++ (D ++ [d1])) := by
  have h1 : Farm (w.alloc o) base e K cells (F.set k (gv, Z) ++ (D ++ [d])) := h.below ((Below.refl _ _).alloc (Nat.le_refl _) _)
  have hbn : base ≤ (w.alloc o).heap.size := by simp; omega
  have hfresh : ∀ q, v1.ownBlock = some q → (w.alloc o).heap.size ≤ q := fun q hq => (ho.lt q hq).1
  rcases hV with ⟨hd, A0, c0, hV1, hV2⟩ | ⟨hd1, hd2, hd3⟩
  · subst hd
    have hi := apartG.at_k hk (gv, Z) (D ++ [(Value.slice none 0 0, [])])
    have hlen : (F.set k (gv, Z)).length = F.length := List.length_set
    have hl : (F.set k (gv, Z) ++ (D ++ [((Value.slice none 0 0 : Value), ([] : List α))]))[F.length + D.length]? = some (.slice none 0 0, []) := by
      rw [List.getElem?_append_right (by omega), hlen]
      simp
    have hgo := (h1.own k gv Z hi).kept hg (by cases gv.ownBlock with | none => exact .inl rfl | some q => exact .inr (by simp))
    have hgv2 : w1.ownsRow base e K (.slice A0 Z.length c0) Z.length (Z.flatMap cells) := by rw [hm]; rw [hV2] at hgo; rw [← hm] at hgo ⊢; exact hgo
    have hpre := own_prefix hgv2 hXl
    rw [show (Z.flatMap cells).take (X.length * K) = X.flatMap cells from by
      rw [take_flatC hk2 Z X.length hXl, hXZ]] at hpre
    have hVb : V.ownBlock = gv.ownBlock := by rw [hV1, hV2]; cases A0 <;> rfl
    have hmv := h1.move (i := k) (l := F.length + D.length) (by omega) hi hl rfl hg (own_base ho hbn) hfresh (V := V) (Y := X) (by rw [hV1]; exact hpre) hVb
    refine ⟨(V, X), .inr ⟨rfl, rfl, hv1⟩, ?_⟩
    rw [apartG.set_k hk] at hmv
    have e1 : (F.set k (v1, Z1) ++ (D ++ [((Value.slice none 0 0 : Value), ([] : List α))])).set (F.length + D.length) (V, X) = F.set k (v1, Z1) ++ (D ++ [(V, X)]) := by
      rw [List.set_append_right _ _ (by rw [List.length_set]; omega), List.length_set, Nat.add_sub_cancel_left, List.set_append_right _ _ (Nat.le_refl _), Nat.sub_self]; rfl
    rw [e1] at hmv
    exact hmv
  · refine ⟨d, .inr ⟨hd1, hd2, hv1⟩, ?_⟩
    have h2 := h1.put (apartG.at_k hk _ _) (own_base ho hbn) (grown_any hg _) (.inr hfresh)
    rw [apartG.set_k hk] at h2
    exact h2
end
end Go.Bus.farmC
