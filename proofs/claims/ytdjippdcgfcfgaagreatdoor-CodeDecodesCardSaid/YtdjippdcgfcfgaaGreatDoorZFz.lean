/- Texts of this claim, one behind the other. No condition but those that each states. -/
import Derived.Test.YtdjippdcgfcfgaaGreatDoorBase
import Derived.Laws.OwnMore
import Derived.Test.YtdjippdcgfcfgaaGreatDoorCells
import Derived.Maps.AppendAt
import Derived.Lib.SlicesS
import Derived.Test.YtdjippdcgfcfgaaGreatDoorZNz
import Derived.RegionTactic
import Derived.Deep.RegionWith
import Derived.Deep.QuietTactic
import Derived.BigQuiet
import Derived.ArgAppend
import Derived.Outline

namespace Go.Bus.farmK
open Go.RowKit Go.Bus
set_option linter.unusedVariables false
section
variable {α : Type} {w w' : World} {base : Nat} {e : TypeId} {f : α → Value} {R : List (Value × List α)}
structure Farm (w : World) (base : Nat) (e : TypeId) (f : α → Value) (R : List (Value × List α)) : Prop where
  own : ∀ (i : Nat) (v : Value) (z : List α), R[i]? = some (v, z) → w.ownsRow base e 1 v z.length (z.map f)
  apart : ∀ (i j : Nat) (v : Value) (z : List α) (u : Value) (y : List α), R[i]? = some (v, z) → R[j]? = some (u, y) → i ≠ j → ∀ q, v.ownBlock = some q → u.ownBlock ≠ some q
theorem Farm.kept {row : Option Nat} (h : Farm w base e f R) (hg : w.grownBy w' row) (hr : ∀ (i : Nat) (v : Value) (z : List α), R[i]? = some (v, z) → v.ownBlock = none ∨ v.ownBlock ≠ row) : Farm w' base e f R :=
  ⟨fun i v z hi => (h.own i v z hi).kept hg (hr i v z hi), h.apart⟩
theorem Farm.below (h : Farm w base e f R) (hb : Below w.heap.size w w') : Farm w' base e f R := ⟨fun i v z hi => own_kept (h.own i v z hi) hb, h.apart⟩
theorem Farm.cell {i t g n c : Nat} {z : List α} (h : Farm w base e f R) (hi : R[i]? = some (.slice (some ⟨g, 0, none⟩) n c, z)) (hn : z.length = n) (ht : t < z.length) :
    w.cell? ⟨g, t, none⟩ = some (f z[t]) ∧ w.frozen? ⟨g, t, none⟩ = false := by
  have ho := h.own i _ z hi
  subst hn
  refine ⟨?_, ho.frozenAt t⟩
  rw [ho.cellAt t (by omega), List.getElem?_map, List.getElem?_eq_getElem ht]; rfl
theorem Farm.form {i : Nat} {v : Value} {z : List α} (h : Farm w base e f R) (hi : R[i]? = some (v, z)) :
    ∃ A c, v = .slice A z.length c ∧ z.length ≤ c ∧ c ≤ 9223372036854775807 ∧ (0 < z.length → ∃ g, A = some ⟨g, 0, none⟩) := by
  rcases (h.own i v z hi).2 with ⟨rfl, h0⟩ | ⟨g, cap, cur, rfl, _, _, h1, h2, _⟩
  · exact ⟨none, 0, by rw [h0], by omega, by omega, fun hh => by omega⟩
  · exact ⟨_, cap, rfl, h1, by unfold maxLen at h2; omega, fun _ => ⟨g, rfl⟩⟩
theorem Farm.set {i t g n c : Nat} {z : List α} (h : Farm w base e f R) (hi : R[i]? = some (.slice (some ⟨g, 0, none⟩) n c, z)) (hn : z.length = n) (x : α) :
    Farm (w.setCell ⟨g, t, none⟩ (f x)) base e f (R.set i (.slice (some ⟨g, 0, none⟩) n c, z.set t x)) := by
  have hil : i < R.length := (List.getElem?_eq_some_iff.1 hi).1
  have ho := h.own i _ z hi
  subst hn
  have hst := ho.stored t (f x)
  constructor
  · intro j v y hj
    by_cases hji : j = i
    · subst hji
      rw [List.getElem?_set_self hil] at hj
      simp only [Option.some.injEq, Prod.mk.injEq] at hj
      obtain ⟨rfl, rfl⟩ := hj
      rw [List.length_set, List.map_set]
      exact hst.1
    · rw [List.getElem?_set_ne (Ne.symm hji)] at hj
      refine (h.own j v y hj).kept hst.2 ?_
      cases hv : v.ownBlock with
      | none => exact .inl rfl
      | some q =>
        refine .inr fun he => ?_
        exact h.apart i j _ z v y hi hj (Ne.symm hji) g (by simp [Value.ownBlock]) (by rw [hv]; exact he)
  · intro j k v y u x' hj hk hjk q hq
    have hblk : ∀ (j : Nat) (v : Value) (y : List α), (R.set i (.slice (some ⟨g, 0, none⟩) z.length c, z.set t x))[j]? = some (v, y) → ∃ y', R[j]? = some (v, y') := by
      intro j v y hj
      by_cases hji : j = i
      · subst hji
        rw [List.getElem?_set_self hil] at hj
        simp only [Option.some.injEq, Prod.mk.injEq] at hj
        obtain ⟨rfl, rfl⟩ := hj
        exact ⟨z, hi⟩
      · rw [List.getElem?_set_ne (Ne.symm hji)] at hj
        exact ⟨y, hj⟩
    obtain ⟨y1, h1⟩ := hblk j v y hj
    obtain ⟨y2, h2⟩ := hblk k u x' hk
    exact h.apart j k v y1 u y2 h1 h2 hjk q hq
/-- A row more, in a block of its own. -/
theorem Farm.snoc {v : Value} {z : List α} (h : Farm w base e f R) (ho : w.ownsRow base e 1 v z.length (z.map f)) (hv : ∀ (i : Nat) (u : Value) (y : List α) (q : Nat), R[i]? = some (u, y) → u.ownBlock = some q → v.ownBlock ≠ some q) : Farm w base e f (R ++ [(v, z)]) := by
  have hsp : ∀ (i : Nat) (p : Value × List α), (R ++ [(v, z)])[i]? = some p → R[i]? = some p ∨ (i = R.length ∧ p = (v, z)) := by
    intro i p hi
    rcases Nat.lt_or_ge i R.length with hlt | hge
    · rw [List.getElem?_append_left hlt] at hi; exact .inl hi
    · have hl := (List.getElem?_eq_some_iff.1 hi).1
      simp at hl
      obtain rfl : i = R.length := by omega
      rw [List.getElem?_append_right (Nat.le_refl _), Nat.sub_self] at hi
      simp at hi
      exact .inr ⟨rfl, hi.symm⟩
  constructor
  · intro i u y hi
    rcases hsp i _ hi with hi | ⟨_, hi⟩
    · exact h.own i u y hi
    · simp only [Prod.mk.injEq] at hi; obtain ⟨rfl, rfl⟩ := hi; exact ho
  · intro i j u y u2 y2 hi hj hij q hq
    rcases hsp i _ hi with a1 | ⟨e1, a1⟩ <;> rcases hsp j _ hj with b1 | ⟨e2, b1⟩
    · exact h.apart i j u y u2 y2 a1 b1 hij q hq
    · have e3 : u2 = v := (Prod.mk.inj b1).1
      rw [e3]
      exact hv i u y q a1 hq
    · have e3 : u = v := (Prod.mk.inj a1).1
      rw [e3] at hq
      intro he
      exact hv j u2 y2 q b1 he hq
    · omega
end
end Go.Bus.farmK

namespace Go.Bus.farmK
open Go.RowKit Go.Bus
set_option linter.unusedVariables false
section
variable {α : Type} {w w' : World} {base : Nat} {e : TypeId} {f : α → Value} {R : List (Value × List α)}
theorem own_prefix {A : Option Addr} {m n c : Nat} {xs : List Value} (h : w.ownsRow base e 1 (.slice A m c) m xs) (hn : n ≤ m) : w.ownsRow base e 1 (.slice A n c) n (xs.take n) := by
  have hl := h.1
  refine ⟨by rw [List.length_take]; omega, ?_⟩
  rcases h.2 with ⟨h0, h1⟩ | ⟨g, cap, cur, hv, hb, hh, h1, h2, h3, h4⟩
  · simp only [Value.slice.injEq] at h0
    obtain ⟨rfl, rfl, rfl⟩ := h0
    obtain rfl : n = 0 := by omega
    exact .inl ⟨rfl, rfl⟩
  · simp only [Value.slice.injEq] at hv
    obtain ⟨rfl, _, rfl⟩ := hv
    refine .inr ⟨g, c, cur, rfl, hb, hh, by omega, h2, h3, ?_⟩
    rw [← h4, List.take_take, Nat.min_eq_left (by omega), Nat.mul_one]
theorem own_ne_own {base' : Nat} {t : TypeId} {s s' n m : Nat} {v u : Value} {xs ys : List Value} (h : w.ownsRow base e s v n xs) (h' : w.ownsRow base' t s' u m ys) (hne : e ≠ t) : ∀ q, v.ownBlock = some q → u.ownBlock ≠ some q := by
  intro q hq he
  rcases h.2 with ⟨rfl, _⟩ | ⟨g, cap, cur, rfl, _, hh, _⟩
  · simp [Value.ownBlock] at hq
  · rcases h'.2 with ⟨rfl, _⟩ | ⟨g', cap', cur', rfl, _, hh', _⟩
    · simp [Value.ownBlock] at he
    · have e1 : g = q := by simpa [Value.ownBlock] using hq
      have e2 : g' = q := by simpa [Value.ownBlock] using he
      subst e1; subst e2
      rw [hh] at hh'
      simp only [Option.some.injEq, Obj.cells.injEq] at hh'
      exact hne hh'.2.1
theorem Farm.lt {i : Nat} {v : Value} {z : List α} (h : Farm w base e f R) (hi : R[i]? = some (v, z)) : ∀ q, v.ownBlock = some q → base ≤ q ∧ q < w.heap.size := fun q hq => (h.own i v z hi).lt q hq
/-- Row i is another one now, in its own block or in a new one. -/
theorem Farm.put {i : Nat} {v v' : Value} {z z' : List α} (h : Farm w base e f R) (hi : R[i]? = some (v, z)) (ho : w'.ownsRow base e 1 v' z'.length (z'.map f)) (hg : w.grownBy w' v.ownBlock)
    (hb : v'.ownBlock = v.ownBlock ∨ ∀ q, v'.ownBlock = some q → w.heap.size ≤ q) : Farm w' base e f (R.set i (v', z')) := by
  have hil : i < R.length := (List.getElem?_eq_some_iff.1 hi).1
  have hother : ∀ (j : Nat) (u : Value) (y : List α), j ≠ i → R[j]? = some (u, y) → u.ownBlock = none ∨ u.ownBlock ≠ v.ownBlock := by
    intro j u y hji hj
    cases hu : u.ownBlock with
    | none => exact .inl rfl
    | some q => exact .inr fun he => h.apart j i u y v z hj hi hji q hu he.symm
  have hnew : ∀ (j : Nat) (u : Value) (y : List α), j ≠ i → R[j]? = some (u, y) → ∀ q, v'.ownBlock = some q → u.ownBlock ≠ some q := by
    intro j u y hji hj q hq hu
    rcases hb with hb | hb
    · exact h.apart j i u y v z hj hi hji q hu (by rw [← hb]; exact hq)
    · have h1 := hb q hq
      have h2 := (h.lt hj q hu).2
      omega
  have hget : ∀ (j : Nat) (p : Value × List α), (R.set i (v', z'))[j]? = some p → (j = i ∧ p = (v', z')) ∨ (j ≠ i ∧ R[j]? = some p) := by
    intro j p hj
    by_cases hji : j = i
    · subst hji
      rw [List.getElem?_set_self hil] at hj
      exact .inl ⟨rfl, (Option.some.inj hj).symm⟩
    · rw [List.getElem?_set_ne (Ne.symm hji)] at hj
      exact .inr ⟨hji, hj⟩
  constructor
  · intro j u y hj
    rcases hget j _ hj with ⟨_, hp⟩ | ⟨hji, hj⟩
    · simp only [Prod.mk.injEq] at hp; obtain ⟨rfl, rfl⟩ := hp; exact ho
    · exact (h.own j u y hj).kept hg (hother j u y hji hj)
  · intro j k u y u2 y2 hj hk hjk q hq
    rcases hget j _ hj with ⟨e1, hp⟩ | ⟨hji, hj'⟩ <;> rcases hget k _ hk with ⟨e2, hp2⟩ | ⟨hki, hk'⟩
    · omega
    · have e3 : u = v' := (Prod.mk.inj hp).1
      rw [e3] at hq
      exact hnew k u2 y2 hki hk' q hq
    · have e3 : u2 = v' := (Prod.mk.inj hp2).1
      rw [e3]
      intro he
      exact hnew j u y hji hj' q he hq
    · exact h.apart j k u y u2 y2 hj' hk' hjk q hq
theorem grown_any (h : w.grownBy w' none) (row : Option Nat) : w.grownBy w' row := ⟨h.os, h.tape, h.output, h.size, fun i hi _ => h.block i hi (by simp)⟩
theorem own_reads {A : Option Addr} {n c : Nat} {xs : List Value} (h : w.ownsRow base e 1 (.slice A n c) n xs) :
    (A = none → n = 0 ∧ c = 0) ∧ (0 < c → ∃ g, A = some ⟨g, 0, none⟩) ∧ (∀ b, A = some b → ∀ (j : Nat) (u : Value), xs[j]? = some u → w.cell? (b.add j) = some u) := by
  rcases h.2 with ⟨h0, h1⟩ | ⟨g, cap, cur, hv, hb, hh, h1, h2, h3, h4⟩
  · simp only [Value.slice.injEq] at h0
    obtain ⟨rfl, rfl, rfl⟩ := h0
    exact ⟨fun _ => ⟨rfl, rfl⟩, fun hc => by omega, fun b hb => by cases hb⟩
  · simp only [Value.slice.injEq] at hv
    obtain ⟨rfl, _, rfl⟩ := hv
    refine ⟨fun hn => by simp at hn, fun _ => ⟨g, rfl⟩, fun b hb j u hu => ?_⟩
    obtain rfl : (⟨g, 0, none⟩ : Addr) = b := by simpa using hb
    have hadd : ((⟨g, 0, none⟩ : Addr).add j) = ⟨g, j, none⟩ := by unfold Addr.add; split <;> simp_all
    rw [hadd, cell_of_row w g j cur e (0, 0) hh]
    rw [← h4, List.getElem?_take] at hu
    split at hu
    · simpa using hu
    · cases hu
/-- Row i moves into new memory; what it was, or a part of it, stays as row l, where none was. -/
theorem Farm.move {i l : Nat} {v v1 V u : Value} {z z1 Y y : List α} (h : Farm w base e f R) (hil : i ≠ l) (hi : R[i]? = some (v, z)) (hl : R[l]? = some (u, y)) (hu : u.ownBlock = none) (hg : w.grownBy w' none)
    (ho : w'.ownsRow base e 1 v1 z1.length (z1.map f)) (hb : ∀ q, v1.ownBlock = some q → w.heap.size ≤ q) (hV : w'.ownsRow base e 1 V Y.length (Y.map f)) (hVb : V.ownBlock = v.ownBlock) :
    Farm w' base e f ((R.set i (v1, z1)).set l (V, Y)) := by
  have hiL : i < R.length := (List.getElem?_eq_some_iff.1 hi).1
  have hlL : l < R.length := (List.getElem?_eq_some_iff.1 hl).1
  have hget : ∀ (j : Nat) (p : Value × List α), ((R.set i (v1, z1)).set l (V, Y))[j]? = some p → (j = l ∧ p = (V, Y)) ∨ (j = i ∧ j ≠ l ∧ p = (v1, z1)) ∨ (j ≠ i ∧ j ≠ l ∧ R[j]? = some p) := by
    intro j p hj
    by_cases hjl : j = l
    · subst hjl
      rw [List.getElem?_set_self (by rw [List.length_set]; exact hlL)] at hj
      exact .inl ⟨rfl, (Option.some.inj hj).symm⟩
    · rw [List.getElem?_set_ne (Ne.symm hjl)] at hj
      by_cases hji : j = i
      · subst hji
        rw [List.getElem?_set_self hiL] at hj
        exact .inr (.inl ⟨rfl, hjl, (Option.some.inj hj).symm⟩)
      · rw [List.getElem?_set_ne (Ne.symm hji)] at hj
        exact .inr (.inr ⟨hji, hjl, hj⟩)
  have old : ∀ (j : Nat) (x : Value) (t : List α), R[j]? = some (x, t) → ∀ q, v1.ownBlock = some q → x.ownBlock ≠ some q := by
    intro j x t hj q hq he
    have h1 := hb q hq
    have h2 := (h.lt hj q he).2
    omega
  constructor
  · intro j x t hj
    rcases hget j _ hj with ⟨_, hp⟩ | ⟨_, _, hp⟩ | ⟨_, _, hj'⟩
    · simp only [Prod.mk.injEq] at hp; obtain ⟨rfl, rfl⟩ := hp; exact hV
    · simp only [Prod.mk.injEq] at hp; obtain ⟨rfl, rfl⟩ := hp; exact ho
    · exact (h.own j x t hj').kept hg (by cases hx : x.ownBlock with | none => exact .inl rfl | some q => exact .inr (by simp))
  · intro j k x t x2 t2 hj hk hjk q hq
    rcases hget j _ hj with ⟨e1, hp⟩ | ⟨e1, n1, hp⟩ | ⟨n1, m1, hj'⟩ <;> rcases hget k _ hk with ⟨e2, hp2⟩ | ⟨e2, n2, hp2⟩ | ⟨n2, m2, hk'⟩
    · omega
    · have a1 : x = V := (Prod.mk.inj hp).1
      have a2 : x2 = v1 := (Prod.mk.inj hp2).1
      rw [a1, hVb] at hq
      rw [a2]
      intro he
      exact old i v z hi q he hq
    · have a1 : x = V := (Prod.mk.inj hp).1
      rw [a1, hVb] at hq
      exact h.apart i k v z x2 t2 hi hk' (Ne.symm n2) q hq
    · have a1 : x = v1 := (Prod.mk.inj hp).1
      have a2 : x2 = V := (Prod.mk.inj hp2).1
      rw [a1] at hq
      rw [a2, hVb]
      exact old i v z hi q hq
    · omega
    · have a1 : x = v1 := (Prod.mk.inj hp).1
      rw [a1] at hq
      exact old k x2 t2 hk' q hq
    · have a2 : x2 = V := (Prod.mk.inj hp2).1
      rw [a2, hVb]
      exact h.apart j i x t v z hj' hi n1 q hq
    · have a2 : x2 = v1 := (Prod.mk.inj hp2).1
      rw [a2]
      intro he
      exact old j x t hj' q he hq
    · exact h.apart j k x t x2 t2 hj' hk' hjk q hq
end
end Go.Bus.farmK

namespace Go.Bus.apartG
open Go.RowKit Go.Bus Go.Bus.farmK
set_option linter.unusedVariables false
theorem own_cap2 {w : World} {base : Nat} {e : TypeId} {A : Option Addr} {n c : Nat} {xs : List Value} (h : w.ownsRow base e 1 (.slice A n c) n xs) : n ≤ c ∧ c ≤ 9223372036854775807 := by
  rcases h.2 with ⟨h0, h1⟩ | ⟨g, cap, cur, hv, _, _, h1, h2, _⟩
  · simp only [Value.slice.injEq] at h0
    obtain ⟨_, rfl, rfl⟩ := h0
    omega
  · simp only [Value.slice.injEq] at hv
    obtain ⟨_, _, rfl⟩ := hv
    exact ⟨h1, by unfold maxLen at h2; omega⟩
section
variable {α : Type} {f : α → Value} {e : TypeId}
/-- How a list V with content X lies to the same with more behind: in one block, or in d. -/
def Pair (V : Value) (X : List α) (m : Nat) (G : Value) (d : Value × List α) : Prop :=
  (d = (.slice none 0 0, []) ∧ ∃ A c, V = .slice A X.length c ∧ G = .slice A m c) ∨ (d.1 = V ∧ d.2 = X ∧ ∃ A c, G = .slice A m c)
structure P1 (E : Nat → List α → List α) (rows F D : List (Value × List α)) (k : Nat) : Prop where
  lenF : F.length = rows.length
  lenD : D.length = k
  done : ∀ (i : Nat) (p : Value × List α), i < k → rows[i]? = some p → ∃ (G : Value) (d : Value × List α), F[i]? = some (G, E i p.2) ∧ D[i]? = some d ∧ Pair p.1 p.2 (E i p.2).length G d
  todo : ∀ i, k ≤ i → F[i]? = rows[i]?
variable {w w1 : World} {base k m c : Nat} {F D : List (Value × List α)} {V gv v1 : Value} {X Z Z1 : List α} {d : Value × List α} {o : Obj} {A : Option Addr}
theorem at_k (hk : k < F.length) (p : Value × List α) (T : List (Value × List α)) : (F.set k p ++ T)[k]? = some p := by
  rw [List.getElem?_append_left (by rw [List.length_set]; exact hk), List.getElem?_set_self hk]
theorem set_k (hk : k < F.length) (p p1 : Value × List α) (T : List (Value × List α)) : (F.set k p ++ T).set k p1 = F.set k p1 ++ T := by
  rw [List.set_append_left _ _ (by rw [List.length_set]; exact hk), List.set_set]
theorem set_same {p : Value × List α} (hk : F[k]? = some p) : F.set k p = F := by
  have hl := (List.getElem?_eq_some_iff.1 hk).1
  apply List.ext_getElem?
  intro j
  by_cases hj : j = k
  · subst hj; rw [List.getElem?_set_self hl, hk]
  · rw [List.getElem?_set_ne (Ne.symm hj)]
theorem fit_step (hk : k < F.length) (h : Farm w base e f (F.set k (gv, Z) ++ (D ++ [d]))) (ho : w1.ownsRow base e 1 v1 Z1.length (Z1.map f)) (hg : (w.alloc o).grownBy w1 gv.ownBlock)
    (hb : v1.ownBlock = gv.ownBlock) : Farm w1 base e f (F.set k (v1, Z1) ++ (D ++ [d])) := by
  have h1 : Farm (w.alloc o) base e f (F.set k (gv, Z) ++ (D ++ [d])) := h.below ((Below.refl _ _).alloc (Nat.le_refl _) _)
  have h2 := h1.put (at_k hk _ _) ho hg (.inl hb)
  rw [set_k hk] at h2
  exact h2
theorem grow_step (hk : k < F.length) (hXZ : Z.take X.length = X) (hXl : X.length ≤ Z.length) (hm : Z.length = m) (hgv : gv = .slice A m c) (hV : Pair V X m gv d) (h : Farm w base e f (F.set k (gv, Z) ++ (D ++ [d])))
    (ho : w1.ownsRow (w.alloc o).heap.size e 1 v1 Z1.length (Z1.map f)) (hbase : base ≤ w.heap.size) (hg : (w.alloc o).grownBy w1 none) (hv1 : ∃ A c, v1 = .slice A (m + 1) c) :
    ∃ d1, Pair V X (m + 1) v1 d1 ∧ Farm w1 base e f (F.set k (v1, Z1) ++ (D ++ [d1])) := by
  have h1 : Farm (w.alloc o) base e f (F.set k (gv, Z) ++ (D ++ [d])) := h.below ((Below.refl _ _).alloc (Nat.le_refl _) _)
  have hbn : base ≤ (w.alloc o).heap.size := by simp; omega
  have hfresh : ∀ q, v1.ownBlock = some q → (w.alloc o).heap.size ≤ q := fun q hq => (ho.lt q hq).1
  rcases hV with ⟨hd, A0, c0, hV1, hV2⟩ | ⟨hd1, hd2, hd3⟩
  · subst hd
    have hi := at_k hk (gv, Z) (D ++ [(Value.slice none 0 0, [])])
    have hlen : (F.set k (gv, Z)).length = F.length := List.length_set
    have hl : (F.set k (gv, Z) ++ (D ++ [((Value.slice none 0 0 : Value), ([] : List α))]))[F.length + D.length]? = some (.slice none 0 0, []) := by
      rw [List.getElem?_append_right (by omega), hlen]
      simp
    have hgo := (h1.own k gv Z hi).kept hg (by cases gv.ownBlock with | none => exact .inl rfl | some q => exact .inr (by simp))
    have hgv2 : w1.ownsRow base e 1 (.slice A0 Z.length c0) Z.length (Z.map f) := by rw [hm]; rw [hV2] at hgo; rw [← hm] at hgo ⊢; exact hgo
    have hpre := own_prefix hgv2 hXl
    rw [← List.map_take, hXZ] at hpre
    have hVb : V.ownBlock = gv.ownBlock := by rw [hV1, hV2]; cases A0 <;> rfl
    have hmv := h1.move (i := k) (l := F.length + D.length) (by omega) hi hl rfl hg (own_base ho hbn) hfresh (V := V) (Y := X) (by rw [hV1]; exact hpre) hVb
    refine ⟨(V, X), .inr ⟨rfl, rfl, hv1⟩, ?_⟩
    rw [set_k hk] at hmv
    have e1 : (F.set k (v1, Z1) ++ (D ++ [((Value.slice none 0 0 : Value), ([] : List α))])).set (F.length + D.length) (V, X) = F.set k (v1, Z1) ++ (D ++ [(V, X)]) := by
      rw [List.set_append_right _ _ (by rw [List.length_set]; omega), List.length_set, Nat.add_sub_cancel_left, List.set_append_right _ _ (Nat.le_refl _), Nat.sub_self]; rfl
    rw [e1] at hmv
    exact hmv
  · refine ⟨d, .inr ⟨hd1, hd2, hv1⟩, ?_⟩
    have h2 := h1.put (at_k hk _ _) (own_base ho hbn) (grown_any hg _) (.inr hfresh)
    rw [set_k hk] at h2
    exact h2
end
section
variable {α : Type} {f : α → Value} {e : TypeId}
theorem p1_step {E : Nat → List α → List α} {rows F D : List (Value × List α)} {k : Nat} {V gv : Value} {X : List α} {d : Value × List α} (h : P1 E rows F D k) (hk : k < rows.length) (hr : rows[k]? = some (V, X)) (hp : Pair V X (E k X).length gv d) :
    P1 E rows (F.set k (gv, E k X)) (D ++ [d]) (k + 1) ∧ ((F.set k (gv, E k X)).take (k + 1)).map (·.1) = (F.take k).map (·.1) ++ [gv] := by
  have hkF : k < F.length := by rw [h.lenF]; exact hk
  refine ⟨⟨by rw [List.length_set]; exact h.lenF, by simp [h.lenD], fun i p hi hpi => ?_, fun i hi => ?_⟩, ?_⟩
  · by_cases hik : i = k
    · subst hik
      rw [hr] at hpi
      obtain rfl : (V, X) = p := Option.some.inj hpi
      exact ⟨gv, d, List.getElem?_set_self hkF, by rw [List.getElem?_append_right (by rw [h.lenD]; exact Nat.le_refl _), h.lenD]; simp, hp⟩
    · obtain ⟨G, d', h1, h2, h3⟩ := h.done i p (by omega) hpi
      exact ⟨G, d', by rw [List.getElem?_set_ne (Ne.symm hik)]; exact h1, by rw [List.getElem?_append_left (by rw [h.lenD]; omega)]; exact h2, h3⟩
  · rw [List.getElem?_set_ne (by omega)]
    exact h.todo i (by omega)
  · rw [List.take_succ_eq_append_getElem (by rw [List.length_set]; exact hkF), List.map_append, List.getElem_set_self]
    rw [List.take_set_of_le (Nat.le_refl _)]
    rfl
/-- The first k rows are written over: row j holds M j. -/
structure S0 (M : Nat → Nat → List α) (rows R : List (Value × List α)) (k : Nat) : Prop where
  heads : R.map (·.1) = rows.map (·.1)
  lens : R.map (fun p => p.2.length) = rows.map (fun p => p.2.length)
  done : ∀ (j : Nat) (p : Value × List α), j < k → R[j]? = some p → p.2 = M j p.2.length
theorem S0.at_ {M : Nat → Nat → List α} {rows R : List (Value × List α)} {k i : Nat} {p : Value × List α} (h : S0 M rows R k) (hp : rows[i]? = some p) : ∃ z, R[i]? = some (p.1, z) ∧ z.length = p.2.length := by
  have h1 := congrArg (fun l : List Value => l[i]?) h.heads
  have h2 := congrArg (fun l : List Nat => l[i]?) h.lens
  simp only [List.getElem?_map, hp, Option.map_some] at h1 h2
  cases hr : R[i]? with
  | none => rw [hr] at h1; simp at h1
  | some r =>
    rw [hr] at h1 h2
    simp only [Option.map_some, Option.some.injEq] at h1 h2
    exact ⟨r.2, by rw [← h1], h2⟩
theorem S0.next {M : Nat → Nat → List α} {rows R : List (Value × List α)} {k : Nat} {V : Value} {Y : List α} (h : S0 M rows R k) (hp : R[k]? = some (V, Y)) (hM : (M k Y.length).length = Y.length) : S0 M rows (R.set k (V, M k Y.length)) (k + 1) := by
  have hl := (List.getElem?_eq_some_iff.1 hp).1
  refine ⟨?_, ?_, fun j p hj hjp => ?_⟩
  · rw [← h.heads, List.map_set]
    refine List.ext_getElem? fun j => ?_
    by_cases hjk : j = k
    · subst hjk
      rw [List.getElem?_set_self (by rw [List.length_map]; exact hl), List.getElem?_map, hp]; rfl
    · rw [List.getElem?_set_ne (Ne.symm hjk)]
  · rw [← h.lens, List.map_set]
    refine List.ext_getElem? fun j => ?_
    by_cases hjk : j = k
    · subst hjk
      rw [List.getElem?_set_self (by rw [List.length_map]; exact hl), List.getElem?_map, hp]
      simp only [Option.map_some, hM]
    · rw [List.getElem?_set_ne (Ne.symm hjk)]
  · by_cases hjk : j = k
    · subst hjk
      rw [List.getElem?_set_self hl] at hjp
      obtain rfl := Option.some.inj hjp
      show M j Y.length = M j (M j Y.length).length
      rw [hM]
    · rw [List.getElem?_set_ne (Ne.symm hjk)] at hjp
      exact h.done j p (by omega) hjp
theorem fill_set {M : Nat → List α} {m : Nat → α} (hM : ∀ n, M n = (List.range n).map m) {Y : List α} {t : Nat} (ht : t < Y.length) : (M t ++ Y.drop t).set t (m t) = M (t + 1) ++ Y.drop (t + 1) := by
  have h : (Y.drop t).set 0 (m t) = m t :: Y.drop (t + 1) := by rw [List.drop_eq_getElem_cons ht]; rfl
  rw [hM, hM, List.set_append_right _ _ (by simp), List.range_succ, List.map_append]
  simp [h]
theorem fill_len {M : Nat → List α} {m : Nat → α} (hM : ∀ n, M n = (List.range n).map m) {Y : List α} {t : Nat} (ht : t ≤ Y.length) : (M t ++ Y.drop t).length = Y.length := by
  rw [hM]; simp; omega
end
end Go.Bus.apartG

namespace Go.Bus.lentC
open Go.RowKit Go.Bus Go.Bus.cellK
variable {α : Type} {k : Nat} {cells : α → List Value}
theorem flat_len (hk : ∀ x, (cells x).length = k) : ∀ l : List α, (l.flatMap cells).length = l.length * k
  | [] => by simp
  | x :: l => by rw [List.flatMap_cons, List.length_append, hk, flat_len hk l, List.length_cons, Nat.add_mul, Nat.one_mul, Nat.add_comm]
theorem flat_elt (hk : ∀ x, (cells x).length = k) : ∀ (l : List α) (i : Nat) (hi : i < l.length), eltOf k (l.flatMap cells) i = cells l[i]
  | x :: l, 0, _ => by
    unfold eltOf
    rw [List.flatMap_cons, Nat.zero_mul, List.drop_zero, List.take_append_of_le_length (by rw [hk]; exact Nat.le_refl _), List.take_of_length_le (by rw [hk]; exact Nat.le_refl _)]
    rfl
  | x :: l, i + 1, hi => by
    have := flat_elt hk l i (by simpa using hi)
    unfold eltOf at this ⊢
    rw [List.flatMap_cons, Nat.add_mul, Nat.one_mul, List.drop_append, List.drop_of_length_le (by rw [hk]; omega), List.nil_append, hk, Nat.add_sub_cancel, this]
    rfl
theorem flat_snoc {l : List α} {x : α} {t : List α} (h : t = l ++ [x]) : t.flatMap cells = l.flatMap cells ++ cells x := by rw [h, List.flatMap_append]; simp
/-- Lent: a list of the call's own with 16 marks behind, of which n are in sight. -/
def LentK (w : World) (base : Nat) (e : TypeId) (k : Nat) (v : Value) (n : Nat) (xs : List Value) : Prop := ∃ g c, v = .slice (some ⟨g, 0, none⟩) n c ∧ w.ownsRow base e k (.slice (some ⟨g, 0, none⟩) (n + 16) c) (n + 16) xs
theorem LentK.keep {w w' : World} {base n : Nat} {e : TypeId} {v : Value} {xs : List Value} (h : LentK w base e k v n xs) (hb : Below w.heap.size w w') : LentK w' base e k v n xs := by
  obtain ⟨g, c, h1, h2⟩ := h
  exact ⟨g, c, h1, own_kept h2 hb⟩
theorem LentK.lt {w : World} {base n : Nat} {e : TypeId} {v : Value} {xs : List Value} (h : LentK w base e k v n xs) : ∀ q, v.ownBlock = some q → q < w.heap.size := by
  obtain ⟨g, c, rfl, ho⟩ := h
  intro q hq
  exact (ho.lt q (by simpa [Value.ownBlock] using hq)).2
theorem LentK.under {w w' : World} {base n B : Nat} {e : TypeId} {v : Value} {xs : List Value} (h : LentK w base e k v n xs) (hb : Below B w w') (hv : ∀ q, v.ownBlock = some q → q < B) : LentK w' base e k v n xs := by
  obtain ⟨g, c, rfl, ho⟩ := h
  refine ⟨g, c, rfl, ho.1, ?_⟩
  rcases ho.2 with hn | ⟨g', cap, cur, h1, h2, h3, rest⟩
  · exact .inl hn
  · refine .inr ⟨g', cap, cur, h1, h2, ?_, rest⟩
    have e1 : g = g' := by
      simp only [Value.slice.injEq, Option.some.injEq, Addr.mk.injEq, and_true] at h1
      exact h1.1
    subst e1
    exact (hb.block g (hv g (by rfl))).trans h3
theorem own_range {w : World} {base n : Nat} {e : TypeId} {g c : Nat} {xs : List Value} (h : w.ownsRow base e k (.slice (some ⟨g, 0, none⟩) n c) n xs) : w.rangeAt g 0 xs ∧ base ≤ g ∧ g < w.heap.size ∧ n ≤ c ∧ c ≤ maxLen := by
  refine ⟨fun j u hj => ?_, ?_⟩
  · have h1 := h.cells (g := g) rfl j u hj
    rw [Addr.add_mid] at h1
    exact h1
  · have h2 := h.lt g rfl
    rcases h.2 with ⟨h0, _⟩ | ⟨g', cap, cur, hv, hb, hg, hn, hm, hs, ht⟩
    · exact absurd h0 (by simp)
    · simp only [Value.slice.injEq, Option.some.injEq, Addr.mk.injEq, and_true] at hv
      obtain ⟨rfl, _, rfl⟩ := hv
      exact ⟨h2.1, h2.2, hn, hm⟩
theorem Ln.sl {R : Rel α} {w : World} {base : Nat} {e : TypeId} {v : Value} {l m : List α} (hk : ∀ x, (cells x).length = k) (hR : ∀ w F x, R w F (cells x) x) (h : LentK w base e k v l.length ((l ++ m).flatMap cells)) : SlK k R w (Old w.heap.size) v l := by
  obtain ⟨g, c, rfl, ho⟩ := h
  obtain ⟨h1, h2, h3, h4, h5⟩ := own_range ho
  refine ⟨l.flatMap cells, ⟨_, c, rfl, by omega, h5, flat_len hk l, fun _ => ⟨g, 0, rfl, h3, fun j u hj => h1 j u ?_⟩⟩, fun i x hi => ?_⟩
  · rw [List.flatMap_append, List.getElem?_append_left (List.getElem?_eq_some_iff.1 hj).1]; exact hj
  · obtain ⟨hlt, rfl⟩ := List.getElem?_eq_some_iff.1 hi
    rw [flat_elt hk l i hlt]
    exact hR _ _ _
theorem own_slk {R : Rel α} {w : World} {base : Nat} {e : TypeId} {v : Value} {m : List α} {n : Nat} (hk : ∀ x, (cells x).length = k) (hR : ∀ w F x, R w F (cells x) x) (hn : n = m.length) (h0 : 0 < n) (ho : w.ownsRow base e k v n (m.flatMap cells)) : SlK k R w (Old w.heap.size) v m := by
  subst hn
  obtain ⟨g, c, rfl, _, _⟩ := own_form ho h0
  obtain ⟨h1, h2, h3, h4, h5⟩ := own_range ho
  refine ⟨m.flatMap cells, ⟨_, c, rfl, h4, h5, flat_len hk m, fun _ => ⟨g, 0, rfl, h3, h1⟩⟩, fun i x hi => ?_⟩
  obtain ⟨hlt, rfl⟩ := List.getElem?_eq_some_iff.1 hi
  rw [flat_elt hk m i hlt]
  exact hR _ _ _
theorem news_new2 (w : World) (cs : List Value) (t : TypeId) : ∀ (j : Nat) (u : Value), cs[j]? = some u → (w.alloc (.cells cs.toArray t)).cell? ((⟨w.heap.size, 0, none⟩ : Addr).add j) = some u := by
  intro j u hj
  rw [Addr.add_mid, Nat.zero_add, (Has.new w t cs.toArray).cell j]
  simpa using hj
theorem marks_take {α : Type} (f : Nat → α) (k : Nat) (hk : k < 16) : ((List.range 16).map f).take (k + 1) = ((List.range 16).map f).take k ++ [f k] := by
  rw [take_snoc _ _ (by simpa using hk)]; simp
theorem marks_all {α : Type} (f : Nat → α) : ((List.range 16).map f).take 16 = (List.range 16).map f := List.take_of_length_le (by simp)
end Go.Bus.lentC

namespace Go.Bus.farmC
open Go.RowKit Go.Bus Go.Bus.cellK
open Go.Bus.farmK (grown_any own_ne_own)
set_option linter.unusedVariables false
section
variable {α : Type} {w w' : World} {base : Nat} {e : TypeId} {K : Nat} {cells : α → List Value} {R : List (Value × List α)}
structure Farm (w : World) (base : Nat) (e : TypeId) (K : Nat) (cells : α → List Value) (R : List (Value × List α)) : Prop where
  own : ∀ (i : Nat) (v : Value) (z : List α), R[i]? = some (v, z) → w.ownsRow base e K v z.length (z.flatMap cells)
  apart : ∀ (i j : Nat) (v : Value) (z : List α) (u : Value) (y : List α), R[i]? = some (v, z) → R[j]? = some (u, y) → i ≠ j → ∀ q, v.ownBlock = some q → u.ownBlock ≠ some q
theorem Farm.kept {row : Option Nat} (h : Farm w base e K cells R) (hg : w.grownBy w' row) (hr : ∀ (i : Nat) (v : Value) (z : List α), R[i]? = some (v, z) → v.ownBlock = none ∨ v.ownBlock ≠ row) : Farm w' base e K cells R :=
  ⟨fun i v z hi => (h.own i v z hi).kept hg (hr i v z hi), h.apart⟩
theorem Farm.below (h : Farm w base e K cells R) (hb : Below w.heap.size w w') : Farm w' base e K cells R := ⟨fun i v z hi => own_kept (h.own i v z hi) hb, h.apart⟩
theorem Farm.cell {i t j g n c : Nat} {z : List α} {u : Value} (hk : ∀ x, (cells x).length = K) (h : Farm w base e K cells R) (hi : R[i]? = some (.slice (some ⟨g, 0, none⟩) n c, z)) (hn : z.length = n) (ht : t < z.length) (hj : (cells z[t])[j]? = some u) :
    w.cell? ⟨g, t * K + j, none⟩ = some u ∧ w.frozen? ⟨g, t * K + j, none⟩ = false := by
  have ho := h.own i _ z hi
  subst hn
  refine ⟨?_, ho.frozenAt _⟩
  rw [← Go.Bus.lentC.flat_elt hk z t ht] at hj
  obtain ⟨h1, h2⟩ := eltOf_get hj
  rw [ho.cellAt (t * K + j) (by have : (t + 1) * K ≤ z.length * K := Nat.mul_le_mul_right K ht; rw [Nat.add_mul, Nat.one_mul] at this; omega)]
  exact h1
/-- So many cells stored one behind the other. -/
def putC (w : World) (g : Nat) : Nat → List Value → World
  | _, [] => w
  | i, u :: us => putC (w.setCell ⟨g, i, none⟩ u) g (i + 1) us
def setM : List Value → Nat → List Value → List Value
  | xs, _, [] => xs
  | xs, i, u :: us => setM (xs.set i u) (i + 1) us
theorem setM_eq : ∀ (us xs : List Value) (i : Nat), i + us.length ≤ xs.length → setM xs i us = xs.take i ++ (us ++ xs.drop (i + us.length))
  | [], xs, i, h => by simp [setM]
  | u :: us, xs, i, h => by
    rw [List.length_cons] at h
    rw [setM, setM_eq us _ (i + 1) (by rw [List.length_set]; omega), List.take_succ_eq_append_getElem (by rw [List.length_set]; omega), List.getElem_set_self, List.take_set_of_le (Nat.le_refl _), List.drop_set_of_lt (by omega), List.length_cons, List.append_assoc]
    rw [show i + 1 + us.length = i + (us.length + 1) from by omega]
    rfl
theorem setM_flat (hk : ∀ x, (cells x).length = K) (z : List α) (t : Nat) (x : α) (ht : t < z.length) : setM (z.flatMap cells) (t * K) (cells x) = (z.set t x).flatMap cells := by
  have hl := Go.Bus.lentC.flat_len hk z
  have hlt : (t + 1) * K ≤ z.length * K := Nat.mul_le_mul_right K ht
  rw [Nat.add_mul, Nat.one_mul] at hlt
  rw [setM_eq _ _ _ (by rw [hl, hk]; exact hlt), hk]
  have hz : z = z.take t ++ (z[t] :: z.drop (t + 1)) := by rw [← List.drop_eq_getElem_cons ht, List.take_append_drop]
  have e1 : (z.take t).flatMap cells = (z.flatMap cells).take (t * K) := by
    have h2 : z.flatMap cells = (z.take t).flatMap cells ++ (z.drop t).flatMap cells := by rw [← List.flatMap_append, List.take_append_drop]
    have h3 : ((z.take t).flatMap cells).length = t * K := by rw [Go.Bus.lentC.flat_len hk, List.length_take, Nat.min_eq_left (Nat.le_of_lt ht)]
    rw [h2, ← h3, List.take_left]
  have e2 : (z.drop (t + 1)).flatMap cells = (z.flatMap cells).drop (t * K + K) := by
    have h2 : z.flatMap cells = (z.take (t + 1)).flatMap cells ++ (z.drop (t + 1)).flatMap cells := by rw [← List.flatMap_append, List.take_append_drop]
    have h3 : ((z.take (t + 1)).flatMap cells).length = t * K + K := by rw [Go.Bus.lentC.flat_len hk, List.length_take, Nat.min_eq_left (show t + 1 ≤ z.length from ht), Nat.add_mul, Nat.one_mul]
    rw [h2, ← h3, List.drop_left]
  rw [List.set_eq_take_append_cons_drop, if_pos ht, List.flatMap_append, List.flatMap_cons, e1, e2]
theorem stored_many {g n c : Nat} : ∀ (us : List Value) (w : World) (i : Nat) (xs : List Value), w.ownsRow base e K (.slice (some ⟨g, 0, none⟩) n c) n xs → (putC w g i us).ownsRow base e K (.slice (some ⟨g, 0, none⟩) n c) n (setM xs i us) ∧ w.grownBy (putC w g i us) (some g)
  | [], w, i, xs, h => ⟨h, World.grownBy.refl _ _⟩
  | u :: us, w, i, xs, h => by
    obtain ⟨h1, h2⟩ := h.stored i u
    obtain ⟨h3, h4⟩ := stored_many us _ (i + 1) _ h1
    exact ⟨h3, h4.os.trans h2.os, h4.tape.trans h2.tape, h4.output.trans h2.output, Nat.le_trans h2.size h4.size, fun b hb hne => (h4.block b (Nat.lt_of_lt_of_le hb h2.size) hne).trans (h2.block b hb hne)⟩
theorem Farm.set {i t g n c : Nat} {z : List α} (h : Farm w base e K cells R) (hi : R[i]? = some (.slice (some ⟨g, 0, none⟩) n c, z)) (hn : z.length = n) (hk : ∀ x, (cells x).length = K) (ht : t < z.length) (x : α) :
    Farm (putC w g (t * K) (cells x)) base e K cells (R.set i (.slice (some ⟨g, 0, none⟩) n c, z.set t x)) := by
  have hil : i < R.length := (List.getElem?_eq_some_iff.1 hi).1
  have ho := h.own i _ z hi
  subst hn
  have hst := stored_many (cells x) w (t * K) _ ho
  rw [setM_flat hk z t x ht] at hst
  constructor
  · intro j v y hj
    by_cases hji : j = i
    · subst hji
      rw [List.getElem?_set_self hil] at hj
      simp only [Option.some.injEq, Prod.mk.injEq] at hj
      obtain ⟨rfl, rfl⟩ := hj
      rw [List.length_set]
      exact hst.1
    · rw [List.getElem?_set_ne (Ne.symm hji)] at hj
      refine (h.own j v y hj).kept hst.2 ?_
      cases hv : v.ownBlock with
      | none => exact .inl rfl
      | some q =>
        refine .inr fun he => ?_
        exact h.apart i j _ z v y hi hj (Ne.symm hji) g (by simp [Value.ownBlock]) (by rw [hv]; exact he)
  · intro j k v y u x' hj hk hjk q hq
    have hblk : ∀ (j : Nat) (v : Value) (y : List α), (R.set i (.slice (some ⟨g, 0, none⟩) z.length c, z.set t x))[j]? = some (v, y) → ∃ y', R[j]? = some (v, y') := by
      intro j v y hj
      by_cases hji : j = i
      · subst hji
        rw [List.getElem?_set_self hil] at hj
        simp only [Option.some.injEq, Prod.mk.injEq] at hj
        obtain ⟨rfl, rfl⟩ := hj
        exact ⟨z, hi⟩
      · rw [List.getElem?_set_ne (Ne.symm hji)] at hj
        exact ⟨y, hj⟩
    obtain ⟨y1, h1⟩ := hblk j v y hj
    obtain ⟨y2, h2⟩ := hblk k u x' hk
    exact h.apart j k v y1 u y2 h1 h2 hjk q hq
theorem Farm.form {i : Nat} {v : Value} {z : List α} (h : Farm w base e K cells R) (hi : R[i]? = some (v, z)) :
    ∃ A c, v = .slice A z.length c ∧ z.length ≤ c ∧ c ≤ 9223372036854775807 ∧ (0 < z.length → ∃ g, A = some ⟨g, 0, none⟩) := by
  rcases (h.own i v z hi).2 with ⟨rfl, h0⟩ | ⟨g, cap, cur, rfl, _, _, h1, h2, _⟩
  · exact ⟨none, 0, by rw [h0], by omega, by omega, fun hh => by omega⟩
  · exact ⟨_, cap, rfl, h1, by unfold maxLen at h2; omega, fun _ => ⟨g, rfl⟩⟩
/-- A row more, in a block of its own. -/
theorem Farm.snoc {v : Value} {z : List α} (h : Farm w base e K cells R) (ho : w.ownsRow base e K v z.length (z.flatMap cells)) (hv : ∀ (i : Nat) (u : Value) (y : List α) (q : Nat), R[i]? = some (u, y) → u.ownBlock = some q → v.ownBlock ≠ some q) : Farm w base e K cells (R ++ [(v, z)]) := by
  have hsp : ∀ (i : Nat) (p : Value × List α), (R ++ [(v, z)])[i]? = some p → R[i]? = some p ∨ (i = R.length ∧ p = (v, z)) := by
    intro i p hi
    rcases Nat.lt_or_ge i R.length with hlt | hge
    · rw [List.getElem?_append_left hlt] at hi; exact .inl hi
    · have hl := (List.getElem?_eq_some_iff.1 hi).1
      simp at hl
      obtain rfl : i = R.length := by omega
      rw [List.getElem?_append_right (Nat.le_refl _), Nat.sub_self] at hi
      simp at hi
      exact .inr ⟨rfl, hi.symm⟩
  constructor
  · intro i u y hi
    rcases hsp i _ hi with hi | ⟨_, hi⟩
    · exact h.own i u y hi
    · simp only [Prod.mk.injEq] at hi; obtain ⟨rfl, rfl⟩ := hi; exact ho
  · intro i j u y u2 y2 hi hj hij q hq
    rcases hsp i _ hi with a1 | ⟨e1, a1⟩ <;> rcases hsp j _ hj with b1 | ⟨e2, b1⟩
    · exact h.apart i j u y u2 y2 a1 b1 hij q hq
    · have e3 : u2 = v := (Prod.mk.inj b1).1
      rw [e3]
      exact hv i u y q a1 hq
    · have e3 : u = v := (Prod.mk.inj a1).1
      rw [e3] at hq
      intro he
      exact hv j u2 y2 q b1 he hq
    · omega
theorem own_prefix {A : Option Addr} {m n c : Nat} {xs : List Value} (h : w.ownsRow base e K (.slice A m c) m xs) (hn : n ≤ m) : w.ownsRow base e K (.slice A n c) n (xs.take (n * K)) := by
  have hl := h.1
  have hnm : n * K ≤ m * K := Nat.mul_le_mul_right K hn
  refine ⟨by rw [List.length_take]; omega, ?_⟩
  rcases h.2 with ⟨h0, h1⟩ | ⟨g, cap, cur, hv, hb, hh, h1, h2, h3, h4⟩
  · simp only [Value.slice.injEq] at h0
    obtain ⟨rfl, rfl, rfl⟩ := h0
    obtain rfl : n = 0 := by omega
    exact .inl ⟨rfl, rfl⟩
  · simp only [Value.slice.injEq] at hv
    obtain ⟨rfl, _, rfl⟩ := hv
    refine .inr ⟨g, c, cur, rfl, hb, hh, by omega, h2, h3, ?_⟩
    rw [← h4, List.take_take, Nat.min_eq_left (by omega)]
theorem own_reads {A : Option Addr} {n c : Nat} {xs : List Value} (h : w.ownsRow base e K (.slice A n c) n xs) :
    (A = none → n = 0 ∧ c = 0) ∧ (0 < c → ∃ g, A = some ⟨g, 0, none⟩) := by
  rcases h.2 with ⟨h0, h1⟩ | ⟨g, cap, cur, hv, hb, hh, h1, h2, h3, h4⟩
  · simp only [Value.slice.injEq] at h0
    obtain ⟨rfl, rfl, rfl⟩ := h0
    exact ⟨fun _ => ⟨rfl, rfl⟩, fun hc => by omega⟩
  · simp only [Value.slice.injEq] at hv
    obtain ⟨rfl, _, rfl⟩ := hv
    exact ⟨fun hn => by simp at hn, fun _ => ⟨g, rfl⟩⟩
theorem own_cells {A : Option Addr} {n c : Nat} {xs : List Value} (h : w.ownsRow base e K (.slice A n c) n xs) : ∀ b, A = some b → ∀ (j : Nat) (u : Value), xs[j]? = some u → w.cell? (b.add j) = some u := by
  intro b hb j u hu
  subst hb
  rcases h.2 with ⟨h0, _⟩ | ⟨g, cap, cur, hv, _⟩
  · simp at h0
  · simp only [Value.slice.injEq, Option.some.injEq] at hv
    obtain ⟨rfl, _⟩ := hv
    exact h.cells rfl j u hu
theorem Farm.lt {i : Nat} {v : Value} {z : List α} (h : Farm w base e K cells R) (hi : R[i]? = some (v, z)) : ∀ q, v.ownBlock = some q → base ≤ q ∧ q < w.heap.size := fun q hq => (h.own i v z hi).lt q hq
/-- Row i is another one now, in its own block or in a new one. -/
theorem Farm.put {i : Nat} {v v' : Value} {z z' : List α} (h : Farm w base e K cells R) (hi : R[i]? = some (v, z)) (ho : w'.ownsRow base e K v' z'.length (z'.flatMap cells)) (hg : w.grownBy w' v.ownBlock)
    (hb : v'.ownBlock = v.ownBlock ∨ ∀ q, v'.ownBlock = some q → w.heap.size ≤ q) : Farm w' base e K cells (R.set i (v', z')) := by
  have hil : i < R.length := (List.getElem?_eq_some_iff.1 hi).1
  have hother : ∀ (j : Nat) (u : Value) (y : List α), j ≠ i → R[j]? = some (u, y) → u.ownBlock = none ∨ u.ownBlock ≠ v.ownBlock := by
    intro j u y hji hj
    cases hu : u.ownBlock with
    | none => exact .inl rfl
    | some q => exact .inr fun he => h.apart j i u y v z hj hi hji q hu he.symm
  have hnew : ∀ (j : Nat) (u : Value) (y : List α), j ≠ i → R[j]? = some (u, y) → ∀ q, v'.ownBlock = some q → u.ownBlock ≠ some q := by
    intro j u y hji hj q hq hu
    rcases hb with hb | hb
    · exact h.apart j i u y v z hj hi hji q hu (by rw [← hb]; exact hq)
    · have h1 := hb q hq
      have h2 := (h.lt hj q hu).2
      omega
  have hget : ∀ (j : Nat) (p : Value × List α), (R.set i (v', z'))[j]? = some p → (j = i ∧ p = (v', z')) ∨ (j ≠ i ∧ R[j]? = some p) := by
    intro j p hj
    by_cases hji : j = i
    · subst hji
      rw [List.getElem?_set_self hil] at hj
      exact .inl ⟨rfl, (Option.some.inj hj).symm⟩
    · rw [List.getElem?_set_ne (Ne.symm hji)] at hj
      exact .inr ⟨hji, hj⟩
  constructor
  · intro j u y hj
    rcases hget j _ hj with ⟨_, hp⟩ | ⟨hji, hj⟩
    · simp only [Prod.mk.injEq] at hp; obtain ⟨rfl, rfl⟩ := hp; exact ho
    · exact (h.own j u y hj).kept hg (hother j u y hji hj)
  · intro j k u y u2 y2 hj hk hjk q hq
    rcases hget j _ hj with ⟨e1, hp⟩ | ⟨hji, hj'⟩ <;> rcases hget k _ hk with ⟨e2, hp2⟩ | ⟨hki, hk'⟩
    · omega
    · have e3 : u = v' := (Prod.mk.inj hp).1
      rw [e3] at hq
      exact hnew k u2 y2 hki hk' q hq
    · have e3 : u2 = v' := (Prod.mk.inj hp2).1
      rw [e3]
      intro he
      exact hnew j u y hji hj' q he hq
    · exact h.apart j k u y u2 y2 hj' hk' hjk q hq
/-- Row i moves into new memory; what it was, or a part of it, stays as row l, where none was. -/
theorem Farm.move {i l : Nat} {v v1 V u : Value} {z z1 Y y : List α} (h : Farm w base e K cells R) (hil : i ≠ l) (hi : R[i]? = some (v, z)) (hl : R[l]? = some (u, y)) (hu : u.ownBlock = none) (hg : w.grownBy w' none)
    (ho : w'.ownsRow base e K v1 z1.length (z1.flatMap cells)) (hb : ∀ q, v1.ownBlock = some q → w.heap.size ≤ q) (hV : w'.ownsRow base e K V Y.length (Y.flatMap cells)) (hVb : V.ownBlock = v.ownBlock) :
    Farm w' base e K cells ((R.set i (v1, z1)).set l (V, Y)) := by
  have hiL : i < R.length := (List.getElem?_eq_some_iff.1 hi).1
  have hlL : l < R.length := (List.getElem?_eq_some_iff.1 hl).1
  have hget : ∀ (j : Nat) (p : Value × List α), ((R.set i (v1, z1)).set l (V, Y))[j]? = some p → (j = l ∧ p = (V, Y)) ∨ (j = i ∧ j ≠ l ∧ p = (v1, z1)) ∨ (j ≠ i ∧ j ≠ l ∧ R[j]? = some p) := by
    intro j p hj
    by_cases hjl : j = l
    · subst hjl
      rw [List.getElem?_set_self (by rw [List.length_set]; exact hlL)] at hj
      exact .inl ⟨rfl, (Option.some.inj hj).symm⟩
    · rw [List.getElem?_set_ne (Ne.symm hjl)] at hj
      by_cases hji : j = i
      · subst hji
        rw [List.getElem?_set_self hiL] at hj
        exact .inr (.inl ⟨rfl, hjl, (Option.some.inj hj).symm⟩)
      · rw [List.getElem?_set_ne (Ne.symm hji)] at hj
        exact .inr (.inr ⟨hji, hjl, hj⟩)
  have old : ∀ (j : Nat) (x : Value) (t : List α), R[j]? = some (x, t) → ∀ q, v1.ownBlock = some q → x.ownBlock ≠ some q := by
    intro j x t hj q hq he
    have h1 := hb q hq
    have h2 := (h.lt hj q he).2
    omega
  constructor
  · intro j x t hj
    rcases hget j _ hj with ⟨_, hp⟩ | ⟨_, _, hp⟩ | ⟨_, _, hj'⟩
    · simp only [Prod.mk.injEq] at hp; obtain ⟨rfl, rfl⟩ := hp; exact hV
    · simp only [Prod.mk.injEq] at hp; obtain ⟨rfl, rfl⟩ := hp; exact ho
    · exact (h.own j x t hj').kept hg (by cases hx : x.ownBlock with | none => exact .inl rfl | some q => exact .inr (by simp))
  · intro j k x t x2 t2 hj hk hjk q hq
    rcases hget j _ hj with ⟨e1, hp⟩ | ⟨e1, n1, hp⟩ | ⟨n1, m1, hj'⟩ <;> rcases hget k _ hk with ⟨e2, hp2⟩ | ⟨e2, n2, hp2⟩ | ⟨n2, m2, hk'⟩
    · omega
    · have a1 : x = V := (Prod.mk.inj hp).1
      have a2 : x2 = v1 := (Prod.mk.inj hp2).1
      rw [a1, hVb] at hq
      rw [a2]
      intro he
      exact old i v z hi q he hq
    · have a1 : x = V := (Prod.mk.inj hp).1
      rw [a1, hVb] at hq
      exact h.apart i k v z x2 t2 hi hk' (Ne.symm n2) q hq
    · have a1 : x = v1 := (Prod.mk.inj hp).1
      have a2 : x2 = V := (Prod.mk.inj hp2).1
      rw [a1] at hq
      rw [a2, hVb]
      exact old i v z hi q hq
    · omega
    · have a1 : x = v1 := (Prod.mk.inj hp).1
      rw [a1] at hq
      exact old k x2 t2 hk' q hq
    · have a2 : x2 = V := (Prod.mk.inj hp2).1
      rw [a2, hVb]
      exact h.apart j i x t v z hj' hi n1 q hq
    · have a2 : x2 = v1 := (Prod.mk.inj hp2).1
      rw [a2]
      intro he
      exact old j x t hj' q he hq
    · exact h.apart j k x t x2 t2 hj' hk' hjk q hq
end
section
variable {α : Type} {K : Nat} {cells : α → List Value} {e : TypeId}
variable {w w1 : World} {base k m c : Nat} {F D : List (Value × List α)} {V gv v1 : Value} {X Z Z1 : List α} {d : Value × List α} {o : Obj} {A : Option Addr}
theorem fit_step (hk : k < F.length) (h : Farm w base e K cells (F.set k (gv, Z) ++ (D ++ [d]))) (ho : w1.ownsRow base e K v1 Z1.length (Z1.flatMap cells)) (hg : (w.alloc o).grownBy w1 gv.ownBlock)
    (hb : v1.ownBlock = gv.ownBlock) : Farm w1 base e K cells (F.set k (v1, Z1) ++ (D ++ [d])) := by
  have h1 : Farm (w.alloc o) base e K cells (F.set k (gv, Z) ++ (D ++ [d])) := h.below ((Below.refl _ _).alloc (Nat.le_refl _) _)
  have h2 := h1.put (apartG.at_k hk _ _) ho hg (.inl hb)
  rw [apartG.set_k hk] at h2
  exact h2
theorem take_flatC (hk : ∀ x, (cells x).length = K) (z : List α) (t : Nat) (ht : t ≤ z.length) : (z.flatMap cells).take (t * K) = (z.take t).flatMap cells := by
  have h2 : z.flatMap cells = (z.take t).flatMap cells ++ (z.drop t).flatMap cells := by rw [← List.flatMap_append, List.take_append_drop]
  have h3 : ((z.take t).flatMap cells).length = t * K := by rw [Go.Bus.lentC.flat_len hk, List.length_take, Nat.min_eq_left ht]
  rw [h2, ← h3, List.take_left]
theorem grow_step (hk2 : ∀ x, (cells x).length = K) (hk : k < F.length) (hXZ : Z.take X.length = X) (hXl : X.length ≤ Z.length) (hm : Z.length = m) (hgv : gv = .slice A m c) (hV : apartG.Pair V X m gv d) (h : Farm w base e K cells (F.set k (gv, Z) ++ (D ++ [d])))
    (ho : w1.ownsRow (w.alloc o).heap.size e K v1 Z1.length (Z1.flatMap cells)) (hbase : base ≤ w.heap.size) (hg : (w.alloc o).grownBy w1 none) (hv1 : ∃ A c, v1 = .slice A (m + 1) c) :
    ∃ d1, apartG.Pair V X (m + 1) v1 d1 ∧ Farm w1 base e K cells (F.set k (v1, Z1) ++ (D ++ [d1])) := by
  have h1 : Farm (w.alloc o) base e K cells (F.set k (gv, Z) ++ (D ++ [d])) := h.below ((Below.refl _ _).alloc (Nat.le_refl _) _)
  have hbn : base ≤ (w.alloc o).heap.size := by simp; omega
  have hfresh : ∀ q, v1.ownBlock = some q → (w.alloc o).heap.size ≤ q := fun q hq => (ho.lt q hq).1
  rcases hV with ⟨hd, A0, c0, hV1, hV2⟩ | ⟨hd1, hd2, hd3⟩
  · subst hd
    have hi := apartG.at_k hk (gv, Z) (D ++ [(Value.slice none 0 0, [])])
    have hlen : (F.set k (gv, Z)).length = F.length := List.length_set
    have hl : (F.set k (gv, Z) ++ (D ++ [((Value.slice none 0 0 : Value), ([] : List α))]))[F.length + D.length]? = some (.slice none 0 0, []) := by
      rw [List.getElem?_append_right (by omega), hlen]
      simp
    have hgo := (h1.own k gv Z hi).kept hg (by cases gv.ownBlock with | none => exact .inl rfl | some q => exact .inr (by simp))
    have hgv2 : w1.ownsRow base e K (.slice A0 Z.length c0) Z.length (Z.flatMap cells) := by rw [hm]; rw [hV2] at hgo; rw [← hm] at hgo ⊢; exact hgo
    have hpre := own_prefix hgv2 hXl
    rw [show (Z.flatMap cells).take (X.length * K) = X.flatMap cells from by
      rw [take_flatC hk2 Z X.length hXl, hXZ]] at hpre
    have hVb : V.ownBlock = gv.ownBlock := by rw [hV1, hV2]; cases A0 <;> rfl
    have hmv := h1.move (i := k) (l := F.length + D.length) (by omega) hi hl rfl hg (own_base ho hbn) hfresh (V := V) (Y := X) (by rw [hV1]; exact hpre) hVb
    refine ⟨(V, X), .inr ⟨rfl, rfl, hv1⟩, ?_⟩
    rw [apartG.set_k hk] at hmv
    have e1 : (F.set k (v1, Z1) ++ (D ++ [((Value.slice none 0 0 : Value), ([] : List α))])).set (F.length + D.length) (V, X) = F.set k (v1, Z1) ++ (D ++ [(V, X)]) := by
      rw [List.set_append_right _ _ (by rw [List.length_set]; omega), List.length_set, Nat.add_sub_cancel_left, List.set_append_right _ _ (Nat.le_refl _), Nat.sub_self]; rfl
    rw [e1] at hmv
    exact hmv
  · refine ⟨d, .inr ⟨hd1, hd2, hv1⟩, ?_⟩
    have h2 := h1.put (apartG.at_k hk _ _) (own_base ho hbn) (grown_any hg _) (.inr hfresh)
    rw [apartG.set_k hk] at h2
    exact h2
end
end Go.Bus.farmC

namespace Go.Proofs.YtdjippdcgfcfgaaGreatDoor
open Go.RowKit Go.Bus Go.Bus.cellK Go.Bus.codeK Go.Bus.farmC Go.Proofs.YtdjippdcgfcfgaaGreatDoor.codeW
open Go.Bus.apartG (Pair P1 S0 at_k set_k set_same p1_step fill_set fill_len)
open Go.Bus.farmK (own_ne_own)
set_option linter.unusedVariables false
set_option linter.unusedSimpArgs false
theorem Tryz.infoRowInstrs : (Tryz.prog.info? 22).map (fun i => (i.zero, i.size, i.bytes)) = some (some (.slice none 0 0), 1, 24) := by kernel_rfl
namespace apartInstrs
abbrev Row := Value × List Ins
def mkI (k i : Nat) : Ins := ⟨-7 - (k : Int), 0, 0, 0, (i : Nat)⟩
def M (k n : Nat) : List Ins := (List.range n).map (mkI k)
theorem M_len (k n : Nat) : (M k n).length = n := by simp [M]
theorem M_snoc (k n : Nat) : M k n ++ [mkI k n] = M k (n + 1) := by simp [M, List.range_succ]
theorem M_take {k n m : Nat} (h : n ≤ m) : (M k m).take n = M k n := by
  unfold M; rw [← List.map_take, List.take_range, Nat.min_eq_left h]
theorem M_get {k n i : Nat} (h : i < n) : (M k n)[i]'(by rw [M_len]; exact h) = mkI k i := by simp [M]
def E (k : Nat) (X : List Ins) : List Ins := M k (X.length + 64)
theorem insC_len (x : Ins) : (insC x).length = 5 := rfl
theorem mark_any (k i : Nat) (x z : Int) (w : World) (hx : x = k) (hz : z = i) (hk : k ≤ 1000000) (hi : i ≤ 281474976710656) :
    Calls Tryz.prog 38 #[.int .i64 x, .int .i64 z] w fun e w' => e = .returned (.agg #[.int .i64 (-7 - (k : Int)), .int .i64 0, .int .i64 0, .int .i64 0, .int .u64 (i : Nat)]) ∧ Below w.heap.size w w' := by
  subst hx
  subst hz
  refine (markk_any k i w (by omega) (by omega) (by omega) (by omega)).mono ?_
  rintro e w' ⟨rfl, hb⟩
  exact ⟨by rw [show IntKind.u64.wrap ((i : Nat) : Int) = i from by rw [IntKind.wrap_u64]; omega], hb⟩
theorem keepc {w W : World} {B : Nat} (hb : Below B w W) {b o : Nat} {v : Value} (hB : b < B) (h : w.cell? ⟨b, o, none⟩ = some v) : W.cell? ⟨b, o, none⟩ = some v := (hb.cell (p := ⟨b, o, none⟩) hB).trans h
theorem neq_mk (a b : Int) (w : World) : (binOp .neq 35 (.agg #[.int .i64 a, .int .i64 0, .int .i64 0, .int .i64 0, .int .u64 b]) (.agg #[.int .i64 a, .int .i64 0, .int .i64 0, .int .i64 0, .int .u64 b])).run Tryz.prog w = .ok (.bool false) w := by
  simp [go_sem]
theorem own_cap5 {w : World} {base : Nat} {e : TypeId} {A : Option Addr} {n c : Nat} {xs : List Value} (h : w.ownsRow base e 5 (.slice A n c) n xs) : n ≤ c ∧ c ≤ 9223372036854775807 := by
  rcases h.2 with ⟨h0, h1⟩ | ⟨g, cap, cur, hv, _, _, h1, h2, _⟩
  · simp only [Value.slice.injEq] at h0
    obtain ⟨_, rfl, rfl⟩ := h0
    omega
  · simp only [Value.slice.injEq] at hv
    obtain ⟨_, _, rfl⟩ := hv
    exact ⟨h1, by unfold maxLen at h2; omega⟩
set_option maxRecDepth 100000 in
set_option maxHeartbeats 6000000 in
theorem apart_any (q base : Nat) (rows : List Row) (w : World) (hq : Has w q 22 (rows.map (·.1)).toArray) (hF : Farm w base 35 5 insC rows) (hbase : base ≤ w.heap.size) (hN : rows.length ≤ 1000000) (hN0 : 0 < rows.length) (hlen : ∀ p ∈ rows, p.2.length ≤ 1000000000) :
    Calls Tryz.prog 21 #[.slice (some ⟨q, 0, none⟩) rows.length rows.length] w fun e w' => e = .returned (.bool true) ∧ Below base w w' := by
  obtain ⟨i0, hi, hz0, hz1, hz2⟩ := info_parts Tryz.infoIm
  obtain ⟨i1, hj, hy0, hy1, hy2⟩ := info_parts Tryz.infoRowInstrs
  have hqlt := hq.lt
  have HQ := Lib.hid hq
  have HF := Lib.hid hF
  have HL := Lib.hid hlen
  have hMM : ∀ k n, M k n = (List.range n).map (mkI k) := fun _ _ => rfl
  have HMM := Lib.hid hMM
  clear hq hF hlen hMM
  go_enter Tryz.func21, Tryz.ntmps21
  go_wp2
  go_loopw [3] (fun i wr => ∃ (k : Nat) (R : List Row), i = .int .i64 k ∧ k ≤ rows.length ∧ Hid (S0 M rows R k) ∧ Farm wr base 35 5 insC R ∧ Has wr q 22 (rows.map (·.1)).toArray ∧ Below base w wr ∧ w.heap.size ≤ wr.heap.size) (fun i _ => rows.length - (intOf i).toNat)
  case atStart => exact ⟨0, rows, rfl, Nat.zero_le _, Lib.hid ⟨rfl, rfl, fun j p h => absurd h (by omega)⟩, HF.out, HQ.out, Below.refl _ _, Nat.le_refl _⟩
  case round =>
    clear HF
    obtain ⟨k, R, rfl, hk, HS, hFm, hqr, hbel, hsz⟩ := hrel
    have HFm := Lib.hid hFm; clear hFm
    have HQR := Lib.hid hqr; clear hqr
    have HB := Lib.hid hbel; clear hbel
    have hRl : R.length = rows.length := by have := congrArg List.length HS.out.heads; simpa using this
    by_cases hlt : k < rows.length
    · obtain ⟨⟨V, X⟩, hr⟩ : ∃ p, rows[k]? = some p := ⟨_, List.getElem?_eq_getElem hlt⟩
      have hX : X.length ≤ 1000000000 := HL.out (V, X) (List.mem_of_getElem? hr)
      obtain ⟨Y, hRk, hYl⟩ := HS.out.at_ hr
      simp only at hYl
      obtain ⟨A, c, rfl, hc1, hc2, hA⟩ := HFm.out.form hRk
      have hkR : k < R.length := by omega
      have hqk : ∀ W : World, Has W q 22 (rows.map (·.1)).toArray → W.cell? ⟨q, k, none⟩ = some (.slice A Y.length c) := fun W h => by rw [h.cell k]; simp [hr]
      have HQK := Lib.hid hqk
      have HRk := Lib.hid hRk
      have HA := Lib.hid hA
      have hY : Y.length ≤ 1000000000 := by omega
      have hqc := hqk _ HQR.out
      clear hqk hRk hr hYl hA
      go_wp2
      clear hqc
      go_loopw [4] (fun i wr => ∃ t : Nat, i = .int .i64 t ∧ t ≤ Y.length ∧ Farm wr base 35 5 insC (R.set k (.slice A Y.length c, M k t ++ Y.drop t)) ∧ Has wr q 22 (rows.map (·.1)).toArray ∧ Below base w wr ∧ w.heap.size ≤ wr.heap.size) (fun i _ => Y.length - (intOf i).toNat)
      case atStart => exact ⟨0, rfl, Nat.zero_le _, by rw [show M k 0 ++ Y.drop 0 = Y by simp [M], set_same HRk.out]; exact HFm.out, HQR.out, HB.out, hsz⟩
      case round =>
        clear HFm HQR HB hsz
        obtain ⟨t, rfl, ht, hFr, hqr, hbel, hsz⟩ := hrel
        have hqc := HQK.out _ hqr
        by_cases htl : t < Y.length
        · obtain ⟨g, rfl⟩ := HA.out (by omega)
          have hlen2 : (M k t ++ Y.drop t).length = Y.length := fill_len (HMM.out k) (by omega)
          have hgk : (R.set k (.slice (some ⟨g, 0, none⟩) Y.length c, M k t ++ Y.drop t))[k]? = some (.slice (some ⟨g, 0, none⟩) Y.length c, M k t ++ Y.drop t) := List.getElem?_set_self hkR
          have htl2 : t < (M k t ++ Y.drop t).length := by omega
          have hown := hFr.own k _ _ hgk
          have hcl : ∀ (W : World), Farm W base 35 5 insC (R.set k (.slice (some ⟨g, 0, none⟩) Y.length c, M k t ++ Y.drop t)) → ∀ j u, (insC ((M k t ++ Y.drop t)[t]'htl2))[j]? = some u → W.cell? ⟨g, t * 5 + j, none⟩ = some u ∧ W.frozen? ⟨g, t * 5 + j, none⟩ = false := fun W hW j u hj => hW.cell insC_len hgk hlen2 htl2 hj
          have hst : ∀ (W : World), Below wr.heap.size wr W → Farm (putC W g (t * 5) (insC (mkI k t))) base 35 5 insC (R.set k (.slice (some ⟨g, 0, none⟩) Y.length c, M k (t + 1) ++ Y.drop (t + 1))) ∧ Has (putC W g (t * 5) (insC (mkI k t))) q 22 (rows.map (·.1)).toArray ∧ Below base w (putC W g (t * 5) (insC (mkI k t))) ∧ w.heap.size ≤ (putC W g (t * 5) (insC (mkI k t))).heap.size := by
            intro W hW
            have hFW := hFr.below hW
            have hFn := hFW.set (t := t) hgk hlen2 insC_len htl2 (mkI k t)
            rw [List.set_set, fill_set (HMM.out k) htl] at hFn
            have hownW := hFW.own k _ _ hgk
            rw [hlen2] at hownW
            have hsm := (stored_many (insC (mkI k t)) W (t * 5) _ hownW).2
            have hne : q ≠ g := fun e => own_has_ne hownW (hqr.below hW hqr.lt) (by decide) (by rw [e]; rfl)
            refine ⟨hFn, (hqr.below hW hqr.lt).grown hsm (fun e => hne (by injection e)), Below.grown (hbel.trans (hW.mono (Nat.le_trans hbase hbel.size))) hsm (Nat.le_trans (Nat.le_trans hbase hbel.size) hW.size) (fun r hr => by cases hr; exact (hownW.lt g rfl).1), Nat.le_trans hsz (Nat.le_trans hW.size hsm.size)⟩
          have HST := Lib.hid hst
          have zg : g < wr.heap.size := (hown.lt g (by rfl)).2
          have zq : q < wr.heap.size := hqr.lt
          obtain ⟨⟨z0, z1, z2, z3, z4⟩, hz⟩ : ∃ z : Ins, z = (M k t ++ Y.drop t)[t]'htl2 := ⟨_, rfl⟩
          rw [← hz] at hcl
          have HCL := Lib.hid (fun (W : World) (hW : Below wr.heap.size wr W) => hcl W (hFr.below hW))
          have c0 : wr.cell? ⟨g, t * 5, none⟩ = some (.int .i64 z0) := (hcl wr hFr 0 _ rfl).1
          have HQW := Lib.hid (fun (W : World) (hW : Below wr.heap.size wr W) => HQK.out W (hqr.below hW zq))
          clear hst hcl hz hown hFr hqr hbel hgk hlen2 htl2
          go_wp2_with fail
          go_region_with (go_at_call 38; refine (mark_any k t _ _ _ (by rfl) (by rfl) (by omega) (by omega)).mono ?_; rintro e w9 ⟨rfl, hb9⟩; have hB9 : Below wr.heap.size wr w9 := Below.trans (by repeat' (first | (with_reducible assumption) | (with_reducible refine Below.setCell ?_ ?_ _) | (with_reducible refine Below.alloc ?_ ?_ _) | (with_reducible refine Below.drew ?_) | (with_reducible refine below_drewN ?_ _) | (with_reducible exact Below.refl _ _) | (show _ ≤ _; (try simp); (try omega); done) | exact Below.refl _ _ | assumption)) (hb9.mono (by (try simp); (try omega))); have HB9 := Lib.hid hB9; have hz9 := hB9.size; have zg9 : g < w9.heap.size := Nat.lt_of_lt_of_le zg hz9; have zq9 : q < w9.heap.size := Nat.lt_of_lt_of_le zq hz9; have hq9 := HQW.out w9 hB9; have e0 := (HCL.out w9 hB9 0 _ rfl).1; have e1 := (HCL.out w9 hB9 1 _ rfl).1; have e2 := (HCL.out w9 hB9 2 _ rfl).1; have e3 := (HCL.out w9 hB9 3 _ rfl).1; have e4 := (HCL.out w9 hB9 4 _ rfl).1; have f0 := (HCL.out w9 hB9 0 _ rfl).2; have f1 := (HCL.out w9 hB9 1 _ rfl).2; have f2 := (HCL.out w9 hB9 2 _ rfl).2; have f3 := (HCL.out w9 hB9 3 _ rfl).2; have f4 := (HCL.out w9 hB9 4 _ rfl).2; simp only [Nat.add_zero] at e0 f0; clear hb9 hB9 hz9)
          all_goals
            go_wp2
            go_roundw
          all_goals first
            | exact ⟨t + 1, by go_num, by omega, (HST.out _ HB9.out).1, (HST.out _ HB9.out).2.1, (HST.out _ HB9.out).2.2.1, (HST.out _ HB9.out).2.2.2⟩
            | exact ⟨t + 1, by go_num, by omega, (by exact (HST.out _ (HB9.out.drew)).1), (by exact (HST.out _ (HB9.out.drew)).2.1), (by exact (HST.out _ (HB9.out.drew)).2.2.1), (by exact (HST.out _ (HB9.out.drew)).2.2.2)⟩
            | (simp [intOf]; done)
            | (simp [intOf]; omega)
        · obtain rfl : t = Y.length := by omega
          rw [List.drop_of_length_le (Nat.le_refl _), List.append_nil] at hFr
          have HS1 := Lib.hid (HS.out.next HRk.out (M_len k _))
          have HFr := Lib.hid hFr
          have HQr := Lib.hid hqr
          have HBr := Lib.hid hbel
          clear hFr hqr hbel HS
          go_wp2
          go_roundw
          case rel => exact ⟨k + 1, _, by go_num, by omega, HS1, HFr.out, HQr.out, HBr.out, hsz⟩
          case measure => first | (simp [intOf]; done) | (simp [intOf]; omega)
    · obtain rfl : k = rows.length := by omega
      have hcont : ∀ (j : Nat) (p : Row), R[j]? = some p → p.2 = M j p.2.length := fun j p hp => HS.out.done j p (by have := (List.getElem?_eq_some_iff.1 hp).1; omega) hp
      have hbd : ∀ p ∈ R, p.2.length ≤ 1000000000 := by
        intro p hp
        obtain ⟨j, hj⟩ := List.mem_iff_getElem?.1 hp
        have hjl := (List.getElem?_eq_some_iff.1 hj).1
        obtain ⟨p2, hr2⟩ : ∃ p2, rows[j]? = some p2 := ⟨_, List.getElem?_eq_getElem (by omega)⟩
        obtain ⟨z, hz, hzl⟩ := HS.out.at_ hr2
        have := HL.out p2 (List.mem_of_getElem? hr2)
        rw [hj] at hz
        have := Option.some.inj hz
        rw [this]; simp only; omega
      have hhd : R.map (·.1) = rows.map (·.1) := HS.out.heads
      have hq2 : Has wr q 22 (R.map (·.1)).toArray := by rw [hhd]; exact HQR.out
      have HQR2 := Lib.hid hq2
      have HCO := Lib.hid hcont
      have HBD := Lib.hid hbd
      have hR1 : R.length ≤ rows.length := Nat.le_of_eq hRl
      have hR2 : rows.length ≤ R.length := Nat.le_of_eq hRl.symm
      clear hcont hbd hhd hq2 HQR HL HS hlt hk hRl
      go_wp2
      go_loopw [5, 6] (fun gsv' i wr => ∃ (gsv : Value) (k : Nat) (F D : List Row), gsv = gsv' ∧ i = .int .i64 k ∧ k ≤ rows.length ∧ Hid (P1 E R F D k) ∧ Farm wr base 35 5 insC (F ++ D) ∧ wr.ownsRow w.heap.size 22 1 gsv k ((F.take k).map (·.1)) ∧ Has wr q 22 (R.map (·.1)).toArray ∧ Below base w wr ∧ w.heap.size ≤ wr.heap.size) (fun _ i _ => rows.length - (intOf i).toNat)
      case atStart => exact ⟨_, 0, R, [], rfl, rfl, Nat.zero_le _, Lib.hid ⟨rfl, rfl, fun i p h => absurd h (by omega), fun i _ => rfl⟩, by simpa using HFm.out, World.ownsRow_nil _ _ _ _, HQR2.out, HB.out, hsz⟩
      case round =>
        clear HFm HQR2 HB hsz
        obtain ⟨gsv, k, F, D, rfl, rfl, hk, HP, hFm, hgs, hqr, hbel, hsz⟩ := hrel
        have HFm := Lib.hid hFm; clear hFm
        have HGS := Lib.hid hgs; clear hgs
        have HQR := Lib.hid hqr; clear hqr
        have HB := Lib.hid hbel; clear hbel
        by_cases hlt : k < rows.length
        · have hltR : k < R.length := by omega
          obtain ⟨⟨V, X⟩, hr⟩ : ∃ p, R[k]? = some p := ⟨_, List.getElem?_eq_getElem hltR⟩
          have hX : X.length ≤ 1000000000 := HBD.out (V, X) (List.mem_of_getElem? hr)
          have hXM : X = M k X.length := HCO.out k (V, X) hr
          have hFk : (F ++ D)[k]? = some (V, X) := by
            rw [List.getElem?_append_left (by rw [HP.out.lenF]; exact hltR), HP.out.todo k (Nat.le_refl _)]; exact hr
          obtain ⟨A, c, rfl, hc1, hc2, hA⟩ := HFm.out.form hFk
          have hcv : wr.cell? ⟨q, k, none⟩ = some (.slice A X.length c) := by
            rw [HQR.out.cell k]; simp [hr]
          have HFK := Lib.hid hFk
          have HR := Lib.hid hr
          have HXM := Lib.hid hXM
          clear hFk hr hA hXM
          obtain ⟨wo, rfl⟩ : ∃ wo : World, wo = wr := ⟨_, rfl⟩
          have hkF : k < F.length := by rw [HP.out.lenF]; exact hltR
          have hdl : D.length = k := HP.out.lenD
          have h0 : Farm wo base 35 5 insC (F.set k (.slice A X.length c, M k (X.length + 0)) ++ (D ++ [((Value.slice none 0 0 : Value), ([] : List Ins))])) := by
            have e1 : F.set k (.slice A X.length c, M k (X.length + 0)) = F := by
              have hk2 : F[k]? = some (.slice A X.length c, X) := by rw [HP.out.todo k (Nat.le_refl _)]; exact HR.out
              have e2 : M k (X.length + 0) = X := HXM.out.symm
              rw [e2]
              exact set_same hk2
            rw [e1, ← List.append_assoc]
            exact HFm.out.snoc (World.ownsRow_nil _ _ _ _) (fun i u y q _ _ => by simp [Value.ownBlock])
          have H0 := Lib.hid h0; clear h0
          go_wp2
          go_loopw [7, 8] (fun gv' i wr => ∃ (gv : Value) (j : Nat) (d : Row), gv = gv' ∧ i = .int .i64 j ∧ j ≤ 64 ∧ Hid (Pair (.slice A X.length c) X (X.length + j) gv d) ∧ Farm wr base 35 5 insC (F.set k (gv, M k (X.length + j)) ++ (D ++ [d])) ∧
              wr.ownsRow w.heap.size 22 1 gsv k ((F.take k).map (·.1)) ∧ Has wr q 22 (R.map (·.1)).toArray ∧ Below base w wr ∧ w.heap.size ≤ wr.heap.size) (fun _ i _ => 64 - (intOf i).toNat)
          case atStart => exact ⟨_, 0, _, rfl, rfl, Nat.zero_le _, Lib.hid (.inl ⟨rfl, A, c, rfl, rfl⟩), H0.out, HGS.out, HQR.out, HB.out, hsz⟩
          case round =>
            clear H0 hcv
            obtain ⟨gv, j, d, rfl, rfl, hj64, hPr, hFr, hgr, hqr, hbr, hzr⟩ := hrel
            obtain ⟨A1, c1, rfl⟩ : ∃ A1 c1, gv = .slice A1 (X.length + j) c1 := by
              rcases hPr.out with ⟨_, A1, c1, _, h⟩ | ⟨_, _, A1, c1, h⟩ <;> exact ⟨A1, c1, h⟩
            have hZ : (M k (X.length + j)).length = X.length + j := M_len _ _
            have hcv : wr.cell? ⟨q, k, none⟩ = some (.slice A X.length c) := by
              rw [hqr.cell k]; simp [HR.out]
            by_cases hlt2 : j < 64
            · have hown := hFr.own k _ _ (at_k hkF _ _)
              have hrd := own_reads (by rw [hZ] at hown; exact hown)
              obtain ⟨hn1, hn2⟩ := hrd
              have HPr := Lib.hid hPr.out; clear hPr
              have HFr := Lib.hid hFr; clear hFr
              have HGR := Lib.hid hgr; clear hgr
              have HQ2 := Lib.hid hqr; clear hqr
              have HBR := Lib.hid hbr; clear hbr
              have hl1 : (M k (X.length + (j + 1))).length = X.length + j + 1 := M_len _ _
              have hm1 : (M k (X.length + (j + 1))).flatMap insC = (M k (X.length + j)).flatMap insC ++ insC (mkI k (X.length + j)) := by
                rw [show X.length + (j + 1) = (X.length + j) + 1 from rfl, ← M_snoc, List.flatMap_append]; simp
              have HL1 := Lib.hid hl1; clear hl1
              have HM1 := Lib.hid hm1; clear hm1
              have HZ := Lib.hid hZ
              have HN1 := Lib.hid hn1; clear hn1
              rw [hZ] at hown
              have HOW := Lib.hid hown; clear hown hZ
              have hzr' : w.heap.size ≤ wr.heap.size := hzr
              have HNX : Hid ([.int .i64 (-7 - (k : Int)), .int .i64 0, .int .i64 0, .int .i64 0, .int .u64 ((X.length : Int) + (j : Int))] = insC (mkI k (X.length + j))) := Lib.hid (by simp [insC, mkI])
              go_wp2_with fail
              refine (mark_any k (X.length + j) _ _ _ (by rfl) (by omega) (by omega) (by omega)).mono ?_
              rintro e w9 ⟨rfl, hb9⟩
              have hzr9 : w.heap.size ≤ w9.heap.size := Nat.le_trans hzr hb9.size
              have HFr9 := Lib.hid (HFr.out.below hb9)
              have HOW9 := Lib.hid (own_kept HOW.out hb9)
              have HGR9 := Lib.hid (own_kept HGR.out hb9)
              have HQ9 := Lib.hid (HQ2.out.below hb9 HQ2.out.lt)
              have HBR9 := Lib.hid (HBR.out.trans (hb9.mono (Nat.le_trans hbase HBR.out.size)))
              clear hb9 HFr HOW HGR HQ2 HBR hcv
              by_cases hfit : X.length + j < c1
              · obtain ⟨g, rfl⟩ := hn2 (by omega)
                clear hn2
                go_wp2_with (at_builtin; refine wpList_append_fits _ rfl _ _ 22 rfl base 35 i0 5 Tryz.underlying22 hi hz1 g (X.length + j) c1 ((M k (X.length + j)).flatMap insC) rfl (HOW9.out.alloc _) ⟨w9.heap.size, 0, none⟩ 1 1 [.int .i64 (-7 - (k : Int)), .int .i64 0, .int .i64 0, .int .i64 0, .int .u64 ((X.length : Int) + (j : Int))] rfl rfl ?c1 ?c2 ?c3 ?_)
                case c1 => exact Go.Bus.lentC.news_new2 w9 _ _
                case c2 => intro u hu; simp only [List.mem_cons, List.not_mem_nil, or_false] at hu; rcases hu with rfl | rfl | rfl | rfl | rfl <;> rfl
                case c3 => omega
                intro w1 hown1 hg1
                rw [HNX.out] at hown1
                have hPn : Pair (.slice A X.length c) X (X.length + (j + 1)) (.slice (some ⟨g, 0, none⟩) (X.length + j + 1) c1) d := by
                  rcases HPr.out with ⟨hd, A0, c0, hV1, hV2⟩ | ⟨hd1, hd2, _⟩
                  · simp only [Value.slice.injEq] at hV2
                    obtain ⟨rfl, _, rfl⟩ := hV2
                    exact .inl ⟨hd, _, _, hV1, rfl⟩
                  · exact .inr ⟨hd1, hd2, _, _, rfl⟩
                have hFn := fit_step (v1 := .slice (some ⟨g, 0, none⟩) (X.length + j + 1) c1) (Z1 := M k (X.length + (j + 1))) hkF HFr9.out (by rw [HL1.out, HM1.out]; exact hown1) hg1 rfl
                have hgn : w1.ownsRow w.heap.size 22 1 gsv k ((F.take k).map (·.1)) := (HGR9.out.alloc _).kept hg1 (.inr (own_ne_own HOW9.out HGR9.out (by decide) g rfl))
                have hqn : Has w1 q 22 (R.map (·.1)).toArray := (HQ9.out.alloc _).grown hg1 (fun e => own_has_ne HOW9.out HQ9.out (by decide) e.symm)
                have hbn : Below base w w1 := Below.grown (HBR9.out.alloc (by omega) _) hg1 (by simp; omega) (fun r hr => by cases hr; exact (HOW9.out.lt g rfl).1)
                have hzn : w.heap.size ≤ w1.heap.size := Nat.le_trans (by simp; omega) hg1.size
                have HPn := Lib.hid hPn
                have HFn := Lib.hid hFn
                have HGn := Lib.hid hgn
                have HQn := Lib.hid hqn
                have HBn := Lib.hid hbn
                clear hPn hFn hgn hqn hbn hown1 hg1
                go_wp2
                go_roundw
                case rel => exact ⟨_, j + 1, d, rfl, by go_num, by omega, HPn, HFn.out, HGn.out, HQn.out, HBn.out, hzn⟩
                case measure => first | (simp [intOf]; done) | (simp [intOf]; omega)
              · have hce : c1 = X.length + j := by
                  have := (own_cap5 HOW9.out).1
                  omega
                subst hce
                clear hn2 hfit
                go_wp2_with (at_builtin; refine wpList_append_grows _ rfl _ _ 22 rfl 35 i0 (.agg #[.int .i64 0, .int .i64 0, .int .i64 0, .int .i64 0, .int .u64 0]) 5 40 Tryz.underlying22 hi hz0 hz1 hz2 rfl (by decide) A1 (X.length + j) (X.length + j) ((M k (X.length + j)).flatMap insC) rfl ?d1 ?d2 ?d3 ⟨w9.heap.size, 0, none⟩ 1 1 [.int .i64 (-7 - (k : Int)), .int .i64 0, .int .i64 0, .int .i64 0, .int .u64 ((X.length : Int) + (j : Int))] rfl rfl ?d4 ?d5 ?d6 ?d7 ?d8 ?_)
                case d1 => exact (own_reads HOW9.out).1
                case d2 => have := HOW9.out.1; omega
                case d3 => exact own_cells (HOW9.out.alloc _)
                case d4 => exact Go.Bus.lentC.news_new2 w9 _ _
                case d5 => intro u hu; simp only [List.mem_cons, List.not_mem_nil, or_false] at hu; rcases hu with rfl | rfl | rfl | rfl | rfl <;> rfl
                case d6 => omega
                case d7 => unfold maxLen; omega
                case d8 => omega
                intro v1 w1 hown1 hg1
                rw [HNX.out] at hown1
                obtain ⟨g2, c2, rfl, hg21, hg22⟩ := own_form hown1 (by omega)
                obtain ⟨d1, hPn, hFn⟩ := grow_step (A := A1) (c := X.length + j) (Z1 := M k (X.length + (j + 1))) (X := X) insC_len hkF ((M_take (Nat.le_add_right _ _)).trans HXM.out.symm) (by rw [HZ.out]; omega) HZ.out rfl HPr.out HFr9.out (by rw [HL1.out, HM1.out]; exact own_base hown1 (by simp)) (Nat.le_trans hbase hzr9) hg1 ⟨_, _, rfl⟩
                have hgn : w1.ownsRow w.heap.size 22 1 gsv k ((F.take k).map (·.1)) := (HGR9.out.alloc _).kept hg1 (by cases gsv.ownBlock with | none => exact .inl rfl | some r => exact .inr (by simp))
                have hqn : Has w1 q 22 (R.map (·.1)).toArray := (HQ9.out.alloc _).grown hg1 (by simp)
                have hbn : Below base w w1 := Below.grown (HBR9.out.alloc (by omega) _) hg1 (by simp; omega) (fun r hr => by cases hr)
                have hzn : w.heap.size ≤ w1.heap.size := Nat.le_trans (by simp; omega) hg1.size
                have HPn := Lib.hid hPn
                have HFn := Lib.hid hFn
                have HGn := Lib.hid hgn
                have HQn := Lib.hid hqn
                have HBn := Lib.hid hbn
                clear hPn hFn hgn hqn hbn hown1 hg1
                go_wp2
                go_roundw
                case rel => exact ⟨_, j + 1, d1, rfl, by go_num, by omega, HPn, HFn.out, HGn.out, HQn.out, HBn.out, hzn⟩
                case measure => first | (simp [intOf]; done) | (simp [intOf]; omega)
            · obtain rfl : j = 64 := by omega
              obtain ⟨hPn, hTn⟩ := p1_step HP.out hltR HR.out (show Pair _ X (E k X).length _ d by unfold E; rw [M_len]; exact hPr.out)
              have HPn := Lib.hid hPn
              have HTn := Lib.hid hTn
              have HFr := Lib.hid hFr; clear hFr hPr hPn hTn
              have HGR := Lib.hid hgr; clear hgr
              have HQ2 := Lib.hid hqr; clear hqr
              have HBR := Lib.hid hbr; clear hbr hZ hcv
              go_wp2_with (at_builtin; refine wpList_append_own _ rfl _ _ 52 rfl w.heap.size 22 i1 (.slice none 0 0) 1 24 Tryz.underlying52 hj hy0 hy1 hy2 rfl (by decide) _ _ _ rfl (HGR.out.alloc _) ⟨wr.heap.size, 0, none⟩ 1 1 [.slice A1 (X.length + 64) c1] rfl rfl (one_new wr _ _) ?e2 ?e3 ?e4 ?e5 ?_)
              case e2 => first | rfl | (intro u hu; simp at hu; subst hu; rfl)
              case e3 => unfold maxLen; omega
              case e4 => omega
              case e5 => first | omega | (simp; omega)
              intro v1 w1 hown1 hg1 _
              have hFa : Farm (wr.alloc (.cells #[.slice A1 (X.length + 64) c1] 22)) base 35 5 insC (F.set k (.slice A1 (X.length + 64) c1, M k (X.length + 64)) ++ (D ++ [d])) := HFr.out.below ((Below.refl _ _).alloc (Nat.le_refl _) _)
              have hFn := hFa.kept hg1 (fun i v z hiv => by
                cases hvb : v.ownBlock with
                | none => exact .inl rfl
                | some r => exact .inr fun he => own_ne_own (hFa.own i v z hiv) (HGR.out.alloc _) (by decide) r hvb he.symm)
              have hqn : Has w1 q 22 (R.map (·.1)).toArray := (HQ2.out.alloc _).grown hg1 (fun e => by have h1 := (HGR.out.lt q e.symm).1; omega)
              have hbn : Below base w w1 := Below.grown (HBR.out.alloc (by omega) _) hg1 (by simp; omega) (fun r hr => by have h1 := (HGR.out.lt r hr).1; omega)
              have hzn : w.heap.size ≤ w1.heap.size := Nat.le_trans (by simp; omega) hg1.size
              have HG1 : Hid (w1.ownsRow w.heap.size 22 1 v1 (k + 1) (((F.set k (.slice A1 (X.length + 64) c1, E k X)).take (k + 1)).map (·.1))) := by
                unfold Hid; rw [HTn.out, List.map_take]; exact hown1
              have HFn := Lib.hid hFn
              have HQn := Lib.hid hqn
              have HBn := Lib.hid hbn
              clear hFa hFn hqn hbn hown1 hg1
              go_wp2
              go_roundw
              case rel => exact ⟨_, k + 1, _, _, rfl, by go_num, by omega, HPn, HFn.out, HG1.out, HQn.out, HBn.out, hzn⟩
              case measure => first | (simp [intOf]; done) | (simp [intOf]; omega)
        · obtain rfl : k = rows.length := by omega
          have hFl : F.length = rows.length := by rw [HP.out.lenF]; omega
          have hgs2 : wr.ownsRow w.heap.size 22 1 gsv rows.length (F.map (·.1)) := by have := HGS.out; rw [List.take_of_length_le (by omega)] at this; exact this
          obtain ⟨gg, cg, rfl, hcg1, hcg2⟩ := own_form hgs2 hN0
          have HGS2 := Lib.hid hgs2; clear hgs2 HGS
          obtain ⟨wo, rfl⟩ : ∃ wo : World, wo = wr := ⟨_, rfl⟩
          have hrow : ∀ k, k < rows.length → ∃ (n g c c0 : Nat) (A0 : Option Addr), n ≤ 1000000000 ∧ wo.cell? ⟨gg, k, none⟩ = some (.slice (some ⟨g, 0, none⟩) (n + 64) c) ∧ wo.cell? ⟨q, k, none⟩ = some (.slice A0 n c0) ∧ n ≤ c0 ∧ c0 ≤ 9223372036854775807 ∧ g < wo.heap.size ∧
              (∀ i, i < n + 64 → ∀ j u, (insC (mkI k i))[j]? = some u → wo.cell? ⟨g, i * 5 + j, none⟩ = some u) ∧ (∀ i, i < n → ∃ b, A0 = some ⟨b, 0, none⟩ ∧ b < wo.heap.size ∧ ∀ j u, (insC (mkI k i))[j]? = some u → wo.cell? ⟨b, i * 5 + j, none⟩ = some u) := by
            intro k hk
            have hkR : k < R.length := by omega
            obtain ⟨⟨V, X⟩, hr⟩ : ∃ p, R[k]? = some p := ⟨_, List.getElem?_eq_getElem hkR⟩
            have hX : X.length ≤ 1000000000 := HBD.out (V, X) (List.mem_of_getElem? hr)
            have hXM : X = M k X.length := HCO.out k (V, X) hr
            obtain ⟨G, d, hFj, hDj, hPj⟩ := HP.out.done k (V, X) hk hr
            have hFD : (F ++ D)[k]? = some (G, M k (X.length + 64)) := by rw [List.getElem?_append_left (by omega)]; exact hFj
            obtain ⟨A, c, rfl, hc1, hc2, hA⟩ := HFm.out.form hFD
            rw [M_len] at hc1 hA
            obtain ⟨g, rfl⟩ := hA (by omega)
            have zg : g < wo.heap.size := ((HFm.out.own k _ _ hFD).lt g rfl).2
            have hcellG : ∀ i, i < X.length + 64 → ∀ j u, (insC (mkI k i))[j]? = some u → wo.cell? ⟨g, i * 5 + j, none⟩ = some u := by
              intro i hi j u hj
              exact (HFm.out.cell insC_len (t := i) hFD rfl (by rw [M_len]; exact hi) (by rw [M_get hi]; exact hj)).1
            have hhdG : wo.cell? ⟨gg, k, none⟩ = some (.slice (some ⟨g, 0, none⟩) (X.length + 64) c) := by
              rw [HGS2.out.cellAt k (by omega), List.getElem?_map, hFj, M_len]; rfl
            have hhdV : wo.cell? ⟨q, k, none⟩ = some V := by rw [HQR.out.cell k]; simp [hr]
            rcases hPj with ⟨_, A0, c0, hV1, hG1⟩ | ⟨hd1, hd2, _⟩
            · simp only [Value.slice.injEq] at hG1
              obtain ⟨rfl, _, rfl⟩ := hG1
              simp only at hV1
              refine ⟨X.length, g, _, _, _, hX, hhdG, by rw [hhdV, hV1], by omega, by omega, zg, hcellG, fun i hi => ⟨g, rfl, zg, hcellG i (by omega)⟩⟩
            · simp only at hd1 hd2
              have hDk : (F ++ D)[F.length + k]? = some (V, X) := by
                rw [List.getElem?_append_right (by omega), Nat.add_sub_cancel_left, hDj, ← hd1, ← hd2]
              obtain ⟨A0, c0, hV1, h1, h2, h4⟩ := HFm.out.form hDk
              refine ⟨X.length, g, c, c0, A0, hX, hhdG, by rw [hhdV, hV1], h1, h2, zg, hcellG, fun i hi => ?_⟩
              obtain ⟨b, rfl⟩ := h4 (by omega)
              subst hV1
              refine ⟨b, rfl, ((HFm.out.own _ _ _ hDk).lt b rfl).2, fun j u hj => ?_⟩
              have h6 : X[i] = mkI k i := by
                have h7 : X[i]? = (M k X.length)[i]? := by rw [← hXM]
                rw [List.getElem?_eq_getElem hi, List.getElem?_eq_getElem (by rw [M_len]; exact hi)] at h7
                rw [Option.some.inj h7, M_get hi]
              exact (HFm.out.cell insC_len (t := i) hDk rfl hi (by rw [h6]; exact hj)).1
          have HROW := Lib.hid hrow
          have zgg : gg < wo.heap.size := (HGS2.out.lt gg rfl).2
          have zq : q < wo.heap.size := HQR.out.lt
          have hzo : base ≤ wo.heap.size := HB.out.size |> fun h => Nat.le_trans hbase hsz
          clear hrow hFl HP HFm HGS2 HQR HCO HBD
          go_wp2
          go_loopw [9] (fun i wr => ∃ k : Nat, i = .int .i64 k ∧ k ≤ rows.length ∧ Hid (Below wo.heap.size wo wr)) (fun i _ => rows.length - (intOf i).toNat)
          case atStart => exact ⟨0, rfl, Nat.zero_le _, Lib.hid (Below.refl _ _)⟩
          case round =>
            obtain ⟨k, rfl, hk, HBk⟩ := hrel
            have hzk := HBk.out.size
            by_cases hlt3 : k < rows.length
            · obtain ⟨n, g, c, c0, A0, hn, hcg, hcv, hc1, hc2, zg, hG, hV⟩ := HROW.out k hlt3
              have HG := Lib.hid hG
              have HV := Lib.hid hV
              have HCG := Lib.hid hcg
              have HCV := Lib.hid hcv
              clear hG hV hcg hcv
              obtain ⟨wk, rfl⟩ : ∃ wk : World, wk = wr := ⟨_, rfl⟩
              go_wp2
              go_loopw [10] (fun i wr => ∃ t : Nat, i = .int .i64 t ∧ t ≤ n + 64 ∧ Hid (Below wo.heap.size wo wr)) (fun i _ => (n + 64) - (intOf i).toNat)
              case atStart => exact ⟨0, rfl, Nat.zero_le _, HBk⟩
              case round =>
                obtain ⟨t, rfl, ht, HBt⟩ := hrel
                have hzt := HBt.out.size
                have hcg : wr.cell? ⟨gg, k, none⟩ = some (.slice (some ⟨g, 0, none⟩) (n + 64) c) := keepc HBt.out zgg HCG.out
                have hcv : wr.cell? ⟨q, k, none⟩ = some (.slice A0 n c0) := keepc HBt.out zq HCV.out
                by_cases htl : t < n + 64
                · have heq : ∀ W, (binOp .neq 35 (.agg #[.int .i64 (-7 - (k : Int)), .int .i64 0, .int .i64 0, .int .i64 0, .int .u64 (t : Nat)]) (.agg #[.int .i64 (-7 - (k : Int)), .int .i64 0, .int .i64 0, .int .i64 0, .int .u64 (t : Nat)])).run Tryz.prog W = .ok (.bool false) W := fun W => neq_mk _ _ W
                  have hct := HG.out t htl
                  have zg2 : g < wr.heap.size := Nat.lt_of_lt_of_le zg hzt
                  by_cases htn : t < n
                  · obtain ⟨b, rfl, zb, hcb⟩ := HV.out t htn
                    have HCT := Lib.hid hct
                    have HCB := Lib.hid hcb
                    clear hct hcb
                    go_wp2_with (go_at_call 38; refine (mark_any k t _ _ _ (by rfl) (by rfl) (by omega) (by omega)).mono ?_; rintro e w9 ⟨rfl, hb9⟩; have hB9 : Below wo.heap.size wo w9 := HBt.out.trans (hb9.mono hzt); have HB9 := Lib.hid hB9; have hz9 := hB9.size; have zg9 : g < w9.heap.size := Nat.lt_of_lt_of_le zg hz9; have zb9 : b < w9.heap.size := Nat.lt_of_lt_of_le zb hz9; have zq9 : q < w9.heap.size := Nat.lt_of_lt_of_le zq hz9; have zgg9 : gg < w9.heap.size := Nat.lt_of_lt_of_le zgg hz9; have a0 := keepc hB9 zgg HCG.out; have a1 := keepc hB9 zq HCV.out; have p0 := keepc hB9 zg (HCT.out 0 _ rfl); have p1 := keepc hB9 zg (HCT.out 1 _ rfl); have p2 := keepc hB9 zg (HCT.out 2 _ rfl); have p3 := keepc hB9 zg (HCT.out 3 _ rfl); have p4 := keepc hB9 zg (HCT.out 4 _ rfl); have s0 := keepc hB9 zb (HCB.out 0 _ rfl); have s1 := keepc hB9 zb (HCB.out 1 _ rfl); have s2 := keepc hB9 zb (HCB.out 2 _ rfl); have s3 := keepc hB9 zb (HCB.out 3 _ rfl); have s4 := keepc hB9 zb (HCB.out 4 _ rfl); simp only [Nat.add_zero, mkI] at p0 p1 p2 p3 p4 s0 s1 s2 s3 s4; clear hb9 hB9)
                    go_quiet (fail)
                    go_wp2
                    go_roundw
                    case rel => exact ⟨t + 1, by go_num, by omega, Lib.hid (by have := HB9.out; exact (by repeat' (first | (with_reducible assumption) | (with_reducible refine Below.setCell ?_ ?_ _) | (with_reducible refine Below.alloc ?_ ?_ _) | (with_reducible refine Below.drew ?_) | (with_reducible refine below_drewN ?_ _) | (with_reducible exact Below.refl _ _) | (show _ ≤ _; (try simp); (try omega); done) | exact Below.refl _ _ | assumption)))⟩
                    case measure => first | (simp [intOf]; done) | (simp [intOf]; omega)
                  · have HCT := Lib.hid hct
                    clear hct
                    have dtn : decide (t < n) = false := by simp; omega
                    go_wp2_with (go_at_call 38; refine (mark_any k t _ _ _ (by rfl) (by rfl) (by omega) (by omega)).mono ?_; rintro e w9 ⟨rfl, hb9⟩; have hB9 : Below wo.heap.size wo w9 := HBt.out.trans (hb9.mono hzt); have HB9 := Lib.hid hB9; have hz9 := hB9.size; have zg9 : g < w9.heap.size := Nat.lt_of_lt_of_le zg hz9; have zq9 : q < w9.heap.size := Nat.lt_of_lt_of_le zq hz9; have zgg9 : gg < w9.heap.size := Nat.lt_of_lt_of_le zgg hz9; have a0 := keepc hB9 zgg HCG.out; have a1 := keepc hB9 zq HCV.out; have p0 := keepc hB9 zg (HCT.out 0 _ rfl); have p1 := keepc hB9 zg (HCT.out 1 _ rfl); have p2 := keepc hB9 zg (HCT.out 2 _ rfl); have p3 := keepc hB9 zg (HCT.out 3 _ rfl); have p4 := keepc hB9 zg (HCT.out 4 _ rfl); simp only [Nat.add_zero, mkI] at p0 p1 p2 p3 p4; clear hb9 hB9)
                    go_quiet (fail)
                    go_wp2
                    go_roundw
                    case rel => exact ⟨t + 1, by go_num, by omega, Lib.hid (by have := HB9.out; exact (by repeat' (first | (with_reducible assumption) | (with_reducible refine Below.setCell ?_ ?_ _) | (with_reducible refine Below.alloc ?_ ?_ _) | (with_reducible refine Below.drew ?_) | (with_reducible refine below_drewN ?_ _) | (with_reducible exact Below.refl _ _) | (show _ ≤ _; (try simp); (try omega); done) | exact Below.refl _ _ | assumption)))⟩
                    case measure => first | (simp [intOf]; done) | (simp [intOf]; omega)
                · obtain rfl : t = n + 64 := by omega
                  go_wp2
                  go_roundw
                  case rel => exact ⟨k + 1, by go_num, by omega, HBt⟩
                  case measure => first | (simp [intOf]; done) | (simp [intOf]; omega)
            · obtain rfl : k = rows.length := by omega
              go_wp2
              go_ret
              exact ⟨rfl, HB.out.trans (HBk.out.mono hzo)⟩
end apartInstrs
end Go.Proofs.YtdjippdcgfcfgaaGreatDoor
