/- Texts of this claim, one behind the other. No condition but those that each states. -/
import Derived.Test.YtdjippdcgfcfgaaGreatDoorBase
import Derived.Laws.OwnMore
import Derived.Test.YtdjippdcgfcfgaaGreatDoorProg
import Derived.Test.YtdjippdcgfcfgaaGreatDoorInfo
import Derived.RegionTactic
import Derived.Deep.RegionWith
import Derived.Deep.QuietTactic
import Derived.BigQuiet
import Derived.Maps.AppendAt
import Derived.ArgAppend
import Derived.Outline

namespace Go.Bus.farmK
open Go.RowKit Go.Bus
set_option linter.unusedVariables false
section
variable {α : Type} {w w' : World} {base : Nat} {e : TypeId} {f : α → Value} {R : List (Value × List α)}
structure Farm (w : World) (base : Nat) (e : TypeId) (f : α → Value) (R : List (Value × List α)) : Prop where
  own : ∀ (i : Nat) (v : Value) (z : List α), R[i]? = some (v, z) → w.ownsRow base e 1 v z.length (z.map f)
  apart : ∀ (i j : Nat) (v : Value) (z : List α) (u : Value) (y : List α), R[i]? = some (v, z) → R[j]? = some (u, y) → i ≠ j → ∀ q, v.ownBlock = some q → u.ownBlock ≠ some q
theorem Farm.kept {row : Option Nat} (h : Farm w base e f R) (hg : w.grownBy w' row) (hr : ∀ (i : Nat) (v : Value) (z : List α), R[i]? = some (v, z) → v.ownBlock = none ∨ v.ownBlock ≠ row) : Farm w' base e f R :=
  ⟨fun i v z hi => (h.own i v z hi).kept hg (hr i v z hi), h.apart⟩
theorem Farm.below (h : Farm w base e f R) (hb : Below w.heap.size w w') : Farm w' base e f R := ⟨fun i v z hi => own_kept (h.own i v z hi) hb, h.apart⟩
theorem Farm.cell {i t g n c : Nat} {z : List α} (h : Farm w base e f R) (hi : R[i]? = some (.slice (some ⟨g, 0, none⟩) n c, z)) (hn : z.length = n) (ht : t < z.length) :
    w.cell? ⟨g, t, none⟩ = some (f z[t]) ∧ w.frozen? ⟨g, t, none⟩ = false := by
  have ho := h.own i _ z hi
  subst hn
  refine ⟨?_, ho.frozenAt t⟩
  rw [ho.cellAt t (by omega), List.getElem?_map, List.getElem?_eq_getElem ht]; rfl
theorem Farm.form {i : Nat} {v : Value} {z : List α} (h : Farm w base e f R) (hi : R[i]? = some (v, z)) :
    ∃ A c, v = .slice A z.length c ∧ z.length ≤ c ∧ c ≤ 9223372036854775807 ∧ (0 < z.length → ∃ g, A = some ⟨g, 0, none⟩) := by
  rcases (h.own i v z hi).2 with ⟨rfl, h0⟩ | ⟨g, cap, cur, rfl, _, _, h1, h2, _⟩
  · exact ⟨none, 0, by rw [h0], by omega, by omega, fun hh => by omega⟩
  · exact ⟨_, cap, rfl, h1, by unfold maxLen at h2; omega, fun _ => ⟨g, rfl⟩⟩
theorem Farm.set {i t g n c : Nat} {z : List α} (h : Farm w base e f R) (hi : R[i]? = some (.slice (some ⟨g, 0, none⟩) n c, z)) (hn : z.length = n) (x : α) :
    Farm (w.setCell ⟨g, t, none⟩ (f x)) base e f (R.set i (.slice (some ⟨g, 0, none⟩) n c, z.set t x)) := by
  have hil : i < R.length := (List.getElem?_eq_some_iff.1 hi).1
  have ho := h.own i _ z hi
  subst hn
  have hst := ho.stored t (f x)
  constructor
  · intro j v y hj
    by_cases hji : j = i
    · subst hji
      rw [List.getElem?_set_self hil] at hj
      simp only [Option.some.injEq, Prod.mk.injEq] at hj
      obtain ⟨rfl, rfl⟩ := hj
      rw [List.length_set, List.map_set]
      exact hst.1
    · rw [List.getElem?_set_ne (Ne.symm hji)] at hj
      refine (h.own j v y hj).kept hst.2 ?_
      cases hv : v.ownBlock with
      | none => exact .inl rfl
      | some q =>
        refine .inr fun he => ?_
        exact h.apart i j _ z v y hi hj (Ne.symm hji) g (by simp [Value.ownBlock]) (by rw [hv]; exact he)
  · intro j k v y u x' hj hk hjk q hq
    have hblk : ∀ (j : Nat) (v : Value) (y : List α), (R.set i (.slice (some ⟨g, 0, none⟩) z.length c, z.set t x))[j]? = some (v, y) → ∃ y', R[j]? = some (v, y') := by
      intro j v y hj
      by_cases hji : j = i
      · subst hji
        rw [List.getElem?_set_self hil] at hj
        simp only [Option.some.injEq, Prod.mk.injEq] at hj
        obtain ⟨rfl, rfl⟩ := hj
        exact ⟨z, hi⟩
      · rw [List.getElem?_set_ne (Ne.symm hji)] at hj
        exact ⟨y, hj⟩
    obtain ⟨y1, h1⟩ := hblk j v y hj
    obtain ⟨y2, h2⟩ := hblk k u x' hk
    exact h.apart j k v y1 u y2 h1 h2 hjk q hq
/-- A row more, in a block of its own. -/
theorem Farm.snoc {v : Value} {z : List α} (h : Farm w base e f R) (ho : w.ownsRow base e 1 v z.length (z.map f)) (hv : ∀ (i : Nat) (u : Value) (y : List α) (q : Nat), R[i]? = some (u, y) → u.ownBlock = some q → v.ownBlock ≠ some q) : Farm w base e f (R ++ [(v, z)]) := by
  have hsp : ∀ (i : Nat) (p : Value × List α), (R ++ [(v, z)])[i]? = some p → R[i]? = some p ∨ (i = R.length ∧ p = (v, z)) := by
    intro i p hi
    rcases Nat.lt_or_ge i R.length with hlt | hge
    · rw [List.getElem?_append_left hlt] at hi; exact .inl hi
    · have hl := (List.getElem?_eq_some_iff.1 hi).1
      simp at hl
      obtain rfl : i = R.length := by omega
      rw [List.getElem?_append_right (Nat.le_refl _), Nat.sub_self] at hi
      simp at hi
      exact .inr ⟨rfl, hi.symm⟩
  constructor
  · intro i u y hi
    rcases hsp i _ hi with hi | ⟨_, hi⟩
    · exact h.own i u y hi
    · simp only [Prod.mk.injEq] at hi; obtain ⟨rfl, rfl⟩ := hi; exact ho
  · intro i j u y u2 y2 hi hj hij q hq
    rcases hsp i _ hi with a1 | ⟨e1, a1⟩ <;> rcases hsp j _ hj with b1 | ⟨e2, b1⟩
    · exact h.apart i j u y u2 y2 a1 b1 hij q hq
    · have e3 : u2 = v := (Prod.mk.inj b1).1
      rw [e3]
      exact hv i u y q a1 hq
    · have e3 : u = v := (Prod.mk.inj a1).1
      rw [e3] at hq
      intro he
      exact hv j u2 y2 q b1 he hq
    · omega
end
end Go.Bus.farmK

namespace Go.Bus.farmK
open Go.RowKit Go.Bus
set_option linter.unusedVariables false
section
variable {α : Type} {w w' : World} {base : Nat} {e : TypeId} {f : α → Value} {R : List (Value × List α)}
theorem own_prefix {A : Option Addr} {m n c : Nat} {xs : List Value} (h : w.ownsRow base e 1 (.slice A m c) m xs) (hn : n ≤ m) : w.ownsRow base e 1 (.slice A n c) n (xs.take n) := by
  have hl := h.1
  refine ⟨by rw [List.length_take]; omega, ?_⟩
  rcases h.2 with ⟨h0, h1⟩ | ⟨g, cap, cur, hv, hb, hh, h1, h2, h3, h4⟩
  · simp only [Value.slice.injEq] at h0
    obtain ⟨rfl, rfl, rfl⟩ := h0
    obtain rfl : n = 0 := by omega
    exact .inl ⟨rfl, rfl⟩
  · simp only [Value.slice.injEq] at hv
    obtain ⟨rfl, _, rfl⟩ := hv
    refine .inr ⟨g, c, cur, rfl, hb, hh, by omega, h2, h3, ?_⟩
    rw [← h4, List.take_take, Nat.min_eq_left (by omega), Nat.mul_one]
theorem own_ne_own {base' : Nat} {t : TypeId} {s s' n m : Nat} {v u : Value} {xs ys : List Value} (h : w.ownsRow base e s v n xs) (h' : w.ownsRow base' t s' u m ys) (hne : e ≠ t) : ∀ q, v.ownBlock = some q → u.ownBlock ≠ some q := by
  intro q hq he
  rcases h.2 with ⟨rfl, _⟩ | ⟨g, cap, cur, rfl, _, hh, _⟩
  · simp [Value.ownBlock] at hq
  · rcases h'.2 with ⟨rfl, _⟩ | ⟨g', cap', cur', rfl, _, hh', _⟩
    · simp [Value.ownBlock] at he
    · have e1 : g = q := by simpa [Value.ownBlock] using hq
      have e2 : g' = q := by simpa [Value.ownBlock] using he
      subst e1; subst e2
      rw [hh] at hh'
      simp only [Option.some.injEq, Obj.cells.injEq] at hh'
      exact hne hh'.2.1
theorem Farm.lt {i : Nat} {v : Value} {z : List α} (h : Farm w base e f R) (hi : R[i]? = some (v, z)) : ∀ q, v.ownBlock = some q → base ≤ q ∧ q < w.heap.size := fun q hq => (h.own i v z hi).lt q hq
/-- Row i is another one now, in its own block or in a new one. -/
theorem Farm.put {i : Nat} {v v' : Value} {z z' : List α} (h : Farm w base e f R) (hi : R[i]? = some (v, z)) (ho : w'.ownsRow base e 1 v' z'.length (z'.map f)) (hg : w.grownBy w' v.ownBlock)
    (hb : v'.ownBlock = v.ownBlock ∨ ∀ q, v'.ownBlock = some q → w.heap.size ≤ q) : Farm w' base e f (R.set i (v', z')) := by
  have hil : i < R.length := (List.getElem?_eq_some_iff.1 hi).1
  have hother : ∀ (j : Nat) (u : Value) (y : List α), j ≠ i → R[j]? = some (u, y) → u.ownBlock = none ∨ u.ownBlock ≠ v.ownBlock := by
    intro j u y hji hj
    cases hu : u.ownBlock with
    | none => exact .inl rfl
    | some q => exact .inr fun he => h.apart j i u y v z hj hi hji q hu he.symm
  have hnew : ∀ (j : Nat) (u : Value) (y : List α), j ≠ i → R[j]? = some (u, y) → ∀ q, v'.ownBlock = some q → u.ownBlock ≠ some q := by
    intro j u y hji hj q hq hu
    rcases hb with hb | hb
    · exact h.apart j i u y v z hj hi hji q hu (by rw [← hb]; exact hq)
    · have h1 := hb q hq
      have h2 := (h.lt hj q hu).2
      omega
  have hget : ∀ (j : Nat) (p : Value × List α), (R.set i (v', z'))[j]? = some p → (j = i ∧ p = (v', z')) ∨ (j ≠ i ∧ R[j]? = some p) := by
    intro j p hj
    by_cases hji : j = i
    · subst hji
      rw [List.getElem?_set_self hil] at hj
      exact .inl ⟨rfl, (Option.some.inj hj).symm⟩
    · rw [List.getElem?_set_ne (Ne.symm hji)] at hj
      exact .inr ⟨hji, hj⟩
  constructor
  · intro j u y hj
    rcases hget j _ hj with ⟨_, hp⟩ | ⟨hji, hj⟩
    · simp only [Prod.mk.injEq] at hp; obtain ⟨rfl, rfl⟩ := hp; exact ho
    · exact (h.own j u y hj).kept hg (hother j u y hji hj)
  · intro j k u y u2 y2 hj hk hjk q hq
    rcases hget j _ hj with ⟨e1, hp⟩ | ⟨hji, hj'⟩ <;> rcases hget k _ hk with ⟨e2, hp2⟩ | ⟨hki, hk'⟩
    · omega
    · have e3 : u = v' := (Prod.mk.inj hp).1
      rw [e3] at hq
      exact hnew k u2 y2 hki hk' q hq
    · have e3 : u2 = v' := (Prod.mk.inj hp2).1
      rw [e3]
      intro he
      exact hnew j u y hji hj' q he hq
    · exact h.apart j k u y u2 y2 hj' hk' hjk q hq
theorem grown_any (h : w.grownBy w' none) (row : Option Nat) : w.grownBy w' row := ⟨h.os, h.tape, h.output, h.size, fun i hi _ => h.block i hi (by simp)⟩
theorem own_reads {A : Option Addr} {n c : Nat} {xs : List Value} (h : w.ownsRow base e 1 (.slice A n c) n xs) :
    (A = none → n = 0 ∧ c = 0) ∧ (0 < c → ∃ g, A = some ⟨g, 0, none⟩) ∧ (∀ b, A = some b → ∀ (j : Nat) (u : Value), xs[j]? = some u → w.cell? (b.add j) = some u) := by
  rcases h.2 with ⟨h0, h1⟩ | ⟨g, cap, cur, hv, hb, hh, h1, h2, h3, h4⟩
  · simp only [Value.slice.injEq] at h0
    obtain ⟨rfl, rfl, rfl⟩ := h0
    exact ⟨fun _ => ⟨rfl, rfl⟩, fun hc => by omega, fun b hb => by cases hb⟩
  · simp only [Value.slice.injEq] at hv
    obtain ⟨rfl, _, rfl⟩ := hv
    refine ⟨fun hn => by simp at hn, fun _ => ⟨g, rfl⟩, fun b hb j u hu => ?_⟩
    obtain rfl : (⟨g, 0, none⟩ : Addr) = b := by simpa using hb
    have hadd : ((⟨g, 0, none⟩ : Addr).add j) = ⟨g, j, none⟩ := by unfold Addr.add; split <;> simp_all
    rw [hadd, cell_of_row w g j cur e (0, 0) hh]
    rw [← h4, List.getElem?_take] at hu
    split at hu
    · simpa using hu
    · cases hu
/-- Row i moves into new memory; what it was, or a part of it, stays as row l, where none was. -/
theorem Farm.move {i l : Nat} {v v1 V u : Value} {z z1 Y y : List α} (h : Farm w base e f R) (hil : i ≠ l) (hi : R[i]? = some (v, z)) (hl : R[l]? = some (u, y)) (hu : u.ownBlock = none) (hg : w.grownBy w' none)
    (ho : w'.ownsRow base e 1 v1 z1.length (z1.map f)) (hb : ∀ q, v1.ownBlock = some q → w.heap.size ≤ q) (hV : w'.ownsRow base e 1 V Y.length (Y.map f)) (hVb : V.ownBlock = v.ownBlock) :
    Farm w' base e f ((R.set i (v1, z1)).set l (V, Y)) := by
  have hiL : i < R.length := (List.getElem?_eq_some_iff.1 hi).1
  have hlL : l < R.length := (List.getElem?_eq_some_iff.1 hl).1
  have hget : ∀ (j : Nat) (p : Value × List α), ((R.set i (v1, z1)).set l (V, Y))[j]? = some p → (j = l ∧ p = (V, Y)) ∨ (j = i ∧ j ≠ l ∧ p = (v1, z1)) ∨ (j ≠ i ∧ j ≠ l ∧ R[j]? = some p) := by
    intro j p hj
    by_cases hjl : j = l
    · subst hjl
      rw [List.getElem?_set_self (by rw [List.length_set]; exact hlL)] at hj
      exact .inl ⟨rfl, (Option.some.inj hj).symm⟩
    · rw [List.getElem?_set_ne (Ne.symm hjl)] at hj
      by_cases hji : j = i
      · subst hji
        rw [List.getElem?_set_self hiL] at hj
        exact .inr (.inl ⟨rfl, hjl, (Option.some.inj hj).symm⟩)
      · rw [List.getElem?_set_ne (Ne.symm hji)] at hj
        exact .inr (.inr ⟨hji, hjl, hj⟩)
  have old : ∀ (j : Nat) (x : Value) (t : List α), R[j]? = some (x, t) → ∀ q, v1.ownBlock = some q → x.ownBlock ≠ some q := by
    intro j x t hj q hq he
    have h1 := hb q hq
    have h2 := (h.lt hj q he).2
    omega
  constructor
  · intro j x t hj
    rcases hget j _ hj with ⟨_, hp⟩ | ⟨_, _, hp⟩ | ⟨_, _, hj'⟩
    · simp only [Prod.mk.injEq] at hp; obtain ⟨rfl, rfl⟩ := hp; exact hV
    · simp only [Prod.mk.injEq] at hp; obtain ⟨rfl, rfl⟩ := hp; exact ho
    · exact (h.own j x t hj').kept hg (by cases hx : x.ownBlock with | none => exact .inl rfl | some q => exact .inr (by simp))
  · intro j k x t x2 t2 hj hk hjk q hq
    rcases hget j _ hj with ⟨e1, hp⟩ | ⟨e1, n1, hp⟩ | ⟨n1, m1, hj'⟩ <;> rcases hget k _ hk with ⟨e2, hp2⟩ | ⟨e2, n2, hp2⟩ | ⟨n2, m2, hk'⟩
    · omega
    · have a1 : x = V := (Prod.mk.inj hp).1
      have a2 : x2 = v1 := (Prod.mk.inj hp2).1
      rw [a1, hVb] at hq
      rw [a2]
      intro he
      exact old i v z hi q he hq
    · have a1 : x = V := (Prod.mk.inj hp).1
      rw [a1, hVb] at hq
      exact h.apart i k v z x2 t2 hi hk' (Ne.symm n2) q hq
    · have a1 : x = v1 := (Prod.mk.inj hp).1
      have a2 : x2 = V := (Prod.mk.inj hp2).1
      rw [a1] at hq
      rw [a2, hVb]
      exact old i v z hi q hq
    · omega
    · have a1 : x = v1 := (Prod.mk.inj hp).1
      rw [a1] at hq
      exact old k x2 t2 hk' q hq
    · have a2 : x2 = V := (Prod.mk.inj hp2).1
      rw [a2, hVb]
      exact h.apart j i x t v z hj' hi n1 q hq
    · have a2 : x2 = v1 := (Prod.mk.inj hp2).1
      rw [a2]
      intro he
      exact old j x t hj' q he hq
    · exact h.apart j k x t x2 t2 hj' hk' hjk q hq
end
end Go.Bus.farmK

namespace Go.Bus.apartG
open Go.RowKit Go.Bus Go.Bus.farmK
set_option linter.unusedVariables false
theorem own_cap2 {w : World} {base : Nat} {e : TypeId} {A : Option Addr} {n c : Nat} {xs : List Value} (h : w.ownsRow base e 1 (.slice A n c) n xs) : n ≤ c ∧ c ≤ 9223372036854775807 := by
  rcases h.2 with ⟨h0, h1⟩ | ⟨g, cap, cur, hv, _, _, h1, h2, _⟩
  · simp only [Value.slice.injEq] at h0
    obtain ⟨_, rfl, rfl⟩ := h0
    omega
  · simp only [Value.slice.injEq] at hv
    obtain ⟨_, _, rfl⟩ := hv
    exact ⟨h1, by unfold maxLen at h2; omega⟩
section
variable {α : Type} {f : α → Value} {e : TypeId}
/-- How a list V with content X lies to the same with more behind: in one block, or in d. -/
def Pair (V : Value) (X : List α) (m : Nat) (G : Value) (d : Value × List α) : Prop :=
  (d = (.slice none 0 0, []) ∧ ∃ A c, V = .slice A X.length c ∧ G = .slice A m c) ∨ (d.1 = V ∧ d.2 = X ∧ ∃ A c, G = .slice A m c)
structure P1 (E : Nat → List α → List α) (rows F D : List (Value × List α)) (k : Nat) : Prop where
  lenF : F.length = rows.length
  lenD : D.length = k
  done : ∀ (i : Nat) (p : Value × List α), i < k → rows[i]? = some p → ∃ (G : Value) (d : Value × List α), F[i]? = some (G, E i p.2) ∧ D[i]? = some d ∧ Pair p.1 p.2 (E i p.2).length G d
  todo : ∀ i, k ≤ i → F[i]? = rows[i]?
variable {w w1 : World} {base k m c : Nat} {F D : List (Value × List α)} {V gv v1 : Value} {X Z Z1 : List α} {d : Value × List α} {o : Obj} {A : Option Addr}
theorem at_k (hk : k < F.length) (p : Value × List α) (T : List (Value × List α)) : (F.set k p ++ T)[k]? = some p := by
  rw [List.getElem?_append_left (by rw [List.length_set]; exact hk), List.getElem?_set_self hk]
theorem set_k (hk : k < F.length) (p p1 : Value × List α) (T : List (Value × List α)) : (F.set k p ++ T).set k p1 = F.set k p1 ++ T := by
  rw [List.set_append_left _ _ (by rw [List.length_set]; exact hk), List.set_set]
theorem set_same {p : Value × List α} (hk : F[k]? = some p) : F.set k p = F := by
  have hl := (List.getElem?_eq_some_iff.1 hk).1
  apply List.ext_getElem?
  intro j
  by_cases hj : j = k
  · subst hj; rw [List.getElem?_set_self hl, hk]
  · rw [List.getElem?_set_ne (Ne.symm hj)]
theorem fit_step (hk : k < F.length) (h : Farm w base e f (F.set k (gv, Z) ++ (D ++ [d]))) (ho : w1.ownsRow base e 1 v1 Z1.length (Z1.map f)) (hg : (w.alloc o).grownBy w1 gv.ownBlock)
    (hb : v1.ownBlock = gv.ownBlock) : Farm w1 base e f (F.set k (v1, Z1) ++ (D ++ [d])) := by
  have h1 : Farm (w.alloc o) base e f (F.set k (gv, Z) ++ (D ++ [d])) := h.below ((Below.refl _ _).alloc (Nat.le_refl _) _)
  have h2 := h1.put (at_k hk _ _) ho hg (.inl hb)
  rw [set_k hk] at h2
  exact h2
theorem grow_step (hk : k < F.length) (hXZ : Z.take X.length = X) (hXl : X.length ≤ Z.length) (hm : Z.length = m) (hgv : gv = .slice A m c) (hV : Pair V X m gv d) (h : Farm w base e f (F.set k (gv, Z) ++ (D ++ [d])))
    (ho : w1.ownsRow (w.alloc o).heap.size e 1 v1 Z1.length (Z1.map f)) (hbase : base ≤ w.heap.size) (hg : (w.alloc o).grownBy w1 none) (hv1 : ∃ A c, v1 = .slice A (m + 1) c) :
    ∃ d1, Pair V X (m + 1) v1 d1 ∧ Farm w1 base e f (F.set k (v1, Z1) ++ (D ++ [d1])) := by
  have h1 : Farm (w.alloc o) base e f (F.set k (gv, Z) ++ (D ++ [d])) := h.below ((Below.refl _ _).alloc (Nat.le_refl _) _)
  have hbn : base ≤ (w.alloc o).heap.size := by simp; omega
  have hfresh : ∀ q, v1.ownBlock = some q → (w.alloc o).heap.size ≤ q := fun q hq => (ho.lt q hq).1
  rcases hV with ⟨hd, A0, c0, hV1, hV2⟩ | ⟨hd1, hd2, hd3⟩
  · subst hd
    have hi := at_k hk (gv, Z) (D ++ [(Value.slice none 0 0, [])])
    have hlen : (F.set k (gv, Z)).length = F.length := List.length_set
    have hl : (F.set k (gv, Z) ++ (D ++ [((Value.slice none 0 0 : Value), ([] : List α))]))[F.length + D.length]? = some (.slice none 0 0, []) := by
      rw [List.getElem?_append_right (by omega), hlen]
      simp
    have hgo := (h1.own k gv Z hi).kept hg (by cases gv.ownBlock with | none => exact .inl rfl | some q => exact .inr (by simp))
    have hgv2 : w1.ownsRow base e 1 (.slice A0 Z.length c0) Z.length (Z.map f) := by rw [hm]; rw [hV2] at hgo; rw [← hm] at hgo ⊢; exact hgo
    have hpre := own_prefix hgv2 hXl
    rw [← List.map_take, hXZ] at hpre
    have hVb : V.ownBlock = gv.ownBlock := by rw [hV1, hV2]; cases A0 <;> rfl
    have hmv := h1.move (i := k) (l := F.length + D.length) (by omega) hi hl rfl hg (own_base ho hbn) hfresh (V := V) (Y := X) (by rw [hV1]; exact hpre) hVb
    refine ⟨(V, X), .inr ⟨rfl, rfl, hv1⟩, ?_⟩
    rw [set_k hk] at hmv
    have e1 : (F.set k (v1, Z1) ++ (D ++ [((Value.slice none 0 0 : Value), ([] : List α))])).set (F.length + D.length) (V, X) = F.set k (v1, Z1) ++ (D ++ [(V, X)]) := by
      rw [List.set_append_right _ _ (by rw [List.length_set]; omega), List.length_set, Nat.add_sub_cancel_left, List.set_append_right _ _ (Nat.le_refl _), Nat.sub_self]; rfl
    rw [e1] at hmv
    exact hmv
  · refine ⟨d, .inr ⟨hd1, hd2, hv1⟩, ?_⟩
    have h2 := h1.put (at_k hk _ _) (own_base ho hbn) (grown_any hg _) (.inr hfresh)
    rw [set_k hk] at h2
    exact h2
end
section
variable {α : Type} {f : α → Value} {e : TypeId}
theorem p1_step {E : Nat → List α → List α} {rows F D : List (Value × List α)} {k : Nat} {V gv : Value} {X : List α} {d : Value × List α} (h : P1 E rows F D k) (hk : k < rows.length) (hr : rows[k]? = some (V, X)) (hp : Pair V X (E k X).length gv d) :
    P1 E rows (F.set k (gv, E k X)) (D ++ [d]) (k + 1) ∧ ((F.set k (gv, E k X)).take (k + 1)).map (·.1) = (F.take k).map (·.1) ++ [gv] := by
  have hkF : k < F.length := by rw [h.lenF]; exact hk
  refine ⟨⟨by rw [List.length_set]; exact h.lenF, by simp [h.lenD], fun i p hi hpi => ?_, fun i hi => ?_⟩, ?_⟩
  · by_cases hik : i = k
    · subst hik
      rw [hr] at hpi
      obtain rfl : (V, X) = p := Option.some.inj hpi
      exact ⟨gv, d, List.getElem?_set_self hkF, by rw [List.getElem?_append_right (by rw [h.lenD]; exact Nat.le_refl _), h.lenD]; simp, hp⟩
    · obtain ⟨G, d', h1, h2, h3⟩ := h.done i p (by omega) hpi
      exact ⟨G, d', by rw [List.getElem?_set_ne (Ne.symm hik)]; exact h1, by rw [List.getElem?_append_left (by rw [h.lenD]; omega)]; exact h2, h3⟩
  · rw [List.getElem?_set_ne (by omega)]
    exact h.todo i (by omega)
  · rw [List.take_succ_eq_append_getElem (by rw [List.length_set]; exact hkF), List.map_append, List.getElem_set_self]
    rw [List.take_set_of_le (Nat.le_refl _)]
    rfl
/-- The first k rows are written over: row j holds M j. -/
structure S0 (M : Nat → Nat → List α) (rows R : List (Value × List α)) (k : Nat) : Prop where
  heads : R.map (·.1) = rows.map (·.1)
  lens : R.map (fun p => p.2.length) = rows.map (fun p => p.2.length)
  done : ∀ (j : Nat) (p : Value × List α), j < k → R[j]? = some p → p.2 = M j p.2.length
theorem S0.at_ {M : Nat → Nat → List α} {rows R : List (Value × List α)} {k i : Nat} {p : Value × List α} (h : S0 M rows R k) (hp : rows[i]? = some p) : ∃ z, R[i]? = some (p.1, z) ∧ z.length = p.2.length := by
  have h1 := congrArg (fun l : List Value => l[i]?) h.heads
  have h2 := congrArg (fun l : List Nat => l[i]?) h.lens
  simp only [List.getElem?_map, hp, Option.map_some] at h1 h2
  cases hr : R[i]? with
  | none => rw [hr] at h1; simp at h1
  | some r =>
    rw [hr] at h1 h2
    simp only [Option.map_some, Option.some.injEq] at h1 h2
    exact ⟨r.2, by rw [← h1], h2⟩
theorem S0.next {M : Nat → Nat → List α} {rows R : List (Value × List α)} {k : Nat} {V : Value} {Y : List α} (h : S0 M rows R k) (hp : R[k]? = some (V, Y)) (hM : (M k Y.length).length = Y.length) : S0 M rows (R.set k (V, M k Y.length)) (k + 1) := by
  have hl := (List.getElem?_eq_some_iff.1 hp).1
  refine ⟨?_, ?_, fun j p hj hjp => ?_⟩
  · rw [← h.heads, List.map_set]
    refine List.ext_getElem? fun j => ?_
    by_cases hjk : j = k
    · subst hjk
      rw [List.getElem?_set_self (by rw [List.length_map]; exact hl), List.getElem?_map, hp]; rfl
    · rw [List.getElem?_set_ne (Ne.symm hjk)]
  · rw [← h.lens, List.map_set]
    refine List.ext_getElem? fun j => ?_
    by_cases hjk : j = k
    · subst hjk
      rw [List.getElem?_set_self (by rw [List.length_map]; exact hl), List.getElem?_map, hp]
      simp only [Option.map_some, hM]
    · rw [List.getElem?_set_ne (Ne.symm hjk)]
  · by_cases hjk : j = k
    · subst hjk
      rw [List.getElem?_set_self hl] at hjp
      obtain rfl := Option.some.inj hjp
      show M j Y.length = M j (M j Y.length).length
      rw [hM]
    · rw [List.getElem?_set_ne (Ne.symm hjk)] at hjp
      exact h.done j p (by omega) hjp
theorem fill_set {M : Nat → List α} {m : Nat → α} (hM : ∀ n, M n = (List.range n).map m) {Y : List α} {t : Nat} (ht : t < Y.length) : (M t ++ Y.drop t).set t (m t) = M (t + 1) ++ Y.drop (t + 1) := by
  have h : (Y.drop t).set 0 (m t) = m t :: Y.drop (t + 1) := by rw [List.drop_eq_getElem_cons ht]; rfl
  rw [hM, hM, List.set_append_right _ _ (by simp), List.range_succ, List.map_append]
  simp [h]
theorem fill_len {M : Nat → List α} {m : Nat → α} (hM : ∀ n, M n = (List.range n).map m) {Y : List α} {t : Nat} (ht : t ≤ Y.length) : (M t ++ Y.drop t).length = Y.length := by
  rw [hM]; simp; omega
end
end Go.Bus.apartG

namespace Go.Proofs.YtdjippdcgfcfgaaGreatDoor
open Go.RowKit Go.Bus Go.Bus.farmK Go.Bus.apartG
set_option linter.unusedVariables false
theorem Tryz.infoRowBytes : (Tryz.prog.info? 23).map (fun i => (i.zero, i.size, i.bytes)) = some (some (.slice none 0 0), 1, 24) := by kernel_rfl
namespace apartBytes
abbrev Row := Value × List Int
def markI (k i : Nat) : Int := (((37 * (k + 1) + i) % 256 : Nat) : Int)
def M (k n : Nat) : List Int := (List.range n).map (markI k)
theorem M_len (k n : Nat) : (M k n).length = n := by simp [M]
theorem M_snoc (k n : Nat) : M k n ++ [markI k n] = M k (n + 1) := by simp [M, List.range_succ]
theorem M_take {k n m : Nat} (h : n ≤ m) : (M k m).take n = M k n := by
  unfold M; rw [← List.map_take, List.take_range, Nat.min_eq_left h]
theorem M_get {k n i : Nat} (h : i < n) : (M k n)[i]'(by rw [M_len]; exact h) = markI k i := by simp [M]
def E (k : Nat) (X : List Int) : List Int := M k (X.length + 64)
set_option maxRecDepth 100000 in
set_option maxHeartbeats 1000000 in
theorem mark_any (k i : Nat) (x z : Int) (w : World) (hx : x = k) (hz : z = i) (hk : k ≤ 1000000) (hi : i ≤ 281474976710656) :
    Calls Tryz.prog 34 #[.int .i64 x, .int .i64 z] w fun e w' => e = .returned (.int .u8 (markI k i)) ∧ w = w' := by
  subst hx
  subst hz
  have h1 : markI k i = IntKind.u8.wrap (37 * ((k : Int) + 1) + i) := by rw [IntKind.wrap_u8]; unfold markI; omega
  rw [h1]
  go_enter Tryz.func34, Tryz.ntmps34
  go_wp2
  go_ret
  exact ⟨rfl, rfl⟩

set_option maxRecDepth 100000 in
set_option maxHeartbeats 6000000 in
theorem apart_any (q base : Nat) (rows : List Row) (w : World) (hq : Has w q 23 (rows.map (·.1)).toArray) (hF : Farm w base 5 (Value.int .u8) rows) (hbase : base ≤ w.heap.size) (hN : rows.length ≤ 1000000) (hN0 : 0 < rows.length) (hlen : ∀ p ∈ rows, p.2.length ≤ 1000000000) :
    Calls Tryz.prog 17 #[.slice (some ⟨q, 0, none⟩) rows.length rows.length] w fun e w' => e = .returned (.bool true) ∧ Below base w w' := by
  obtain ⟨i0, hi, hz0, hz1, hz2⟩ := info_parts Tryz.infoB
  obtain ⟨i1, hj, hy0, hy1, hy2⟩ := info_parts Tryz.infoRowBytes
  have hqlt := hq.lt
  have HQ := Lib.hid hq
  have HF := Lib.hid hF
  have HL := Lib.hid hlen
  have hMM : ∀ k n, M k n = (List.range n).map (markI k) := fun _ _ => rfl
  have HMM := Lib.hid hMM
  clear hq hF hlen hMM
  go_enter Tryz.func17, Tryz.ntmps17
  go_wp2
  go_loopw [3] (fun i wr => ∃ (k : Nat) (R : List Row), i = .int .i64 k ∧ k ≤ rows.length ∧ Hid (S0 M rows R k) ∧ Farm wr base 5 (Value.int .u8) R ∧ Has wr q 23 (rows.map (·.1)).toArray ∧ Below base w wr ∧ w.heap.size ≤ wr.heap.size) (fun i _ => rows.length - (intOf i).toNat)
  case atStart => exact ⟨0, rows, rfl, Nat.zero_le _, Lib.hid ⟨rfl, rfl, fun j p h => absurd h (by omega)⟩, HF.out, HQ.out, Below.refl _ _, Nat.le_refl _⟩
  case round =>
    clear HF
    obtain ⟨k, R, rfl, hk, HS, hFm, hqr, hbel, hsz⟩ := hrel
    have HFm := Lib.hid hFm; clear hFm
    have HQR := Lib.hid hqr; clear hqr
    have HB := Lib.hid hbel; clear hbel
    have hRl : R.length = rows.length := by have := congrArg List.length HS.out.heads; simpa using this
    by_cases hlt : k < rows.length
    · obtain ⟨⟨V, X⟩, hr⟩ : ∃ p, rows[k]? = some p := ⟨_, List.getElem?_eq_getElem hlt⟩
      have hX : X.length ≤ 1000000000 := HL.out (V, X) (List.mem_of_getElem? hr)
      obtain ⟨Y, hRk, hYl⟩ := HS.out.at_ hr
      simp only at hYl
      obtain ⟨A, c, rfl, hc1, hc2, hA⟩ := HFm.out.form hRk
      have hkR : k < R.length := by omega
      have hqk : ∀ W : World, Has W q 23 (rows.map (·.1)).toArray → W.cell? ⟨q, k, none⟩ = some (.slice A Y.length c) := fun W h => by rw [h.cell k]; simp [hr]
      have HQK := Lib.hid hqk
      have HRk := Lib.hid hRk
      have HA := Lib.hid hA
      have hY : Y.length ≤ 1000000000 := by omega
      have hqc := hqk _ HQR.out
      clear hqk hRk hr hYl hA
      go_wp2
      clear hqc
      go_loopw [4] (fun i wr => ∃ t : Nat, i = .int .i64 t ∧ t ≤ Y.length ∧ Farm wr base 5 (Value.int .u8) (R.set k (.slice A Y.length c, M k t ++ Y.drop t)) ∧ Has wr q 23 (rows.map (·.1)).toArray ∧ Below base w wr ∧ w.heap.size ≤ wr.heap.size) (fun i _ => Y.length - (intOf i).toNat)
      case atStart => exact ⟨0, rfl, Nat.zero_le _, by rw [show M k 0 ++ Y.drop 0 = Y by simp [M], set_same HRk.out]; exact HFm.out, HQR.out, HB.out, hsz⟩
      case round =>
        clear HFm HQR HB hsz
        obtain ⟨t, rfl, ht, hFr, hqr, hbel, hsz⟩ := hrel
        have hqc := HQK.out _ hqr
        by_cases htl : t < Y.length
        · obtain ⟨g, rfl⟩ := HA.out (by omega)
          have hlen2 : (M k t ++ Y.drop t).length = Y.length := fill_len (HMM.out k) (by omega)
          have hgk : (R.set k (.slice (some ⟨g, 0, none⟩) Y.length c, M k t ++ Y.drop t))[k]? = some (.slice (some ⟨g, 0, none⟩) Y.length c, M k t ++ Y.drop t) := List.getElem?_set_self hkR
          obtain ⟨hc0, hf0⟩ := hFr.cell (t := t) hgk hlen2 (by omega)
          have hFn := hFr.set (t := t) hgk hlen2 (markI k t)
          rw [List.set_set, fill_set (HMM.out k) htl] at hFn
          have hown := hFr.own k _ _ hgk
          have hqn : Has (wr.setCell ⟨g, t, none⟩ ((Value.int .u8) (markI k t))) q 23 (rows.map (·.1)).toArray := hqr.far (p := ⟨g, t, none⟩) (fun e => own_has_ne hown hqr (by decide) (by rw [e]; rfl)) _
          have hbn : Below base w (wr.setCell ⟨g, t, none⟩ ((Value.int .u8) (markI k t))) := hbel.setCell (p := ⟨g, t, none⟩) (hown.lt g (by rfl)).1 _
          have HFn := Lib.hid hFn
          have HQn := Lib.hid hqn
          have HBn := Lib.hid hbn
          generalize (M k t ++ Y.drop t)[t]'(by rw [hlen2]; exact htl) = y at *
          clear hFn hqn hbn hown hgk hlen2 hFr hqr hbel
          go_wp2_with fail
          go_region_with (go_at_call 34; refine (mark_any k t _ _ _ (by rfl) (by rfl) (by omega) (by omega)).mono ?_; rintro e w9 ⟨rfl, rfl⟩)
          all_goals
            go_wp2
            go_roundw
          all_goals first
            | exact ⟨t + 1, by go_num, by omega, (by exact ⟨fun i v z hi => HFn.out.own i v z hi, HFn.out.apart⟩), (by exact HQn.out), (by exact ⟨HBn.out.os, HBn.out.tape, HBn.out.output, HBn.out.size, HBn.out.block⟩), by simp; omega⟩
            | (simp [intOf]; done)
            | (simp [intOf]; omega)
        · obtain rfl : t = Y.length := by omega
          rw [List.drop_of_length_le (Nat.le_refl _), List.append_nil] at hFr
          have HS1 := Lib.hid (HS.out.next HRk.out (M_len k _))
          have HFr := Lib.hid hFr
          have HQr := Lib.hid hqr
          have HBr := Lib.hid hbel
          clear hFr hqr hbel HS
          go_wp2
          go_roundw
          case rel => exact ⟨k + 1, _, by go_num, by omega, HS1, HFr.out, HQr.out, HBr.out, hsz⟩
          case measure => first | (simp [intOf]; done) | (simp [intOf]; omega)
    · obtain rfl : k = rows.length := by omega
      have hcont : ∀ (j : Nat) (p : Row), R[j]? = some p → p.2 = M j p.2.length := fun j p hp => HS.out.done j p (by have := (List.getElem?_eq_some_iff.1 hp).1; omega) hp
      have hbd : ∀ p ∈ R, p.2.length ≤ 1000000000 := by
        intro p hp
        obtain ⟨j, hj⟩ := List.mem_iff_getElem?.1 hp
        have hjl := (List.getElem?_eq_some_iff.1 hj).1
        obtain ⟨p2, hr2⟩ : ∃ p2, rows[j]? = some p2 := ⟨_, List.getElem?_eq_getElem (by omega)⟩
        obtain ⟨z, hz, hzl⟩ := HS.out.at_ hr2
        have := HL.out p2 (List.mem_of_getElem? hr2)
        rw [hj] at hz
        have := Option.some.inj hz
        rw [this]; simp only; omega
      have hhd : R.map (·.1) = rows.map (·.1) := HS.out.heads
      have hq2 : Has wr q 23 (R.map (·.1)).toArray := by rw [hhd]; exact HQR.out
      have HQR2 := Lib.hid hq2
      have HCO := Lib.hid hcont
      have HBD := Lib.hid hbd
      have hR1 : R.length ≤ rows.length := Nat.le_of_eq hRl
      have hR2 : rows.length ≤ R.length := Nat.le_of_eq hRl.symm
      clear hcont hbd hhd hq2 HQR HL HS hlt hk hRl
      go_wp2
      go_loopw [5, 6] (fun gsv' i wr => ∃ (gsv : Value) (k : Nat) (F D : List Row), gsv = gsv' ∧ i = .int .i64 k ∧ k ≤ rows.length ∧ Hid (P1 E R F D k) ∧ Farm wr base 5 (Value.int .u8) (F ++ D) ∧ wr.ownsRow w.heap.size 23 1 gsv k ((F.take k).map (·.1)) ∧ Has wr q 23 (R.map (·.1)).toArray ∧ Below base w wr ∧ w.heap.size ≤ wr.heap.size) (fun _ i _ => rows.length - (intOf i).toNat)
      case atStart => exact ⟨_, 0, R, [], rfl, rfl, Nat.zero_le _, Lib.hid ⟨rfl, rfl, fun i p h => absurd h (by omega), fun i _ => rfl⟩, by simpa using HFm.out, World.ownsRow_nil _ _ _ _, HQR2.out, HB.out, hsz⟩
      case round =>
        clear HFm HQR2 HB hsz
        obtain ⟨gsv, k, F, D, rfl, rfl, hk, HP, hFm, hgs, hqr, hbel, hsz⟩ := hrel
        have HFm := Lib.hid hFm; clear hFm
        have HGS := Lib.hid hgs; clear hgs
        have HQR := Lib.hid hqr; clear hqr
        have HB := Lib.hid hbel; clear hbel
        by_cases hlt : k < rows.length
        · have hltR : k < R.length := by omega
          obtain ⟨⟨V, X⟩, hr⟩ : ∃ p, R[k]? = some p := ⟨_, List.getElem?_eq_getElem hltR⟩
          have hX : X.length ≤ 1000000000 := HBD.out (V, X) (List.mem_of_getElem? hr)
          have hXM : X = M k X.length := HCO.out k (V, X) hr
          have hFk : (F ++ D)[k]? = some (V, X) := by
            rw [List.getElem?_append_left (by rw [HP.out.lenF]; exact hltR), HP.out.todo k (Nat.le_refl _)]; exact hr
          obtain ⟨A, c, rfl, hc1, hc2, hA⟩ := HFm.out.form hFk
          have hcv : wr.cell? ⟨q, k, none⟩ = some (.slice A X.length c) := by
            rw [HQR.out.cell k]; simp [hr]
          have HFK := Lib.hid hFk
          have HR := Lib.hid hr
          have HXM := Lib.hid hXM
          clear hFk hr hA hXM
          obtain ⟨wo, rfl⟩ : ∃ wo : World, wo = wr := ⟨_, rfl⟩
          have hkF : k < F.length := by rw [HP.out.lenF]; exact hltR
          have hdl : D.length = k := HP.out.lenD
          have h0 : Farm wo base 5 (Value.int .u8) (F.set k (.slice A X.length c, M k (X.length + 0)) ++ (D ++ [((Value.slice none 0 0 : Value), ([] : List Int))])) := by
            have e1 : F.set k (.slice A X.length c, M k (X.length + 0)) = F := by
              have hk2 : F[k]? = some (.slice A X.length c, X) := by rw [HP.out.todo k (Nat.le_refl _)]; exact HR.out
              have e2 : M k (X.length + 0) = X := HXM.out.symm
              rw [e2]
              exact set_same hk2
            rw [e1, ← List.append_assoc]
            exact HFm.out.snoc (World.ownsRow_nil _ _ _ _) (fun i u y q _ _ => by simp [Value.ownBlock])
          have H0 := Lib.hid h0; clear h0
          go_wp2
          go_loopw [7, 8] (fun gv' i wr => ∃ (gv : Value) (j : Nat) (d : Row), gv = gv' ∧ i = .int .i64 j ∧ j ≤ 64 ∧ Hid (Pair (.slice A X.length c) X (X.length + j) gv d) ∧ Farm wr base 5 (Value.int .u8) (F.set k (gv, M k (X.length + j)) ++ (D ++ [d])) ∧
              wr.ownsRow w.heap.size 23 1 gsv k ((F.take k).map (·.1)) ∧ Has wr q 23 (R.map (·.1)).toArray ∧ Below base w wr ∧ w.heap.size ≤ wr.heap.size) (fun _ i _ => 64 - (intOf i).toNat)
          case atStart => exact ⟨_, 0, _, rfl, rfl, Nat.zero_le _, Lib.hid (.inl ⟨rfl, A, c, rfl, rfl⟩), H0.out, HGS.out, HQR.out, HB.out, hsz⟩
          case round =>
            clear H0 hcv
            obtain ⟨gv, j, d, rfl, rfl, hj64, hPr, hFr, hgr, hqr, hbr, hzr⟩ := hrel
            obtain ⟨A1, c1, rfl⟩ : ∃ A1 c1, gv = .slice A1 (X.length + j) c1 := by
              rcases hPr.out with ⟨_, A1, c1, _, h⟩ | ⟨_, _, A1, c1, h⟩ <;> exact ⟨A1, c1, h⟩
            have hZ : (M k (X.length + j)).length = X.length + j := M_len _ _
            have hcv : wr.cell? ⟨q, k, none⟩ = some (.slice A X.length c) := by
              rw [hqr.cell k]; simp [HR.out]
            by_cases hlt2 : j < 64
            · have hown := hFr.own k _ _ (at_k hkF _ _)
              have hrd := own_reads (by rw [hZ] at hown; exact hown)
              obtain ⟨hn1, hn2, hn3⟩ := hrd
              have HPr := Lib.hid hPr.out; clear hPr
              have HFr := Lib.hid hFr; clear hFr
              have HGR := Lib.hid hgr; clear hgr
              have HQ2 := Lib.hid hqr; clear hqr
              have HBR := Lib.hid hbr; clear hbr
              have hl1 : (M k (X.length + (j + 1))).length = X.length + j + 1 := M_len _ _
              have hm1 : (M k (X.length + (j + 1))).map (Value.int .u8) = (M k (X.length + j)).map (Value.int .u8) ++ [(Value.int .u8) (markI k (X.length + j))] := by
                rw [show X.length + (j + 1) = (X.length + j) + 1 from rfl, ← M_snoc, List.map_append]; rfl
              have HL1 := Lib.hid hl1; clear hl1
              have HM1 := Lib.hid hm1; clear hm1
              have HZ := Lib.hid hZ
              have HN3 := Lib.hid hn3; clear hn3
              have HN1 := Lib.hid hn1; clear hn1
              rw [hZ] at hown
              have HOW := Lib.hid hown; clear hown hZ
              by_cases hfit : X.length + j < c1
              · obtain ⟨g, rfl⟩ := hn2 (by omega)
                clear hn2
                go_wp2_with fail
                refine (mark_any k (X.length + j) _ _ _ (by rfl) (by omega) (by omega) (by omega)).mono ?_
                rintro e w9 ⟨rfl, rfl⟩
                go_wp2_with (at_builtin; refine wpList_append_fits _ rfl _ _ 23 rfl base 5 i0 1 Tryz.underlying23 hi hz1 g (X.length + j) c1 ((M k (X.length + j)).map (Value.int .u8)) rfl (HOW.out.alloc _) ⟨wr.heap.size, 0, none⟩ 1 1 [(Value.int .u8) (markI k (X.length + j))] rfl rfl ?c1 ?c2 ?c3 ?_)
                case c1 => exact one_new wr _ _
                case c2 => intro u hu; simp at hu; subst hu; rfl
                case c3 => omega
                intro w1 hown1 hg1
                have hPn : Pair (.slice A X.length c) X (X.length + (j + 1)) (.slice (some ⟨g, 0, none⟩) (X.length + j + 1) c1) d := by
                  rcases HPr.out with ⟨hd, A0, c0, hV1, hV2⟩ | ⟨hd1, hd2, _⟩
                  · simp only [Value.slice.injEq] at hV2
                    obtain ⟨rfl, _, rfl⟩ := hV2
                    exact .inl ⟨hd, _, _, hV1, rfl⟩
                  · exact .inr ⟨hd1, hd2, _, _, rfl⟩
                have hFn := fit_step (v1 := .slice (some ⟨g, 0, none⟩) (X.length + j + 1) c1) (Z1 := M k (X.length + (j + 1))) hkF HFr.out (by rw [HL1.out, HM1.out]; exact hown1) hg1 rfl
                have hgn : w1.ownsRow w.heap.size 23 1 gsv k ((F.take k).map (·.1)) := (HGR.out.alloc _).kept hg1 (.inr (own_ne_own HOW.out HGR.out (by decide) g rfl))
                have hqn : Has w1 q 23 (R.map (·.1)).toArray := (HQ2.out.alloc _).grown hg1 (fun e => own_has_ne (HOW.out.alloc (.cells #[(Value.int .u8) (markI k (X.length + j))] 5)) (HQ2.out.alloc _) (by decide) e.symm)
                have hbn : Below base w w1 := Below.grown (HBR.out.alloc (by omega) _) hg1 (by simp; omega) (fun r hr => by cases hr; exact (HOW.out.lt g rfl).1)
                have hzn : w.heap.size ≤ w1.heap.size := Nat.le_trans (by simp; omega) hg1.size
                have HPn := Lib.hid hPn
                have HFn := Lib.hid hFn
                have HGn := Lib.hid hgn
                have HQn := Lib.hid hqn
                have HBn := Lib.hid hbn
                clear hPn hFn hgn hqn hbn hown1 hg1 hcv
                go_wp2
                go_roundw
                case rel => exact ⟨_, j + 1, d, rfl, by go_num, by omega, HPn, HFn.out, HGn.out, HQn.out, HBn.out, hzn⟩
                case measure => first | (simp [intOf]; done) | (simp [intOf]; omega)
              · have hce : c1 = X.length + j := by
                  have := (own_cap2 HOW.out).1
                  omega
                subst hce
                clear hn2 hfit
                go_wp2_with fail
                refine (mark_any k (X.length + j) _ _ _ (by rfl) (by omega) (by omega) (by omega)).mono ?_
                rintro e w9 ⟨rfl, rfl⟩
                go_wp2_with (at_builtin; refine wpList_append_grows _ rfl _ _ 23 rfl 5 i0 (.int .u8 0) 1 1 Tryz.underlying23 hi hz0 hz1 hz2 rfl (by decide) A1 (X.length + j) (X.length + j) ((M k (X.length + j)).map (Value.int .u8)) rfl ?d1 ?d2 ?d3 ⟨wr.heap.size, 0, none⟩ 1 1 [(Value.int .u8) (markI k (X.length + j))] rfl rfl ?d4 ?d5 ?d6 ?d7 ?d8 ?_)
                case d1 => exact (own_reads HOW.out).1
                case d2 => have := HOW.out.1; omega
                case d3 => exact (own_reads (HOW.out.alloc _)).2.2
                case d4 => exact one_new wr _ _
                case d5 => intro u hu; simp at hu; subst hu; rfl
                case d6 => omega
                case d7 => unfold maxLen; omega
                case d8 => omega
                intro v1 w1 hown1 hg1
                obtain ⟨g2, c2, rfl, hg21, hg22⟩ := own_form hown1 (by omega)
                obtain ⟨d1, hPn, hFn⟩ := grow_step (A := A1) (c := X.length + j) (Z1 := M k (X.length + (j + 1))) (X := X) hkF ((M_take (Nat.le_add_right _ _)).trans HXM.out.symm) (by rw [HZ.out]; omega) HZ.out rfl HPr.out HFr.out (by rw [HL1.out, HM1.out]; exact own_base hown1 (by simp)) (Nat.le_trans hbase hzr) hg1 ⟨_, _, rfl⟩
                have hgn : w1.ownsRow w.heap.size 23 1 gsv k ((F.take k).map (·.1)) := (HGR.out.alloc _).kept hg1 (by cases gsv.ownBlock with | none => exact .inl rfl | some r => exact .inr (by simp))
                have hqn : Has w1 q 23 (R.map (·.1)).toArray := (HQ2.out.alloc _).grown hg1 (by simp)
                have hbn : Below base w w1 := Below.grown (HBR.out.alloc (by omega) _) hg1 (by simp; omega) (fun r hr => by cases hr)
                have hzn : w.heap.size ≤ w1.heap.size := Nat.le_trans (by simp; omega) hg1.size
                have HPn := Lib.hid hPn
                have HFn := Lib.hid hFn
                have HGn := Lib.hid hgn
                have HQn := Lib.hid hqn
                have HBn := Lib.hid hbn
                clear hPn hFn hgn hqn hbn hown1 hg1 hcv
                go_wp2
                go_roundw
                case rel => exact ⟨_, j + 1, d1, rfl, by go_num, by omega, HPn, HFn.out, HGn.out, HQn.out, HBn.out, hzn⟩
                case measure => first | (simp [intOf]; done) | (simp [intOf]; omega)
            · obtain rfl : j = 64 := by omega
              obtain ⟨hPn, hTn⟩ := p1_step HP.out hltR HR.out (show Pair _ X (E k X).length _ d by unfold E; rw [M_len]; exact hPr.out)
              have HPn := Lib.hid hPn
              have HTn := Lib.hid hTn
              have HFr := Lib.hid hFr; clear hFr hPr hPn hTn
              have HGR := Lib.hid hgr; clear hgr
              have HQ2 := Lib.hid hqr; clear hqr
              have HBR := Lib.hid hbr; clear hbr hZ hcv
              go_wp2_with (at_builtin; refine wpList_append_own _ rfl _ _ 47 rfl w.heap.size 23 i1 (.slice none 0 0) 1 24 Tryz.underlying47 hj hy0 hy1 hy2 rfl (by decide) _ _ _ rfl (HGR.out.alloc _) ⟨wr.heap.size, 0, none⟩ 1 1 [.slice A1 (X.length + 64) c1] rfl rfl (one_new wr _ _) ?e2 ?e3 ?e4 ?e5 ?_)
              case e2 => first | rfl | (intro u hu; simp at hu; subst hu; rfl)
              case e3 => unfold maxLen; omega
              case e4 => omega
              case e5 => first | omega | (simp; omega)
              intro v1 w1 hown1 hg1 _
              have hFa : Farm (wr.alloc (.cells #[.slice A1 (X.length + 64) c1] 23)) base 5 (Value.int .u8) (F.set k (.slice A1 (X.length + 64) c1, M k (X.length + 64)) ++ (D ++ [d])) := HFr.out.below ((Below.refl _ _).alloc (Nat.le_refl _) _)
              have hFn := hFa.kept hg1 (fun i v z hiv => by
                cases hvb : v.ownBlock with
                | none => exact .inl rfl
                | some r => exact .inr fun he => own_ne_own (hFa.own i v z hiv) (HGR.out.alloc _) (by decide) r hvb he.symm)
              have hqn : Has w1 q 23 (R.map (·.1)).toArray := (HQ2.out.alloc _).grown hg1 (fun e => by have h1 := (HGR.out.lt q e.symm).1; omega)
              have hbn : Below base w w1 := Below.grown (HBR.out.alloc (by omega) _) hg1 (by simp; omega) (fun r hr => by have h1 := (HGR.out.lt r hr).1; omega)
              have hzn : w.heap.size ≤ w1.heap.size := Nat.le_trans (by simp; omega) hg1.size
              have HG1 : Hid (w1.ownsRow w.heap.size 23 1 v1 (k + 1) (((F.set k (.slice A1 (X.length + 64) c1, E k X)).take (k + 1)).map (·.1))) := by
                unfold Hid; rw [HTn.out, List.map_take]; exact hown1
              have HFn := Lib.hid hFn
              have HQn := Lib.hid hqn
              have HBn := Lib.hid hbn
              clear hFa hFn hqn hbn hown1 hg1
              go_wp2
              go_roundw
              case rel => exact ⟨_, k + 1, _, _, rfl, by go_num, by omega, HPn, HFn.out, HG1.out, HQn.out, HBn.out, hzn⟩
              case measure => first | (simp [intOf]; done) | (simp [intOf]; omega)
        · obtain rfl : k = rows.length := by omega
          have hFl : F.length = rows.length := by rw [HP.out.lenF]; omega
          have hgs2 : wr.ownsRow w.heap.size 23 1 gsv rows.length (F.map (·.1)) := by have := HGS.out; rw [List.take_of_length_le (by omega)] at this; exact this
          obtain ⟨gg, cg, rfl, hcg1, hcg2⟩ := own_form hgs2 hN0
          have HGS2 := Lib.hid hgs2; clear hgs2 HGS
          obtain ⟨wo, rfl⟩ : ∃ wo : World, wo = wr := ⟨_, rfl⟩
          have hrow : ∀ k, k < rows.length → ∃ (n g c c0 : Nat) (A0 : Option Addr), n ≤ 1000000000 ∧ wo.cell? ⟨gg, k, none⟩ = some (.slice (some ⟨g, 0, none⟩) (n + 64) c) ∧ wo.cell? ⟨q, k, none⟩ = some (.slice A0 n c0) ∧ n ≤ c0 ∧ c0 ≤ 9223372036854775807 ∧
              (∀ i, i < n + 64 → wo.cell? ⟨g, i, none⟩ = some ((Value.int .u8) (markI k i))) ∧ (∀ i, i < n → ∃ b, A0 = some ⟨b, 0, none⟩ ∧ wo.cell? ⟨b, i, none⟩ = some ((Value.int .u8) (markI k i))) := by
            intro k hk
            have hkR : k < R.length := by omega
            obtain ⟨⟨V, X⟩, hr⟩ : ∃ p, R[k]? = some p := ⟨_, List.getElem?_eq_getElem hkR⟩
            have hX : X.length ≤ 1000000000 := HBD.out (V, X) (List.mem_of_getElem? hr)
            have hXM : X = M k X.length := HCO.out k (V, X) hr
            obtain ⟨G, d, hFj, hDj, hPj⟩ := HP.out.done k (V, X) hk hr
            have hFD : (F ++ D)[k]? = some (G, M k (X.length + 64)) := by rw [List.getElem?_append_left (by omega)]; exact hFj
            obtain ⟨A, c, rfl, hc1, hc2, hA⟩ := HFm.out.form hFD
            rw [M_len] at hc1 hA
            obtain ⟨g, rfl⟩ := hA (by omega)
            have hcellG : ∀ i, i < X.length + 64 → wo.cell? ⟨g, i, none⟩ = some ((Value.int .u8) (markI k i)) := by
              intro i hi
              have h1 := (HFm.out.cell (t := i) hFD rfl (by rw [M_len]; exact hi)).1
              rw [h1, M_get hi]
            have hhdG : wo.cell? ⟨gg, k, none⟩ = some (.slice (some ⟨g, 0, none⟩) (X.length + 64) c) := by
              rw [HGS2.out.cellAt k (by omega), List.getElem?_map, hFj, M_len]; rfl
            have hhdV : wo.cell? ⟨q, k, none⟩ = some V := by rw [HQR.out.cell k]; simp [hr]
            rcases hPj with ⟨_, A0, c0, hV1, hG1⟩ | ⟨hd1, hd2, _⟩
            · simp only [Value.slice.injEq] at hG1
              obtain ⟨rfl, _, rfl⟩ := hG1
              simp only at hV1
              refine ⟨X.length, g, _, _, _, hX, hhdG, by rw [hhdV, hV1], by omega, by omega, hcellG, fun i hi => ⟨g, rfl, hcellG i (by omega)⟩⟩
            · simp only at hd1 hd2
              have hDk : (F ++ D)[F.length + k]? = some (V, X) := by
                rw [List.getElem?_append_right (by omega), Nat.add_sub_cancel_left, hDj, ← hd1, ← hd2]
              obtain ⟨A0, c0, hV1, h1, h2, h4⟩ := HFm.out.form hDk
              refine ⟨X.length, g, c, c0, A0, hX, hhdG, by rw [hhdV, hV1], h1, h2, hcellG, fun i hi => ?_⟩
              obtain ⟨b, rfl⟩ := h4 (by omega)
              subst hV1
              refine ⟨b, rfl, ?_⟩
              have h5 := (HFm.out.cell (t := i) hDk rfl hi).1
              rw [h5]
              have h6 : X[i] = markI k i := by
                have h7 : X[i]? = (M k X.length)[i]? := by rw [← hXM]
                rw [List.getElem?_eq_getElem hi, List.getElem?_eq_getElem (by rw [M_len]; exact hi)] at h7
                rw [Option.some.inj h7, M_get hi]
              rw [h6]
          have HROW := Lib.hid hrow
          clear hrow hFl HP HFm HGS2 HQR HCO HBD
          go_wp2
          go_loop [9] (fun i => ∃ k : Nat, i = .int .i64 k ∧ k ≤ rows.length) (fun i => rows.length - (intOf i).toNat)
          case atStart => exact ⟨0, rfl, Nat.zero_le _⟩
          case round =>
            obtain ⟨k, rfl, hk⟩ := hrel
            by_cases hlt3 : k < rows.length
            · obtain ⟨n, g, c, c0, A0, hn, hcg, hcv, hc1, hc2, hG, hV⟩ := HROW.out k hlt3
              have HG := Lib.hid hG
              have HV := Lib.hid hV
              clear hG hV
              go_wp2
              go_loop [10] (fun i => ∃ t : Nat, i = .int .i64 t ∧ t ≤ n + 64) (fun i => (n + 64) - (intOf i).toNat)
              case atStart => exact ⟨0, rfl, Nat.zero_le _⟩
              case round =>
                obtain ⟨t, rfl, ht⟩ := hrel
                by_cases htl : t < n + 64
                · have hct := HG.out t htl
                  by_cases htn : t < n
                  · obtain ⟨b, rfl, hcb⟩ := HV.out t htn
                    obtain ⟨x, hx⟩ : ∃ x, x = markI k t := ⟨_, rfl⟩
                    rw [← hx] at hct hcb
                    have HX := Lib.hid hx; clear hx
                    go_wp2_with fail
                    refine (mark_any k t _ _ _ (by rfl) (by rfl) (by omega) (by omega)).mono ?_
                    rintro e w9 ⟨rfl, rfl⟩
                    rw [← HX.out]
                    go_wp2
                    go_round
                    case rel => exact ⟨t + 1, by go_num, by omega⟩
                    case measure => first | (simp [intOf]; done) | (simp [intOf]; omega)
                  · obtain ⟨x, hx⟩ : ∃ x, x = markI k t := ⟨_, rfl⟩
                    rw [← hx] at hct
                    have HX := Lib.hid hx; clear hx
                    go_wp2_with fail
                    refine (mark_any k t _ _ _ (by rfl) (by rfl) (by omega) (by omega)).mono ?_
                    rintro e w9 ⟨rfl, rfl⟩
                    rw [← HX.out]
                    go_wp2
                    go_round
                    case rel => exact ⟨t + 1, by go_num, by omega⟩
                    case measure => first | (simp [intOf]; done) | (simp [intOf]; omega)
                · obtain rfl : t = n + 64 := by omega
                  go_wp2
                  go_round
                  case rel => exact ⟨k + 1, by go_num, by omega⟩
                  case measure => first | (simp [intOf]; done) | (simp [intOf]; omega)
            · obtain rfl : k = rows.length := by omega
              go_wp2
              go_ret
              exact ⟨rfl, HB.out⟩
end apartBytes
end Go.Proofs.YtdjippdcgfcfgaaGreatDoor
