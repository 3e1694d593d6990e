/- Rows that lie apart: a row put anew behind an append; a part of a row; rows of two element types. Plain. -/
import Derived.Test.YtdibfkcddcjiiaaFarm
namespace Go.Bus.farmK
open Go.RowKit Go.Bus
set_option linter.unusedVariables false
section
variable {α : Type} {w w' : World} {base : Nat} {e : TypeId} {f : α → Value} {R : List (Value × List α)}
theorem own_prefix {A : Option Addr} {m n c : Nat} {xs : List Value} (h : w.ownsRow base e 1 (.slice A m c) m xs) (hn : n ≤ m) : w.ownsRow base e 1 (.slice A n c) n (xs.take n) := by
  have hl := h.1
  refine ⟨by rw [List.length_take]; omega, ?_⟩
  rcases h.2 with ⟨h0, h1⟩ | ⟨g, cap, cur, hv, hb, hh, h1, h2, h3, h4⟩
  · simp only [Value.slice.injEq] at h0
    obtain ⟨rfl, rfl, rfl⟩ := h0
    obtain rfl : n = 0 := by omega
    exact .inl ⟨rfl, rfl⟩
  · simp only [Value.slice.injEq] at hv
    obtain ⟨rfl, _, rfl⟩ := hv
    refine .inr ⟨g, c, cur, rfl, hb, hh, by omega, h2, h3, ?_⟩
    rw [← h4, List.take_take, Nat.min_eq_left (by omega), Nat.mul_one]
theorem own_ne_own {base' : Nat} {t : TypeId} {s s' n m : Nat} {v u : Value} {xs ys : List Value} (h : w.ownsRow base e s v n xs) (h' : w.ownsRow base' t s' u m ys) (hne : e ≠ t) : ∀ q, v.ownBlock = some q → u.ownBlock ≠ some q := by
  intro q hq he
  rcases h.2 with ⟨rfl, _⟩ | ⟨g, cap, cur, rfl, _, hh, _⟩
  · simp [Value.ownBlock] at hq
  · rcases h'.2 with ⟨rfl, _⟩ | ⟨g', cap', cur', rfl, _, hh', _⟩
    · simp [Value.ownBlock] at he
    · have e1 : g = q := by simpa [Value.ownBlock] using hq
      have e2 : g' = q := by simpa [Value.ownBlock] using he
      subst e1; subst e2
      rw [hh] at hh'
      simp only [Option.some.injEq, Obj.cells.injEq] at hh'
      exact hne hh'.2.1
theorem Farm.lt {i : Nat} {v : Value} {z : List α} (h : Farm w base e f R) (hi : R[i]? = some (v, z)) : ∀ q, v.ownBlock = some q → base ≤ q ∧ q < w.heap.size := fun q hq => (h.own i v z hi).lt q hq
/-- Row i is another one now, in its own block or in a new one. -/
theorem Farm.put {i : Nat} {v v' : Value} {z z' : List α} (h : Farm w base e f R) (hi : R[i]? = some (v, z)) (ho : w'.ownsRow base e 1 v' z'.length (z'.map f)) (hg : w.grownBy w' v.ownBlock)
    (hb : v'.ownBlock = v.ownBlock ∨ ∀ q, v'.ownBlock = some q → w.heap.size ≤ q) : Farm w' base e f (R.set i (v', z')) := by
  have hil : i < R.length := (List.getElem?_eq_some_iff.1 hi).1
  have hother : ∀ (j : Nat) (u : Value) (y : List α), j ≠ i → R[j]? = some (u, y) → u.ownBlock = none ∨ u.ownBlock ≠ v.ownBlock := by
    intro j u y hji hj
    cases hu : u.ownBlock with
    | none => exact .inl rfl
    | some q => exact .inr fun he => h.apart j i u y v z hj hi hji q hu he.symm
  have hnew : ∀ (j : Nat) (u : Value) (y : List α), j ≠ i → R[j]? = some (u, y) → ∀ q, v'.ownBlock = some q → u.ownBlock ≠ some q := by
    intro j u y hji hj q hq hu
    rcases hb with hb | hb
    · exact h.apart j i u y v z hj hi hji q hu (by rw [← hb]; exact hq)
    · have h1 := hb q hq
      have h2 := (h.lt hj q hu).2
      omega
  have hget : ∀ (j : Nat) (p : Value × List α), (R.set i (v', z'))[j]? = some p → (j = i ∧ p = (v', z')) ∨ (j ≠ i ∧ R[j]? = some p) := by
    intro j p hj
    by_cases hji : j = i
    · subst hji
      rw [List.getElem?_set_self hil] at hj
      exact .inl ⟨rfl, (Option.some.inj hj).symm⟩
    · rw [List.getElem?_set_ne (Ne.symm hji)] at hj
      exact .inr ⟨hji, hj⟩
  constructor
  · intro j u y hj
    rcases hget j _ hj with ⟨_, hp⟩ | ⟨hji, hj⟩
    · simp only [Prod.mk.injEq] at hp; obtain ⟨rfl, rfl⟩ := hp; exact ho
    · exact (h.own j u y hj).kept hg (hother j u y hji hj)
  · intro j k u y u2 y2 hj hk hjk q hq
    rcases hget j _ hj with ⟨e1, hp⟩ | ⟨hji, hj'⟩ <;> rcases hget k _ hk with ⟨e2, hp2⟩ | ⟨hki, hk'⟩
    · omega
    · have e3 : u = v' := (Prod.mk.inj hp).1
      rw [e3] at hq
      exact hnew k u2 y2 hki hk' q hq
    · have e3 : u2 = v' := (Prod.mk.inj hp2).1
      rw [e3]
      intro he
      exact hnew j u y hji hj' q he hq
    · exact h.apart j k u y u2 y2 hj' hk' hjk q hq
theorem grown_any (h : w.grownBy w' none) (row : Option Nat) : w.grownBy w' row := ⟨h.os, h.tape, h.output, h.size, fun i hi _ => h.block i hi (by simp)⟩
theorem own_reads {A : Option Addr} {n c : Nat} {xs : List Value} (h : w.ownsRow base e 1 (.slice A n c) n xs) :
    (A = none → n = 0 ∧ c = 0) ∧ (0 < c → ∃ g, A = some ⟨g, 0, none⟩) ∧ (∀ b, A = some b → ∀ (j : Nat) (u : Value), xs[j]? = some u → w.cell? (b.add j) = some u) := by
  rcases h.2 with ⟨h0, h1⟩ | ⟨g, cap, cur, hv, hb, hh, h1, h2, h3, h4⟩
  · simp only [Value.slice.injEq] at h0
    obtain ⟨rfl, rfl, rfl⟩ := h0
    exact ⟨fun _ => ⟨rfl, rfl⟩, fun hc => by omega, fun b hb => by cases hb⟩
  · simp only [Value.slice.injEq] at hv
    obtain ⟨rfl, _, rfl⟩ := hv
    refine ⟨fun hn => by simp at hn, fun _ => ⟨g, rfl⟩, fun b hb j u hu => ?_⟩
    obtain rfl : (⟨g, 0, none⟩ : Addr) = b := by simpa using hb
    have hadd : ((⟨g, 0, none⟩ : Addr).add j) = ⟨g, j, none⟩ := by unfold Addr.add; split <;> simp_all
    rw [hadd, cell_of_row w g j cur e (0, 0) hh]
    rw [← h4, List.getElem?_take] at hu
    split at hu
    · simpa using hu
    · cases hu
/-- Row i moves into new memory; what it was, or a part of it, stays as row l, where none was. -/
theorem Farm.move {i l : Nat} {v v1 V u : Value} {z z1 Y y : List α} (h : Farm w base e f R) (hil : i ≠ l) (hi : R[i]? = some (v, z)) (hl : R[l]? = some (u, y)) (hu : u.ownBlock = none) (hg : w.grownBy w' none)
    (ho : w'.ownsRow base e 1 v1 z1.length (z1.map f)) (hb : ∀ q, v1.ownBlock = some q → w.heap.size ≤ q) (hV : w'.ownsRow base e 1 V Y.length (Y.map f)) (hVb : V.ownBlock = v.ownBlock) :
    Farm w' base e f ((R.set i (v1, z1)).set l (V, Y)) := by
  have hiL : i < R.length := (List.getElem?_eq_some_iff.1 hi).1
  have hlL : l < R.length := (List.getElem?_eq_some_iff.1 hl).1
  have hget : ∀ (j : Nat) (p : Value × List α), ((R.set i (v1, z1)).set l (V, Y))[j]? = some p → (j = l ∧ p = (V, Y)) ∨ (j = i ∧ j ≠ l ∧ p = (v1, z1)) ∨ (j ≠ i ∧ j ≠ l ∧ R[j]? = some p) := by
    intro j p hj
    by_cases hjl : j = l
    · subst hjl
      rw [List.getElem?_set_self (by rw [List.length_set]; exact hlL)] at hj
      exact .inl ⟨rfl, (Option.some.inj hj).symm⟩
    · rw [List.getElem?_set_ne (Ne.symm hjl)] at hj
      by_cases hji : j = i
      · subst hji
        rw [List.getElem?_set_self hiL] at hj
        exact .inr (.inl ⟨rfl, hjl, (Option.some.inj hj).symm⟩)
      · rw [List.getElem?_set_ne (Ne.symm hji)] at hj
        exact .inr (.inr ⟨hji, hjl, hj⟩)
  have old : ∀ (j : Nat) (x : Value) (t : List α), R[j]? = some (x, t) → ∀ q, v1.ownBlock = some q → x.ownBlock ≠ some q := by
    intro j x t hj q hq he
    have h1 := hb q hq
    have h2 := (h.lt hj q he).2
    omega
  constructor
  · intro j x t hj
    rcases hget j _ hj with ⟨_, hp⟩ | ⟨_, _, hp⟩ | ⟨_, _, hj'⟩
    · simp only [Prod.mk.injEq] at hp; obtain ⟨rfl, rfl⟩ := hp; exact hV
    · simp only [Prod.mk.injEq] at hp; obtain ⟨rfl, rfl⟩ := hp; exact ho
    · exact (h.own j x t hj').kept hg (by cases hx : x.ownBlock with | none => exact .inl rfl | some q => exact .inr (by simp))
  · intro j k x t x2 t2 hj hk hjk q hq
    rcases hget j _ hj with ⟨e1, hp⟩ | ⟨e1, n1, hp⟩ | ⟨n1, m1, hj'⟩ <;> rcases hget k _ hk with ⟨e2, hp2⟩ | ⟨e2, n2, hp2⟩ | ⟨n2, m2, hk'⟩
    · omega
    · have a1 : x = V := (Prod.mk.inj hp).1
      have a2 : x2 = v1 := (Prod.mk.inj hp2).1
      rw [a1, hVb] at hq
      rw [a2]
      intro he
      exact old i v z hi q he hq
    · have a1 : x = V := (Prod.mk.inj hp).1
      rw [a1, hVb] at hq
      exact h.apart i k v z x2 t2 hi hk' (Ne.symm n2) q hq
    · have a1 : x = v1 := (Prod.mk.inj hp).1
      have a2 : x2 = V := (Prod.mk.inj hp2).1
      rw [a1] at hq
      rw [a2, hVb]
      exact old i v z hi q hq
    · omega
    · have a1 : x = v1 := (Prod.mk.inj hp).1
      rw [a1] at hq
      exact old k x2 t2 hk' q hq
    · have a2 : x2 = V := (Prod.mk.inj hp2).1
      rw [a2, hVb]
      exact h.apart j i x t v z hj' hi n1 q hq
    · have a2 : x2 = v1 := (Prod.mk.inj hp2).1
      rw [a2]
      intro he
      exact old j x t hj' q he hq
    · exact h.apart j k x t x2 t2 hj' hk' hjk q hq
end
end Go.Bus.farmK
