/- Rows of the call's own that are written over and appended to: what busbarkit's Apart functions keep between two statements. Plain. -/
import Derived.Test.YtdibfkcddcjiiaaFarm2
namespace Go.Bus.apartG
open Go.RowKit Go.Bus Go.Bus.farmK
set_option linter.unusedVariables false
theorem own_cap2 {w : World} {base : Nat} {e : TypeId} {A : Option Addr} {n c : Nat} {xs : List Value} (h : w.ownsRow base e 1 (.slice A n c) n xs) : n ≤ c ∧ c ≤ 9223372036854775807 := by
  rcases h.2 with ⟨h0, h1⟩ | ⟨g, cap, cur, hv, _, _, h1, h2, _⟩
  · simp only [Value.slice.injEq] at h0
    obtain ⟨_, rfl, rfl⟩ := h0
    omega
  · simp only [Value.slice.injEq] at hv
    obtain ⟨_, _, rfl⟩ := hv
    exact ⟨h1, by unfold maxLen at h2; omega⟩
section
variable {α : Type} {f : α → Value} {e : TypeId}
/-- How a list V with content X lies to the same with more behind: in one block, or in d. -/
def Pair (V : Value) (X : List α) (m : Nat) (G : Value) (d : Value × List α) : Prop :=
  (d = (.slice none 0 0, []) ∧ ∃ A c, V = .slice A X.length c ∧ G = .slice A m c) ∨ (d.1 = V ∧ d.2 = X ∧ ∃ A c, G = .slice A m c)
structure P1 (E : Nat → List α → List α) (rows F D : List (Value × List α)) (k : Nat) : Prop where
  lenF : F.length = rows.length
  lenD : D.length = k
  done : ∀ (i : Nat) (p : Value × List α), i < k → rows[i]? = some p → ∃ (G : Value) (d : Value × List α), F[i]? = some (G, E i p.2) ∧ D[i]? = some d ∧ Pair p.1 p.2 (E i p.2).length G d
  todo : ∀ i, k ≤ i → F[i]? = rows[i]?
variable {w w1 : World} {base k m c : Nat} {F D : List (Value × List α)} {V gv v1 : Value} {X Z Z1 : List α} {d : Value × List α} {o : Obj} {A : Option Addr}
theorem at_k (hk : k < F.length) (p : Value × List α) (T : List (Value × List α)) : (F.set k p ++ T)[k]? = some p := by
  rw [List.getElem?_append_left (by rw [List.length_set]; exact hk), List.getElem?_set_self hk]
theorem set_k (hk : k < F.length) (p p1 : Value × List α) (T : List (Value × List α)) : (F.set k p ++ T).set k p1 = F.set k p1 ++ T := by
  rw [List.set_append_left _ _ (by rw [List.length_set]; exact hk), List.set_set]
theorem set_same {p : Value × List α} (hk : F[k]? = some p) : F.set k p = F := by
  have hl := (List.getElem?_eq_some_iff.1 hk).1
  apply List.ext_getElem?
  intro j
  by_cases hj : j = k
  · subst hj; rw [List.getElem?_set_self hl, hk]
  · rw [List.getElem?_set_ne (Ne.symm hj)]
theorem fit_step (hk : k < F.length) (h : Farm w base e f (F.set k (gv, Z) ++ (D ++ [d]))) (ho : w1.ownsRow base e 1 v1 Z1.length (Z1.map f)) (hg : (w.alloc o).grownBy w1 gv.ownBlock)
    (hb : v1.ownBlock = gv.ownBlock) : Farm w1 base e f (F.set k (v1, Z1) ++ (D ++ [d])) := by
  have h1 : Farm (w.alloc o) base e f (F.set k (gv, Z) ++ (D ++ [d])) := h.below ((Below.refl _ _).alloc (Nat.le_refl _) _)
  have h2 := h1.put (at_k hk _ _) ho hg (.inl hb)
  rw [set_k hk] at h2
  exact h2
theorem grow_step (hk : k < F.length) (hXZ : Z.take X.length = X) (hXl : X.length ≤ Z.length) (hm : Z.length = m) (hgv : gv = .slice A m c) (hV : Pair V X m gv d) (h : Farm w base e f (F.set k (gv, Z) ++ (D ++ [d])))
    (ho : w1.ownsRow (w.alloc o).heap.size e 1 v1 Z1.length (Z1.map f)) (hbase : base ≤ w.heap.size) (hg : (w.alloc o).grownBy w1 none) (hv1 : ∃ A c, v1 = .slice A (m + 1) c) :
    ∃ d1, Pair V X (m + 1) v1 d1 ∧ Farm w1 base e f (F.set k (v1, Z1) ++ (D ++ [d1])) := by
  have h1 : Farm (w.alloc o) base e f (F.set k (gv, Z) ++ (D ++ [d])) := h.below ((Below.refl _ _).alloc (Nat.le_refl _) _)
  have hbn : base ≤ (w.alloc o).heap.size := by simp; omega
  have hfresh : ∀ q, v1.ownBlock = some q → (w.alloc o).heap.size ≤ q := fun q hq => (ho.lt q hq).1
  rcases hV with ⟨hd, A0, c0, hV1, hV2⟩ | ⟨hd1, hd2, hd3⟩
  · subst hd
    have hi := at_k hk (gv, Z) (D ++ [(Value.slice none 0 0, [])])
    have hlen : (F.set k (gv, Z)).length = F.length := List.length_set
    have hl : (F.set k (gv, Z) ++ (D ++ [((Value.slice none 0 0 : Value), ([] : List α))]))[F.length + D.length]? = some (.slice none 0 0, []) := by
      rw [List.getElem?_append_right (by omega), hlen]
      simp
    have hgo := (h1.own k gv Z hi).kept hg (by cases gv.ownBlock with | none => exact .inl rfl | some q => exact .inr (by simp))
    have hgv2 : w1.ownsRow base e 1 (.slice A0 Z.length c0) Z.length (Z.map f) := by rw [hm]; rw [hV2] at hgo; rw [← hm] at hgo ⊢; exact hgo
    have hpre := own_prefix hgv2 hXl
    rw [← List.map_take, hXZ] at hpre
    have hVb : V.ownBlock = gv.ownBlock := by rw [hV1, hV2]; cases A0 <;> rfl
    have hmv := h1.move (i := k) (l := F.length + D.length) (by omega) hi hl rfl hg (own_base ho hbn) hfresh (V := V) (Y := X) (by rw [hV1]; exact hpre) hVb
    refine ⟨(V, X), .inr ⟨rfl, rfl, hv1⟩, ?_⟩
    rw [set_k hk] at hmv
    have e1 : (F.set k (v1, Z1) ++ (D ++ [((Value.slice none 0 0 : Value), ([] : List α))])).set (F.length + D.length) (V, X) = F.set k (v1, Z1) ++ (D ++ [(V, X)]) := by
      rw [List.set_append_right _ _ (by rw [List.length_set]; omega), List.length_set, Nat.add_sub_cancel_left, List.set_append_right _ _ (Nat.le_refl _), Nat.sub_self]; rfl
    rw [e1] at hmv
    exact hmv
  · refine ⟨d, .inr ⟨hd1, hd2, hv1⟩, ?_⟩
    have h2 := h1.put (at_k hk _ _) (own_base ho hbn) (grown_any hg _) (.inr hfresh)
    rw [set_k hk] at h2
    exact h2
end
section
variable {α : Type} {f : α → Value} {e : TypeId}
theorem p1_step {E : Nat → List α → List α} {rows F D : List (Value × List α)} {k : Nat} {V gv : Value} {X : List α} {d : Value × List α} (h : P1 E rows F D k) (hk : k < rows.length) (hr : rows[k]? = some (V, X)) (hp : Pair V X (E k X).length gv d) :
    P1 E rows (F.set k (gv, E k X)) (D ++ [d]) (k + 1) ∧ ((F.set k (gv, E k X)).take (k + 1)).map (·.1) = (F.take k).map (·.1) ++ [gv] := by
  have hkF : k < F.length := by rw [h.lenF]; exact hk
  refine ⟨⟨by rw [List.length_set]; exact h.lenF, by simp [h.lenD], fun i p hi hpi => ?_, fun i hi => ?_⟩, ?_⟩
  · by_cases hik : i = k
    · subst hik
      rw [hr] at hpi
      obtain rfl : (V, X) = p := Option.some.inj hpi
      exact ⟨gv, d, List.getElem?_set_self hkF, by rw [List.getElem?_append_right (by rw [h.lenD]; exact Nat.le_refl _), h.lenD]; simp, hp⟩
    · obtain ⟨G, d', h1, h2, h3⟩ := h.done i p (by omega) hpi
      exact ⟨G, d', by rw [List.getElem?_set_ne (Ne.symm hik)]; exact h1, by rw [List.getElem?_append_left (by rw [h.lenD]; omega)]; exact h2, h3⟩
  · rw [List.getElem?_set_ne (by omega)]
    exact h.todo i (by omega)
  · rw [List.take_succ_eq_append_getElem (by rw [List.length_set]; exact hkF), List.map_append, List.getElem_set_self]
    rw [List.take_set_of_le (Nat.le_refl _)]
    rfl
/-- The first k rows are written over: row j holds M j. -/
structure S0 (M : Nat → Nat → List α) (rows R : List (Value × List α)) (k : Nat) : Prop where
  heads : R.map (·.1) = rows.map (·.1)
  lens : R.map (fun p => p.2.length) = rows.map (fun p => p.2.length)
  done : ∀ (j : Nat) (p : Value × List α), j < k → R[j]? = some p → p.2 = M j p.2.length
theorem S0.at_ {M : Nat → Nat → List α} {rows R : List (Value × List α)} {k i : Nat} {p : Value × List α} (h : S0 M rows R k) (hp : rows[i]? = some p) : ∃ z, R[i]? = some (p.1, z) ∧ z.length = p.2.length := by
  have h1 := congrArg (fun l : List Value => l[i]?) h.heads
  have h2 := congrArg (fun l : List Nat => l[i]?) h.lens
  simp only [List.getElem?_map, hp, Option.map_some] at h1 h2
  cases hr : R[i]? with
  | none => rw [hr] at h1; simp at h1
  | some r =>
    rw [hr] at h1 h2
    simp only [Option.map_some, Option.some.injEq] at h1 h2
    exact ⟨r.2, by rw [← h1], h2⟩
theorem S0.next {M : Nat → Nat → List α} {rows R : List (Value × List α)} {k : Nat} {V : Value} {Y : List α} (h : S0 M rows R k) (hp : R[k]? = some (V, Y)) (hM : (M k Y.length).length = Y.length) : S0 M rows (R.set k (V, M k Y.length)) (k + 1) := by
  have hl := (List.getElem?_eq_some_iff.1 hp).1
  refine ⟨?_, ?_, fun j p hj hjp => ?_⟩
  · rw [← h.heads, List.map_set]
    refine List.ext_getElem? fun j => ?_
    by_cases hjk : j = k
    · subst hjk
      rw [List.getElem?_set_self (by rw [List.length_map]; exact hl), List.getElem?_map, hp]; rfl
    · rw [List.getElem?_set_ne (Ne.symm hjk)]
  · rw [← h.lens, List.map_set]
    refine List.ext_getElem? fun j => ?_
    by_cases hjk : j = k
    · subst hjk
      rw [List.getElem?_set_self (by rw [List.length_map]; exact hl), List.getElem?_map, hp]
      simp only [Option.map_some, hM]
    · rw [List.getElem?_set_ne (Ne.symm hjk)]
  · by_cases hjk : j = k
    · subst hjk
      rw [List.getElem?_set_self hl] at hjp
      obtain rfl := Option.some.inj hjp
      show M j Y.length = M j (M j Y.length).length
      rw [hM]
    · rw [List.getElem?_set_ne (Ne.symm hjk)] at hjp
      exact h.done j p (by omega) hjp
theorem fill_set {M : Nat → List α} {m : Nat → α} (hM : ∀ n, M n = (List.range n).map m) {Y : List α} {t : Nat} (ht : t < Y.length) : (M t ++ Y.drop t).set t (m t) = M (t + 1) ++ Y.drop (t + 1) := by
  have h : (Y.drop t).set 0 (m t) = m t :: Y.drop (t + 1) := by rw [List.drop_eq_getElem_cons ht]; rfl
  rw [hM, hM, List.set_append_right _ _ (by simp), List.range_succ, List.map_append]
  simp [h]
theorem fill_len {M : Nat → List α} {m : Nat → α} (hM : ∀ n, M n = (List.range n).map m) {Y : List α} {t : Nat} (ht : t ≤ Y.length) : (M t ++ Y.drop t).length = Y.length := by
  rw [hM]; simp; omega
end
end Go.Bus.apartG
