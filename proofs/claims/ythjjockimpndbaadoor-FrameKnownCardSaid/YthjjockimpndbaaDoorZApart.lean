/- busbarkit.ApartBools: rows of the call's own that lie apart are found so. Conditions: one row at least; no row is longer than 10^9. -/
import Derived.Test.YthjjockimpndbaaDoorZKit
import Derived.RegionTactic
import Derived.Deep.QuietTactic
import Derived.BigQuiet
import Derived.Maps.AppendAt
import Derived.ArgAppend
import Derived.Outline
namespace Go.Proofs.YthjjockimpndbaaDoor
open Go.RowKit Go.Bus Go.Bus.farmK Go.Bus.flipK
set_option linter.unusedVariables false
theorem Tryd.infoRow : (Tryd.prog.info? 48).map (fun i => (i.zero, i.size, i.bytes)) = some (some (.slice none 0 0), 1, 24) := by kernel_rfl
namespace apartK
abbrev BRow := Value × List Bool
def markM (i : Nat) : Bool := ((i : Int) % 2 == 0)
def marksM : List Bool := (List.range 64).map markM
theorem marksM_take (j : Nat) (h : j < 64) : marksM.take j ++ [markM j] = marksM.take (j + 1) := by
  have h1 : marksM[j]? = some (markM j) := by simp [marksM, h]
  rw [List.take_add_one, h1]; rfl
theorem marksM_all : marksM.take 64 = marksM := List.take_of_length_le (by simp [marksM])
/-- How a list lies to the same with marks behind: in one block, or in d. -/
def Pair (V : Value) (n m : Nat) (G : Value) (d : BRow) : Prop :=
  (d = (.slice none 0 0, []) ∧ ∃ A c, V = .slice A n c ∧ G = .slice A m c) ∨ (d.1 = V ∧ d.2.length = n ∧ ∃ A c, G = .slice A m c)
structure P1 (rows F D : List BRow) (k : Nat) : Prop where
  lenF : F.length = rows.length
  lenD : D.length = k
  done : ∀ (i : Nat) (p : BRow), i < k → rows[i]? = some p → ∃ (G : Value) (d : BRow), F[i]? = some (G, p.2 ++ marksM) ∧ D[i]? = some d ∧ Pair p.1 p.2.length (p.2.length + 64) G d
  todo : ∀ i, k ≤ i → F[i]? = rows[i]?

theorem own_cap2 {w : World} {base : Nat} {e : TypeId} {A : Option Addr} {n c : Nat} {xs : List Value} (h : w.ownsRow base e 1 (.slice A n c) n xs) : n ≤ c ∧ c ≤ 9223372036854775807 := by
  rcases h.2 with ⟨h0, h1⟩ | ⟨g, cap, cur, hv, _, _, h1, h2, _⟩
  · simp only [Value.slice.injEq] at h0
    obtain ⟨_, rfl, rfl⟩ := h0
    omega
  · simp only [Value.slice.injEq] at hv
    obtain ⟨_, _, rfl⟩ := hv
    exact ⟨h1, by unfold maxLen at h2; omega⟩
section
variable {w w1 : World} {base k m c : Nat} {F D : List BRow} {V gv v1 : Value} {X Z Z1 : List Bool} {d : BRow} {o : Obj} {A : Option Addr}
theorem at_k (hk : k < F.length) (p : BRow) (T : List BRow) : (F.set k p ++ T)[k]? = some p := by
  rw [List.getElem?_append_left (by rw [List.length_set]; exact hk), List.getElem?_set_self hk]
theorem set_k (hk : k < F.length) (p p1 : BRow) (T : List BRow) : (F.set k p ++ T).set k p1 = F.set k p1 ++ T := by
  rw [List.set_append_left _ _ (by rw [List.length_set]; exact hk), List.set_set]
theorem set_same {p : BRow} (hk : F[k]? = some p) : F.set k p = F := by
  have hl := (List.getElem?_eq_some_iff.1 hk).1
  apply List.ext_getElem?
  intro j
  by_cases hj : j = k
  · subst hj; rw [List.getElem?_set_self hl, hk]
  · rw [List.getElem?_set_ne (Ne.symm hj)]
theorem fit_step (hk : k < F.length) (h : Farm w base 4 Value.bool (F.set k (gv, Z) ++ (D ++ [d]))) (ho : w1.ownsRow base 4 1 v1 Z1.length (Z1.map Value.bool)) (hg : (w.alloc o).grownBy w1 gv.ownBlock)
    (hb : v1.ownBlock = gv.ownBlock) : Farm w1 base 4 Value.bool (F.set k (v1, Z1) ++ (D ++ [d])) := by
  have h1 : Farm (w.alloc o) base 4 Value.bool (F.set k (gv, Z) ++ (D ++ [d])) := h.below ((Below.refl _ _).alloc (Nat.le_refl _) _)
  have h2 := h1.put (at_k hk _ _) ho hg (.inl hb)
  rw [set_k hk] at h2
  exact h2
theorem grow_step (hk : k < F.length) (hXZ : Z.take X.length = X) (hXl : X.length ≤ Z.length) (hm : Z.length = m) (hgv : gv = .slice A m c) (hV : Pair V X.length m gv d) (h : Farm w base 4 Value.bool (F.set k (gv, Z) ++ (D ++ [d])))
    (ho : w1.ownsRow (w.alloc o).heap.size 4 1 v1 Z1.length (Z1.map Value.bool)) (hbase : base ≤ w.heap.size) (hg : (w.alloc o).grownBy w1 none) (hv1 : ∃ A c, v1 = .slice A (m + 1) c) :
    ∃ d1, Pair V X.length (m + 1) v1 d1 ∧ Farm w1 base 4 Value.bool (F.set k (v1, Z1) ++ (D ++ [d1])) := by
  have h1 : Farm (w.alloc o) base 4 Value.bool (F.set k (gv, Z) ++ (D ++ [d])) := h.below ((Below.refl _ _).alloc (Nat.le_refl _) _)
  have hbn : base ≤ (w.alloc o).heap.size := by simp; omega
  have hfresh : ∀ q, v1.ownBlock = some q → (w.alloc o).heap.size ≤ q := fun q hq => (ho.lt q hq).1
  rcases hV with ⟨hd, A0, c0, hV1, hV2⟩ | ⟨hd1, hd2, hd3⟩
  · subst hd
    have hi := at_k hk (gv, Z) (D ++ [(Value.slice none 0 0, [])])
    have hlen : (F.set k (gv, Z)).length = F.length := List.length_set
    have hl : (F.set k (gv, Z) ++ (D ++ [((Value.slice none 0 0 : Value), ([] : List Bool))]))[F.length + D.length]? = some (.slice none 0 0, []) := by
      rw [List.getElem?_append_right (by omega), hlen]
      simp
    have hgo := (h1.own k gv Z hi).kept hg (by cases gv.ownBlock with | none => exact .inl rfl | some q => exact .inr (by simp))
    have hgv2 : w1.ownsRow base 4 1 (.slice A0 Z.length c0) Z.length (Z.map Value.bool) := by rw [hm]; rw [hV2] at hgo; rw [← hm] at hgo ⊢; exact hgo
    have hpre := own_prefix hgv2 hXl
    rw [← List.map_take, hXZ] at hpre
    have hVb : V.ownBlock = gv.ownBlock := by rw [hV1, hV2]; cases A0 <;> rfl
    have hmv := h1.move (i := k) (l := F.length + D.length) (by omega) hi hl rfl hg (own_base ho hbn) hfresh (V := V) (Y := X) (by rw [hV1]; exact hpre) hVb
    refine ⟨(V, X), .inr ⟨rfl, rfl, hv1⟩, ?_⟩
    rw [set_k hk] at hmv
    have e1 : (F.set k (v1, Z1) ++ (D ++ [((Value.slice none 0 0 : Value), ([] : List Bool))])).set (F.length + D.length) (V, X) = F.set k (v1, Z1) ++ (D ++ [(V, X)]) := by
      rw [List.set_append_right _ _ (by rw [List.length_set]; omega), List.length_set, Nat.add_sub_cancel_left, List.set_append_right _ _ (Nat.le_refl _), Nat.sub_self]; rfl
    rw [e1] at hmv
    exact hmv
  · refine ⟨d, .inr ⟨hd1, hd2, hv1⟩, ?_⟩
    have h2 := h1.put (at_k hk _ _) (own_base ho hbn) (grown_any hg _) (.inr hfresh)
    rw [set_k hk] at h2
    exact h2
end

theorem p1_step {rows F D : List BRow} {k : Nat} {V gv : Value} {X : List Bool} {d : BRow} (h : P1 rows F D k) (hk : k < rows.length) (hr : rows[k]? = some (V, X)) (hp : Pair V X.length (X.length + 64) gv d) :
    P1 rows (F.set k (gv, X ++ marksM)) (D ++ [d]) (k + 1) ∧ ((F.set k (gv, X ++ marksM)).take (k + 1)).map (·.1) = (F.take k).map (·.1) ++ [gv] := by
  have hkF : k < F.length := by rw [h.lenF]; exact hk
  refine ⟨⟨by rw [List.length_set]; exact h.lenF, by simp [h.lenD], fun i p hi hpi => ?_, fun i hi => ?_⟩, ?_⟩
  · by_cases hik : i = k
    · subst hik
      rw [hr] at hpi
      obtain rfl : (V, X) = p := Option.some.inj hpi
      exact ⟨gv, d, List.getElem?_set_self hkF, by rw [List.getElem?_append_right (by rw [h.lenD]; exact Nat.le_refl _), h.lenD]; simp, hp⟩
    · obtain ⟨G, d', h1, h2, h3⟩ := h.done i p (by omega) hpi
      exact ⟨G, d', by rw [List.getElem?_set_ne (Ne.symm hik)]; exact h1, by rw [List.getElem?_append_left (by rw [h.lenD]; omega)]; exact h2, h3⟩
  · rw [List.getElem?_set_ne (by omega)]
    exact h.todo i (by omega)
  · rw [List.take_succ_eq_append_getElem (by rw [List.length_set]; exact hkF), List.map_append, List.getElem_set_self]
    rw [List.take_set_of_le (Nat.le_refl _)]
    rfl

theorem set_at {α : Type} {l : List α} {i : Nat} {x : α} (h : l[i]? = some x) : l.set i x = l := by
  have hl := (List.getElem?_eq_some_iff.1 h).1
  apply List.ext_getElem?
  intro j
  by_cases hj : j = i
  · subst hj; rw [List.getElem?_set_self hl, h]
  · rw [List.getElem?_set_ne (Ne.symm hj)]
def Shape (R S : List BRow) : Prop := R.map (·.1) = S.map (·.1) ∧ R.map (fun p => p.2.length) = S.map (fun p => p.2.length)
theorem Shape.refl (R : List BRow) : Shape R R := ⟨rfl, rfl⟩
theorem Shape.at_ {R S : List BRow} (h : Shape R S) {i : Nat} {p : BRow} (hp : S[i]? = some p) : ∃ z, R[i]? = some (p.1, z) ∧ z.length = p.2.length := by
  have h1 := congrArg (fun l : List Value => l[i]?) h.1
  have h2 := congrArg (fun l : List Nat => l[i]?) h.2
  simp only [List.getElem?_map, hp, Option.map_some] at h1 h2
  cases hr : R[i]? with
  | none => rw [hr] at h1; simp at h1
  | some r =>
    rw [hr] at h1 h2
    simp only [Option.map_some, Option.some.injEq] at h1 h2
    exact ⟨r.2, by rw [← h1], h2⟩

theorem Shape.set_ {R S : List BRow} (h : Shape R S) {i : Nat} {p p' : BRow} (hp : R[i]? = some p) (h1 : p'.1 = p.1) (h2 : p'.2.length = p.2.length) : Shape (R.set i p') S := by
  refine ⟨?_, ?_⟩
  · rw [← h.1, List.map_set, h1]
    exact set_at (by rw [List.getElem?_map, hp]; rfl)
  · rw [← h.2, List.map_set, h2]
    exact set_at (by rw [List.getElem?_map, hp]; rfl)
theorem farm_left {w : World} {base : Nat} {R S : List BRow} (h : Farm w base 4 Value.bool (R ++ S)) : Farm w base 4 Value.bool R :=
  ⟨fun i v z hi => h.own i v z (by rw [List.getElem?_append_left (List.getElem?_eq_some_iff.1 hi).1]; exact hi),
    fun i j v z u y hi hj hij => h.apart i j v z u y (by rw [List.getElem?_append_left (List.getElem?_eq_some_iff.1 hi).1]; exact hi) (by rw [List.getElem?_append_left (List.getElem?_eq_some_iff.1 hj).1]; exact hj) hij⟩

set_option maxRecDepth 100000 in
set_option maxHeartbeats 8000000 in
theorem apart_any (q base : Nat) (rows : List BRow) (w : World) (hq : Has w q 48 (rows.map (·.1)).toArray) (hF : Farm w base 4 Value.bool rows) (hbase : base ≤ w.heap.size) (hN : rows.length ≤ 1000000) (hN0 : 0 < rows.length) (hlen : ∀ p ∈ rows, p.2.length ≤ 1000000000) :
    Calls Tryd.prog 22 #[.slice (some ⟨q, 0, none⟩) rows.length rows.length] w fun e w' => e = .returned (.bool true) ∧ Below base w w' := by
  obtain ⟨i0, hi, hz0, hz1, hz2⟩ := info_parts Tryd.infoBool
  obtain ⟨i1, hj, hy0, hy1, hy2⟩ := info_parts Tryd.infoRow
  have hcell : ∀ (i : Nat) (p : BRow), rows[i]? = some p → w.cell? ⟨q, i, none⟩ = some p.1 := fun i p hp => by
    rw [hq.cell i]; simp [hp]
  have HC := Lib.hid hcell
  have HQ := Lib.hid hq
  have HF := Lib.hid hF
  have HL := Lib.hid hlen
  clear hcell hq hF hlen
  go_enter Tryd.func22, Tryd.ntmps22
  go_wp2
  go_loopw [3, 4] (fun gsv' i wr => ∃ (gsv : Value) (k : Nat) (F D : List BRow), gsv = gsv' ∧ i = .int .i64 k ∧ k ≤ rows.length ∧ P1 rows F D k ∧ Farm wr base 4 Value.bool (F ++ D) ∧ wr.ownsRow w.heap.size 48 1 gsv k ((F.take k).map (·.1)) ∧ Has wr q 48 (rows.map (·.1)).toArray ∧ Below base w wr ∧ w.heap.size ≤ wr.heap.size) (fun _ i _ => rows.length - (intOf i).toNat)
  case atStart => exact ⟨_, 0, rows, [], rfl, rfl, Nat.zero_le _, ⟨rfl, rfl, fun i p h => absurd h (by omega), fun i _ => rfl⟩, by simpa using HF.out, World.ownsRow_nil _ _ _ _, HQ.out, Below.refl _ _, Nat.le_refl _⟩
  case round =>
    obtain ⟨gsv, k, F, D, rfl, rfl, hk, hP, hFm, hgs, hqr, hbel, hsz⟩ := hrel
    have HP := Lib.hid hP; clear hP
    have HFm := Lib.hid hFm; clear hFm
    have HGS := Lib.hid hgs; clear hgs
    have HQR := Lib.hid hqr; clear hqr
    have HB := Lib.hid hbel; clear hbel
    by_cases hlt : k < rows.length
    · obtain ⟨⟨V, X⟩, hr⟩ : ∃ p, rows[k]? = some p := ⟨_, List.getElem?_eq_getElem hlt⟩
      have hX : X.length ≤ 1000000000 := HL.out (V, X) (List.mem_of_getElem? hr)
      have hFk : (F ++ D)[k]? = some (V, X) := by
        rw [List.getElem?_append_left (by rw [HP.out.lenF]; exact hlt), HP.out.todo k (Nat.le_refl _)]; exact hr
      obtain ⟨A, c, rfl, hc1, hc2, hA⟩ := HFm.out.form hFk
      have hcv : wr.cell? ⟨q, k, none⟩ = some (.slice A X.length c) := by
        rw [HQR.out.cell k]; simp [hr]
      have HFK := Lib.hid hFk
      have HR := Lib.hid hr
      clear hFk hr hA
      obtain ⟨wo, rfl⟩ : ∃ wo : World, wo = wr := ⟨_, rfl⟩
      have hkF : k < F.length := by rw [HP.out.lenF]; exact hlt
      have hdl : D.length = k := HP.out.lenD
      have h0 : Farm wo base 4 Value.bool (F.set k (.slice A X.length c, X ++ marksM.take 0) ++ (D ++ [((Value.slice none 0 0 : Value), ([] : List Bool))])) := by
        have e1 : F.set k (.slice A X.length c, X ++ marksM.take 0) = F := by
          have hk2 : F[k]? = some (.slice A X.length c, X) := by rw [HP.out.todo k (Nat.le_refl _)]; exact HR.out
          apply List.ext_getElem?
          intro j
          by_cases hj : j = k
          · subst hj; rw [List.getElem?_set_self hkF, hk2]; simp
          · rw [List.getElem?_set_ne (Ne.symm hj)]
        rw [e1, ← List.append_assoc]
        exact HFm.out.snoc (World.ownsRow_nil _ _ _ _) (fun i u y q _ _ => by simp [Value.ownBlock])
      have H0 := Lib.hid h0; clear h0
      go_wp2
      go_loopw [5, 6] (fun gv' i wr => ∃ (gv : Value) (j : Nat) (d : BRow), gv = gv' ∧ i = .int .i64 j ∧ j ≤ 64 ∧ Hid (Pair (.slice A X.length c) X.length (X.length + j) gv d) ∧ Farm wr base 4 Value.bool (F.set k (gv, X ++ marksM.take j) ++ (D ++ [d])) ∧
          wr.ownsRow w.heap.size 48 1 gsv k ((F.take k).map (·.1)) ∧ Has wr q 48 (rows.map (·.1)).toArray ∧ Below base w wr ∧ w.heap.size ≤ wr.heap.size) (fun _ i _ => 64 - (intOf i).toNat)
      case atStart => exact ⟨_, 0, _, rfl, rfl, Nat.zero_le _, Lib.hid (.inl ⟨rfl, A, c, rfl, rfl⟩), H0.out, HGS.out, HQR.out, HB.out, hsz⟩
      case round =>
        clear H0
        obtain ⟨gv, j, d, rfl, rfl, hj64, hPr, hFr, hgr, hqr, hbr, hzr⟩ := hrel
        obtain ⟨A1, c1, rfl⟩ : ∃ A1 c1, gv = .slice A1 (X.length + j) c1 := by
          rcases hPr.out with ⟨_, A1, c1, _, h⟩ | ⟨_, _, A1, c1, h⟩ <;> exact ⟨A1, c1, h⟩
        have hZ : (X ++ marksM.take j).length = X.length + j := by rw [List.length_append, List.length_take]; simp [marksM]; omega
        have hZ1 : X ++ marksM.take j ++ [markM j] = X ++ marksM.take j ++ [markM j] := rfl
        by_cases hlt2 : j < 64
        · have hown := hFr.own k _ _ (at_k hkF _ _)
          have hrd := own_reads (by rw [hZ] at hown; exact hown)
          obtain ⟨hn1, hn2, hn3⟩ := hrd
          have hMM : X ++ marksM.take j ++ [markM j] = X ++ marksM.take (j + 1) := by rw [List.append_assoc, marksM_take j hlt2]
          have HPr := Lib.hid hPr.out; clear hPr
          have HFr := Lib.hid hFr; clear hFr
          have HGR := Lib.hid hgr; clear hgr
          have HQ2 := Lib.hid hqr; clear hqr
          have HBR := Lib.hid hbr; clear hbr
          have hl1 : (X ++ marksM.take (j + 1)).length = X.length + j + 1 := by rw [← hMM, List.length_append, hZ]; rfl
          have hm1 : (X ++ marksM.take (j + 1)).map Value.bool = List.map Value.bool X ++ (List.take j (List.map Value.bool marksM) ++ [Value.bool (markM j)]) := by
            rw [← hMM, List.map_append, List.map_append, List.map_take, List.append_assoc]; rfl
          have HL1 := Lib.hid hl1; clear hl1
          have HM1 := Lib.hid hm1; clear hm1 hMM
          have HZ := Lib.hid hZ
          have HN3 := Lib.hid hn3; clear hn3
          have HN1 := Lib.hid hn1; clear hn1
          rw [hZ] at hown
          have HOW := Lib.hid hown; clear hown hZ1
          by_cases hfit : X.length + j < c1
          · obtain ⟨g, rfl⟩ := hn2 (by omega)
            have HHB := Lib.hid hZ; clear hZ
            go_wp2_with (at_builtin; refine wpList_append_fits _ rfl _ _ 48 rfl base 4 i0 1 Tryd.underlying48 hi hz1 g (X.length + j) c1 ((X ++ marksM.take j).map Value.bool) rfl (HOW.out.alloc _) ⟨wr.heap.size, 0, none⟩ 1 1 [.bool (markM j)] rfl rfl ?c1 ?c2 ?c3 ?_)
            case c1 => exact one_new wr _ _
            case c2 => intro u hu; simp at hu; subst hu; rfl
            case c3 => omega
            intro w1 hown1 hg1
            have hPn : Pair (.slice A X.length c) X.length (X.length + (j + 1)) (.slice (some ⟨g, 0, none⟩) (X.length + j + 1) c1) d := by
              rcases HPr.out with ⟨hd, A0, c0, hV1, hV2⟩ | ⟨hd1, hd2, _⟩
              · simp only [Value.slice.injEq] at hV2
                obtain ⟨rfl, _, rfl⟩ := hV2
                exact .inl ⟨hd, _, _, hV1, rfl⟩
              · exact .inr ⟨hd1, hd2, _, _, rfl⟩
            have hFn := fit_step (v1 := .slice (some ⟨g, 0, none⟩) (X.length + j + 1) c1) (Z1 := X ++ marksM.take (j + 1)) hkF HFr.out (by rw [HL1.out, HM1.out]; exact hown1) hg1 rfl
            have hgn : w1.ownsRow w.heap.size 48 1 gsv k ((F.take k).map (·.1)) := (HGR.out.alloc _).kept hg1 (.inr (own_ne_own HOW.out HGR.out (by decide) g rfl))
            have hqn : Has w1 q 48 (rows.map (·.1)).toArray := (HQ2.out.alloc _).grown hg1 (fun e => own_has_ne (HOW.out.alloc (.cells #[.bool (markM j)] 4)) (HQ2.out.alloc _) (by decide) e.symm)
            have hbn : Below base w w1 := Below.grown (HBR.out.alloc (by omega) _) hg1 (by simp; omega) (fun r hr => by cases hr; exact (HOW.out.lt g rfl).1)
            have hzn : w.heap.size ≤ w1.heap.size := Nat.le_trans (by simp; omega) hg1.size
            have HPn := Lib.hid hPn
            have HFn := Lib.hid hFn
            have HGn := Lib.hid hgn
            have HQn := Lib.hid hqn
            have HBn := Lib.hid hbn
            clear hPn hFn hgn hqn hbn hown1 hg1
            go_wp2
            go_roundw
            case rel => exact ⟨_, j + 1, d, rfl, by go_num, by omega, HPn, HFn.out, HGn.out, HQn.out, HBn.out, hzn⟩
            case measure => first | (simp [intOf]; done) | (simp [intOf]; omega)
          · have hce : c1 = X.length + j := by
              have := (own_cap2 HOW.out).1
              omega
            subst hce
            have HHB := Lib.hid hZ; clear hZ hn2 hfit
            go_wp2_with (at_builtin; refine wpList_append_grows _ rfl _ _ 48 rfl 4 i0 (.bool false) 1 1 Tryd.underlying48 hi hz0 hz1 hz2 rfl (by decide) A1 (X.length + j) (X.length + j) ((X ++ marksM.take j).map Value.bool) rfl ?d1 ?d2 ?d3 ⟨wr.heap.size, 0, none⟩ 1 1 [.bool (markM j)] rfl rfl ?d4 ?d5 ?d6 ?d7 ?d8 ?_)
            case d1 => exact (own_reads HOW.out).1
            case d2 => have := HOW.out.1; omega
            case d3 => exact (own_reads (HOW.out.alloc _)).2.2
            case d4 => exact one_new wr _ _
            case d5 => intro u hu; simp at hu; subst hu; rfl
            case d6 => omega
            case d7 => unfold maxLen; omega
            case d8 => omega
            intro v1 w1 hown1 hg1
            obtain ⟨g2, c2, rfl, hg21, hg22⟩ := own_form hown1 (by omega)
            obtain ⟨d1, hPn, hFn⟩ := grow_step (A := A1) (c := X.length + j) (Z1 := X ++ marksM.take (j + 1)) (X := X) hkF (List.take_left' rfl) (by rw [HZ.out]; omega) HZ.out rfl HPr.out HFr.out (by rw [HL1.out, HM1.out]; exact own_base hown1 (by simp)) (Nat.le_trans hbase hzr) hg1 ⟨_, _, rfl⟩
            have hgn : w1.ownsRow w.heap.size 48 1 gsv k ((F.take k).map (·.1)) := (HGR.out.alloc _).kept hg1 (by cases gsv.ownBlock with | none => exact .inl rfl | some r => exact .inr (by simp))
            have hqn : Has w1 q 48 (rows.map (·.1)).toArray := (HQ2.out.alloc _).grown hg1 (by simp)
            have hbn : Below base w w1 := Below.grown (HBR.out.alloc (by omega) _) hg1 (by simp; omega) (fun r hr => by cases hr)
            have hzn : w.heap.size ≤ w1.heap.size := Nat.le_trans (by simp; omega) hg1.size
            have HPn := Lib.hid hPn
            have HFn := Lib.hid hFn
            have HGn := Lib.hid hgn
            have HQn := Lib.hid hqn
            have HBn := Lib.hid hbn
            clear hPn hFn hgn hqn hbn hown1 hg1
            go_wp2
            go_roundw
            case rel => exact ⟨_, j + 1, d1, rfl, by go_num, by omega, HPn, HFn.out, HGn.out, HQn.out, HBn.out, hzn⟩
            case measure => first | (simp [intOf]; done) | (simp [intOf]; omega)
        · obtain rfl : j = 64 := by omega
          rw [marksM_all] at hFr
          obtain ⟨hPn, hTn⟩ := p1_step HP.out hlt HR.out hPr.out
          have HPn := Lib.hid hPn
          have HTn := Lib.hid hTn
          have HFr := Lib.hid hFr; clear hFr hPr hPn hTn
          have HGR := Lib.hid hgr; clear hgr
          have HQ2 := Lib.hid hqr; clear hqr
          have HBR := Lib.hid hbr; clear hbr hZ hZ1
          go_wp2_with (at_builtin; refine wpList_append_own _ rfl _ _ 55 rfl w.heap.size 48 i1 (.slice none 0 0) 1 24 Tryd.underlying55 hj hy0 hy1 hy2 rfl (by decide) _ _ _ rfl (HGR.out.alloc _) ⟨wr.heap.size, 0, none⟩ 1 1 [.slice A1 (X.length + 64) c1] rfl rfl (one_new wr _ _) ?e2 ?e3 ?e4 ?e5 ?_)
          case e2 => first | rfl | (intro u hu; simp at hu; subst hu; rfl)
          case e3 => unfold maxLen; omega
          case e4 => omega
          case e5 => first | omega | (simp; omega)
          intro v1 w1 hown1 hg1 _
          have hFa : Farm (wr.alloc (.cells #[.slice A1 (X.length + 64) c1] 48)) base 4 Value.bool (F.set k (.slice A1 (X.length + 64) c1, X ++ marksM) ++ (D ++ [d])) := HFr.out.below ((Below.refl _ _).alloc (Nat.le_refl _) _)
          have hFn := hFa.kept hg1 (fun i v z hiv => by
            cases hvb : v.ownBlock with
            | none => exact .inl rfl
            | some r => exact .inr fun he => own_ne_own (hFa.own i v z hiv) (HGR.out.alloc _) (by decide) r hvb he.symm)
          have hqn : Has w1 q 48 (rows.map (·.1)).toArray := (HQ2.out.alloc _).grown hg1 (fun e => by have h1 := (HGR.out.lt q e.symm).1; have h2 := HQ.out.lt; omega)
          have hbn : Below base w w1 := Below.grown (HBR.out.alloc (by omega) _) hg1 (by simp; omega) (fun r hr => by have h1 := (HGR.out.lt r hr).1; omega)
          have hzn : w.heap.size ≤ w1.heap.size := Nat.le_trans (by simp; omega) hg1.size
          have HG1 : Hid (w1.ownsRow w.heap.size 48 1 v1 (k + 1) (((F.set k (.slice A1 (X.length + 64) c1, X ++ marksM)).take (k + 1)).map (·.1))) := by
            unfold Hid; rw [HTn.out, List.map_take]; exact hown1
          have HFn := Lib.hid hFn
          have HQn := Lib.hid hqn
          have HBn := Lib.hid hbn
          clear hFa hFn hqn hbn hown1 hg1
          go_wp2
          go_roundw
          case rel => exact ⟨_, k + 1, _, _, rfl, by go_num, by omega, HPn.out, HFn.out, HG1.out, HQn.out, HBn.out, hzn⟩
          case measure => first | (simp [intOf]; done) | (simp [intOf]; omega)
    · obtain rfl : k = rows.length := by omega
      have hFl : F.length = rows.length := HP.out.lenF
      have hgs2 : wr.ownsRow w.heap.size 48 1 gsv rows.length (F.map (·.1)) := by have := HGS.out; rw [List.take_of_length_le (by omega)] at this; exact this
      have HGS2 := Lib.hid hgs2; clear hgs2 HGS
      obtain ⟨wo, rfl⟩ : ∃ wo : World, wo = wr := ⟨_, rfl⟩
      obtain ⟨gg, cg, rfl, hcg1, hcg2⟩ := own_form HGS2.out hN0
      go_wp2
      go_loopw [7] (fun i wr => ∃ (k : Nat) (R : List BRow), i = .int .i64 k ∧ k ≤ rows.length ∧ Hid (Shape R (F ++ D)) ∧ Farm wr base 4 Value.bool R ∧ wr.ownsRow w.heap.size 48 1 (.slice (some ⟨gg, 0, none⟩) rows.length cg) rows.length (F.map (·.1)) ∧ Has wr q 48 (rows.map (·.1)).toArray ∧ Below base w wr ∧ w.heap.size ≤ wr.heap.size) (fun i _ => rows.length - (intOf i).toNat)
      case atStart => exact ⟨0, F ++ D, rfl, Nat.zero_le _, Lib.hid (Shape.refl _), HFm.out, HGS2.out, HQR.out, HB.out, hsz⟩
      case round =>
        clear HGS2 HQR HB hsz HFm hk
        obtain ⟨k, R, rfl, hk, hSh, hFm, hgs, hqr, hbel, hsz⟩ := hrel
        obtain ⟨wo, rfl⟩ : ∃ wo : World, wo = wr := ⟨_, rfl⟩
        by_cases hlt : k < rows.length
        · have HFm := Lib.hid hFm; clear hFm
          have HGS := Lib.hid hgs; clear hgs
          have HQR := Lib.hid hqr; clear hqr
          have HB := Lib.hid hbel; clear hbel
          go_wp2
          go_loopw [8, 9] (fun was' i wr => ∃ (was : Value) (j : Nat) (Wl : List BRow), was = was' ∧ i = .int .i64 j ∧ j ≤ rows.length ∧ Hid (Wl.map (·.2) = (R.take j).map (·.2)) ∧ Farm wr base 4 Value.bool (R ++ Wl) ∧ wr.ownsRow wo.heap.size 48 1 was j (Wl.map (·.1)) ∧
            wr.ownsRow w.heap.size 48 1 (.slice (some ⟨gg, 0, none⟩) rows.length cg) rows.length (F.map (·.1)) ∧ Has wr q 48 (rows.map (·.1)).toArray ∧ Below base w wr ∧ wo.heap.size ≤ wr.heap.size) (fun _ i _ => rows.length - (intOf i).toNat)
          case atStart => exact ⟨_, 0, [], rfl, rfl, Nat.zero_le _, Lib.hid rfl, by simpa using HFm.out, World.ownsRow_nil _ _ _ _, HGS.out, HQR.out, HB.out, Nat.le_refl _⟩
          case round =>
            obtain ⟨was, j, Wl, rfl, rfl, hjN, hWl, hFw, hwas, hgs, hqr, hbel, hsz2⟩ := hrel
            have HFw := Lib.hid hFw; clear hFw
            have HWA := Lib.hid hwas; clear hwas
            have HG2 := Lib.hid hgs; clear hgs
            have HQ2 := Lib.hid hqr; clear hqr
            have HB2 := Lib.hid hbel; clear hbel
            obtain ⟨wp, rfl⟩ : ∃ wp : World, wp = wr := ⟨_, rfl⟩
            by_cases hjl : j < rows.length
            · obtain ⟨⟨V, X⟩, hr⟩ : ∃ p, rows[j]? = some p := ⟨_, List.getElem?_eq_getElem hjl⟩
              obtain ⟨G, d, hFj, hDj, hPj⟩ := HP.out.done j (V, X) hjl hr
              have hFDj : (F ++ D)[j]? = some (G, X ++ marksM) := by rw [List.getElem?_append_left (by omega)]; exact hFj
              obtain ⟨z, hRj, hzl⟩ := hSh.out.at_ hFDj
              have hRl : j < R.length := (List.getElem?_eq_some_iff.1 hRj).1
              have hRWj : (R ++ Wl)[j]? = some (G, z) := by rw [List.getElem?_append_left hRl]; exact hRj
              obtain ⟨A, c, rfl, hc1, hc2, hA⟩ := HFw.out.form hRWj
              have hzp : 0 < z.length := by simp only at hzl; rw [hzl]; simp [marksM]
              obtain ⟨g, rfl⟩ := hA hzp
              have hgc : wp.cell? ⟨gg, j, none⟩ = some (.slice (some ⟨g, 0, none⟩) z.length c) := by
                rw [HG2.out.cellAt j (by omega), List.getElem?_map, hFj]; rfl
              have HRW := Lib.hid hRWj
              have HRJ := Lib.hid hRj
              have HFJ := Lib.hid hFj
              have HZB : Hid (z.length ≤ 2000000000) := by have h1 := HL.out (V, X) (List.mem_of_getElem? hr); simp only at hzl h1; unfold Hid; rw [hzl, List.length_append]; simp [marksM]; omega
              clear hr hFj hDj hPj hFDj hRj hRWj hzl hA
              have hs0 : Farm wp base 4 Value.bool (R ++ Wl ++ [((Value.slice none 0 0 : Value), z.take 0)]) := HFw.out.snoc (World.ownsRow_nil _ _ _ _) (fun i u y q _ _ => by simp [Value.ownBlock])
              have HS0 := Lib.hid hs0; clear hs0
              go_wp2
              go_loopw [10, 11] (fun cv' i wr => ∃ (cv : Value) (t : Nat), cv = cv' ∧ i = .int .i64 t ∧ t ≤ z.length ∧ Farm wr base 4 Value.bool (R ++ Wl ++ [(cv, z.take t)]) ∧ wr.ownsRow wo.heap.size 48 1 was j (Wl.map (·.1)) ∧
                wr.ownsRow w.heap.size 48 1 (.slice (some ⟨gg, 0, none⟩) rows.length cg) rows.length (F.map (·.1)) ∧ Has wr q 48 (rows.map (·.1)).toArray ∧ Below base w wr ∧ wo.heap.size ≤ wr.heap.size) (fun _ i _ => z.length - (intOf i).toNat)
              case atStart => exact ⟨_, 0, rfl, rfl, Nat.zero_le _, HS0.out, HWA.out, HG2.out, HQ2.out, HB2.out, hsz2⟩
              case round =>
                clear HS0 HFw HWA HG2 HQ2 HB2 hsz2 hgc
                obtain ⟨cv, t, rfl, rfl, ht, hFc, hwas, hgs, hqr, hbel, hsz2⟩ := hrel
                have hRj3 : (R ++ Wl ++ [(cv, z.take t)])[j]? = some (.slice (some ⟨g, 0, none⟩) z.length c, z) := by
                  have h1 := (List.getElem?_eq_some_iff.1 HRW.out).1
                  rw [List.getElem?_append_left h1]; exact HRW.out
                have hgc : wr.cell? ⟨gg, j, none⟩ = some (.slice (some ⟨g, 0, none⟩) z.length c) := by
                  have h1 := (List.getElem?_eq_some_iff.1 HRJ.out).1
                  have h2 : F.map (·.1) = (F.map (·.1)) := rfl
                  rw [hgs.cellAt j (by omega), List.getElem?_map, HFJ.out]; rfl
                have HWA := Lib.hid hwas; clear hwas
                have HG2 := Lib.hid hgs; clear hgs
                have HQ2 := Lib.hid hqr; clear hqr
                have HB2 := Lib.hid hbel; clear hbel
                have hzb : z.length ≤ 2000000000 := HZB.out
                have hbz : base ≤ wr.heap.size := Nat.le_trans hbase (Nat.le_trans hsz hsz2)
                by_cases htl : t < z.length
                · have hcell := (hFc.cell hRj3 rfl htl).1
                  have hlast : (R ++ Wl ++ [(cv, z.take t)])[(R ++ Wl).length]? = some (cv, z.take t) := by
                    rw [List.getElem?_append_right (Nat.le_refl _), Nat.sub_self]; rfl
                  have hown := hFc.own _ _ _ hlast
                  have htk : (z.take t).length = t := by rw [List.length_take]; omega
                  rw [htk] at hown
                  have hmt := take_map_snoc Value.bool z t htl
                  have hta := take_snoc z t htl
                  have HTA := Lib.hid hta; clear hta
                  have HFc := Lib.hid hFc; clear hFc
                  have HLA := Lib.hid hlast; clear hlast
                  have HMT := Lib.hid hmt; clear hmt htk hRj3
                  have HOW := Lib.hid hown; clear hown
                  generalize z[t] = zt at *
                  go_wp2_with (at_builtin; refine wpList_append_own_at _ rfl _ _ 48 rfl base 4 i0 (.bool false) 1 1 Tryd.underlying48 hi hz0 hz1 hz2 rfl (by decide) _ _ _ rfl (HOW.out.alloc _) ⟨wr.heap.size, 0, none⟩ 1 1 [.bool zt] rfl rfl (one_new wr _ _) ?e2 ?e3 ?e4 ?e5 ?_)
                  case e2 => first | rfl | (intro u hu; simp at hu; subst hu; rfl)
                  case e3 => unfold maxLen; omega
                  case e4 => omega
                  case e5 => first | omega | (simp; omega)
                  intro v1 w1 hown1 hg1 _ hat
                  have hFa : Farm (wr.alloc (.cells #[.bool zt] 4)) base 4 Value.bool (R ++ Wl ++ [(cv, z.take t)]) := HFc.out.below ((Below.refl _ _).alloc (Nat.le_refl _) _)
                  have hFn := hFa.put (v' := v1) (z' := z.take (t + 1)) HLA.out (by rw [List.length_take, Nat.min_eq_left (by omega), List.map_take, ← HMT.out]; exact hown1) hg1 (by
                    rcases hat with h | h
                    · exact .inl h
                    · refine .inr fun r hr => ?_
                      rw [h] at hr
                      have := Option.some.inj hr
                      simp; omega)
                  have e9 : (R ++ Wl ++ [(cv, z.take t)]).set (R ++ Wl).length (v1, z.take (t + 1)) = R ++ Wl ++ [(v1, z.take (t + 1))] := by
                    rw [List.set_append_right _ _ (Nat.le_refl _), Nat.sub_self]; rfl
                  rw [e9] at hFn
                  have hne4 : ∀ {bb n : Nat} {u : Value} {ys : List Value}, wr.ownsRow bb 48 1 u n ys → u.ownBlock = none ∨ u.ownBlock ≠ cv.ownBlock := by
                    intro bb n u ys hu
                    cases hub : u.ownBlock with
                    | none => exact .inl rfl
                    | some r => exact .inr fun he => own_ne_own hu HOW.out (by decide) r hub he.symm
                  have hwn : w1.ownsRow wo.heap.size 48 1 was j (Wl.map (·.1)) := (HWA.out.alloc _).kept hg1 (hne4 HWA.out)
                  have hgn : w1.ownsRow w.heap.size 48 1 (.slice (some ⟨gg, 0, none⟩) rows.length cg) rows.length (F.map (·.1)) := (HG2.out.alloc _).kept hg1 (hne4 HG2.out)
                  have hqn : Has w1 q 48 (rows.map (·.1)).toArray := (HQ2.out.alloc _).grown hg1 (fun e => own_has_ne (HOW.out.alloc (.cells #[.bool zt] 4)) (HQ2.out.alloc _) (by decide) e.symm)
                  have hbn : Below base w w1 := Below.grown (HB2.out.alloc (by omega) _) hg1 (by simp; omega) (fun r hr => (HOW.out.lt r hr).1)
                  have hzn : wo.heap.size ≤ w1.heap.size := Nat.le_trans (by simp; omega) hg1.size
                  have HFn := Lib.hid hFn
                  have HWn := Lib.hid hwn
                  have HGn := Lib.hid hgn
                  have HQn := Lib.hid hqn
                  have HBn := Lib.hid hbn
                  clear hFa hFn hwn hgn hqn hbn hown1 hg1 hat e9 hne4 hcell hgc
                  go_wp2
                  go_roundw
                  case rel => exact ⟨_, t + 1, rfl, by go_num, by omega, HFn.out, HWn.out, HGn.out, HQn.out, HBn.out, hzn⟩
                  case measure => first | (simp [intOf]; done) | (simp [intOf]; omega)
                · obtain rfl : t = z.length := by omega
                  rw [List.take_of_length_le (Nat.le_refl _)] at hFc
                  have hlast : (R ++ Wl ++ [(cv, z)])[(R ++ Wl).length]? = some (cv, z) := by
                    rw [List.getElem?_append_right (Nat.le_refl _), Nat.sub_self]; rfl
                  obtain ⟨A2, c2, rfl, hc21, hc22, _⟩ := hFc.form hlast
                  have HFc := Lib.hid hFc; clear hFc hlast hRj3
                  have hgglt := (HGS.out.lt gg (by rfl)).2
                  have hqlt := HQ.out.lt
                  go_wp2_with (at_builtin; refine wpList_append_own _ rfl _ _ 55 rfl wo.heap.size 48 i1 (.slice none 0 0) 1 24 Tryd.underlying55 hj hy0 hy1 hy2 rfl (by decide) _ _ _ rfl (HWA.out.alloc _) ⟨wr.heap.size, 0, none⟩ 1 1 [.slice A2 z.length c2] rfl rfl (one_new wr _ _) ?e2 ?e3 ?e4 ?e5 ?_)
                  case e2 => first | rfl | (intro u hu; simp at hu; subst hu; rfl)
                  case e3 => unfold maxLen; omega
                  case e4 => omega
                  case e5 => first | omega | (simp; omega)
                  intro v1 w1 hown1 hg1 _
                  have hFa : Farm (wr.alloc (.cells #[.slice A2 z.length c2] 48)) base 4 Value.bool (R ++ Wl ++ [(.slice A2 z.length c2, z)]) := HFc.out.below ((Below.refl _ _).alloc (Nat.le_refl _) _)
                  have hFn := hFa.kept hg1 (fun i v z hiv => by
                    cases hvb : v.ownBlock with
                    | none => exact .inl rfl
                    | some r => exact .inr fun he => own_ne_own (hFa.own i v z hiv) (HWA.out.alloc _) (by decide) r hvb he.symm)
                  rw [List.append_assoc] at hFn
                  have hgn : w1.ownsRow w.heap.size 48 1 (.slice (some ⟨gg, 0, none⟩) rows.length cg) rows.length (F.map (·.1)) := (HG2.out.alloc _).kept hg1 (.inr fun he => by have h1 := (HWA.out.lt gg he.symm).1; omega)
                  have hqn : Has w1 q 48 (rows.map (·.1)).toArray := (HQ2.out.alloc _).grown hg1 (fun e => by have h1 := (HWA.out.lt q e.symm).1; omega)
                  have hbn : Below base w w1 := Below.grown (HB2.out.alloc (by omega) _) hg1 (by simp; omega) (fun r hr => by have h1 := (HWA.out.lt r hr).1; omega)
                  have hzn : wo.heap.size ≤ w1.heap.size := Nat.le_trans (by simp; omega) hg1.size
                  have hWn : (Wl ++ [((.slice A2 z.length c2 : Value), z)]).map (·.2) = (R.take (j + 1)).map (·.2) := by
                    have h1 := (List.getElem?_eq_some_iff.1 HRJ.out).1
                    have h2 := (List.getElem?_eq_some_iff.1 HRJ.out).2
                    rw [List.take_succ_eq_append_getElem h1, List.map_append, List.map_append, hWl.out, h2]; rfl
                  have hHn : w1.ownsRow wo.heap.size 48 1 v1 (j + 1) ((Wl ++ [((.slice A2 z.length c2 : Value), z)]).map (·.1)) := by
                    rw [List.map_append]; exact hown1
                  have HFn := Lib.hid hFn
                  have HWn := Lib.hid hWn
                  have HHn := Lib.hid hHn
                  have HGn := Lib.hid hgn
                  have HQn := Lib.hid hqn
                  have HBn := Lib.hid hbn
                  clear hFa hFn hWn hHn hgn hqn hbn hown1 hg1 hgc
                  go_wp2
                  go_roundw
                  case rel => exact ⟨_, j + 1, _, rfl, by go_num, by omega, HWn, HFn.out, HHn.out, HGn.out, HQn.out, HBn.out, hzn⟩
                  case measure => first | (simp [intOf]; done) | (simp [intOf]; omega)
            · obtain rfl : j = rows.length := by omega
              obtain ⟨⟨V, X⟩, hr⟩ : ∃ p, rows[k]? = some p := ⟨_, List.getElem?_eq_getElem hlt⟩
              obtain ⟨G, d, hFk, hDk, hPk⟩ := HP.out.done k (V, X) hlt hr
              have hXl : X.length ≤ 1000000000 := HL.out (V, X) (List.mem_of_getElem? hr)
              obtain ⟨Z, hRk, hZl⟩ := hSh.out.at_ (i := k) (p := (G, X ++ marksM)) (by rw [List.getElem?_append_left (by omega)]; exact hFk)
              have hZ64 : Z.length = X.length + 64 := by simp only at hZl; rw [hZl, List.length_append]; simp [marksM]
              obtain ⟨yd, hRd, hyl⟩ := hSh.out.at_ (i := rows.length + k) (p := d) (by rw [← hFl, List.getElem?_append_right (by omega), Nat.add_sub_cancel_left]; exact hDk)
              have hform : ∀ (i : Nat) (v : Value) (z : List Bool), R[i]? = some (v, z) → ∃ A c, v = .slice A z.length c ∧ z.length ≤ c ∧ c ≤ 9223372036854775807 ∧ (0 < z.length → ∃ g, A = some ⟨g, 0, none⟩) := fun i v z hi => HFw.out.form (by rw [List.getElem?_append_left (List.getElem?_eq_some_iff.1 hi).1]; exact hi)
              obtain ⟨A0, c0, m, cm, ym, hV, hRm, hXm, hA0, hcm, hwhich⟩ : ∃ (A0 : Option Addr) (c0 m cm : Nat) (ym : List Bool), V = .slice A0 X.length c0 ∧ R[m]? = some (.slice A0 ym.length cm, ym) ∧ X.length ≤ ym.length ∧ (0 < X.length → ∃ g, A0 = some ⟨g, 0, none⟩) ∧ ym.length ≤ 9223372036854775807 ∧
                  ((m = k ∧ ym = Z) ∨ (m = rows.length + k)) := by
                rcases hPk with ⟨_, A0, c0, hV1, hG1⟩ | ⟨hd1, hd2, _⟩
                · obtain ⟨A, c, h1, h2, h3, h4⟩ := hform k G Z hRk
                  rw [hG1] at h1
                  simp only [Value.slice.injEq] at h1
                  obtain ⟨rfl, _, rfl⟩ := h1
                  exact ⟨A0, c0, k, c0, Z, hV1, by rw [hRk, hG1, hZ64], by omega, fun _ => h4 (by omega), by omega, .inl ⟨rfl, rfl⟩⟩
                · simp only at hd1 hd2
                  obtain ⟨A, c, h1, h2, h3, h4⟩ := hform _ _ _ hRd
                  have hy2 : yd.length = X.length := by rw [hyl, hd2]
                  exact ⟨A, c, rows.length + k, c, yd, by rw [← hd1, h1, hy2], by rw [hRd, h1], by omega, fun _ => h4 (by omega), by omega, .inr rfl⟩
              subst hV
              obtain ⟨AG, cG, rfl, hG1, hG2, hG3⟩ := hform k G Z hRk
              obtain ⟨gk, rfl⟩ := hG3 (by omega)
              obtain ⟨gw, cw, rfl, hcw1, hcw2⟩ := own_form HWA.out hN0
              have hwk : ∀ (i : Nat) (v : Value) (z : List Bool), i < rows.length → R[i]? = some (v, z) → ∃ u, Wl[i]? = some (u, z) := by
                intro i v z hi hz
                have h1 := congrArg (fun l : List (List Bool) => l[i]?) hWl.out
                simp only [List.getElem?_map, List.getElem?_take, if_pos hi, hz, Option.map_some] at h1
                cases hw : Wl[i]? with
                | none => rw [hw] at h1; cases h1
                | some r => rw [hw] at h1; simp only [Option.map_some, Option.some.injEq] at h1; exact ⟨r.1, by rw [← h1]⟩
              have hwform : ∀ (i : Nat) (v : Value) (z : List Bool), Wl[i]? = some (v, z) → 0 < z.length → ∃ g c, v = .slice (some ⟨g, 0, none⟩) z.length c := fun i v z hi hz => by
                obtain ⟨A, c, h1, _, _, h4⟩ := HFw.out.form (i := R.length + i) (v := v) (z := z) (by rw [List.getElem?_append_right (by omega), Nat.add_sub_cancel_left]; exact hi)
                obtain ⟨g, rfl⟩ := h4 hz
                exact ⟨g, c, h1⟩
              have HWK := Lib.hid hwk
              have HWF := Lib.hid hwform
              have HZ64 := Lib.hid hZ64
              have HRk := Lib.hid hRk
              have HRm := Lib.hid hRm
              have HFk := Lib.hid hFk
              have HWH := Lib.hid hwhich
              have HA0 := Lib.hid hA0
              have HR := Lib.hid hr
              have hmR : m < R.length := (List.getElem?_eq_some_iff.1 hRm).1
              have hE0 : Env w wp q base gg cg wo.heap.size rows F Wl (.slice (some ⟨gw, 0, none⟩) rows.length cw) := ⟨HWA.out, HG2.out, HQ2.out, HB2.out, hsz2⟩
              have HE0 := Lib.hid hE0
              have hqk : ∀ (W : World), Env w W q base gg cg wo.heap.size rows F Wl (.slice (some ⟨gw, 0, none⟩) rows.length cw) → W.cell? ⟨q, k, none⟩ = some (.slice A0 X.length c0) := fun W h => by
                rw [h.q_.cell k]; simp [HR.out]
              have HQK := Lib.hid hqk
              have hqc := HQK.out _ hE0
              clear hRk hRm hFk hwhich hA0 hr hE0 hqk hDk hPk hZl hRd hyl hform HWA HG2 HQ2 HB2 hsz2 hwk hwform hG3
              go_wp2
              clear hqc
              go_loopw [12] (fun i wr => ∃ t : Nat, i = .int .i64 t ∧ t ≤ X.length ∧ Farm wr base 4 Value.bool (R.set m (.slice A0 ym.length cm, flipTo t ym) ++ Wl) ∧ Env w wr q base gg cg wo.heap.size rows F Wl (.slice (some ⟨gw, 0, none⟩) rows.length cw)) (fun i _ => X.length - (intOf i).toNat)
              case atStart => exact ⟨0, rfl, Nat.zero_le _, by rw [flip_zero, set_same HRm.out]; exact HFw.out, HE0.out⟩
              case round =>
                clear HFw HE0
                obtain ⟨t, rfl, ht, hFr, hE⟩ := hrel
                have hqc := HQK.out _ hE
                by_cases htl : t < X.length
                · obtain ⟨g0, rfl⟩ := HA0.out (by omega)
                  have htm : t < ym.length := by omega
                  have hcl := hFr.cell (t := t) (at_k hmR _ _) (flip_length _ _) (by rw [flip_length]; exact htm)
                  rw [flip_get htm, if_neg (Nat.lt_irrefl _)] at hcl
                  obtain ⟨hc1, hc2⟩ := hcl
                  have hFn := hFr.set (t := t) (at_k hmR _ _) (flip_length _ _) (!ym[t])
                  rw [set_k hmR, flip_set htm] at hFn
                  have hown := hFr.own m _ _ (at_k hmR _ _)
                  rw [flip_length] at hown
                  have hEn := hE.store hown t (.bool (!ym[t]))
                  have HFn := Lib.hid hFn
                  have HEn := Lib.hid hEn
                  clear hFn hEn hown hFr hE
                  generalize ym[t] = b at *
                  go_wp2
                  go_region
                  all_goals
                    go_wp2
                    go_roundw
                  all_goals first
                    | exact ⟨t + 1, by go_num, by omega, (by exact ⟨fun i v z hi => HFn.out.own i v z hi, HFn.out.apart⟩), (by exact ⟨HEn.out.was_, HEn.out.gs_, HEn.out.q_, ⟨HEn.out.bel.os, HEn.out.bel.tape, HEn.out.bel.output, HEn.out.bel.size, HEn.out.bel.block⟩, HEn.out.sz⟩)⟩
                    | (simp [intOf]; done)
                    | (simp [intOf]; omega)
                · obtain rfl : t = X.length := by omega
                  have hkR : k < R.length := (List.getElem?_eq_some_iff.1 HRk.out).1
                  obtain ⟨R6, hR6⟩ : ∃ R6, R6 = R.set m (.slice A0 ym.length cm, flipTo X.length ym) := ⟨_, rfl⟩
                  rw [← hR6] at hFr
                  have hk6 : k < R6.length := by rw [hR6, List.length_set]; exact hkR
                  have hl6 : R6.length = R.length := by rw [hR6, List.length_set]
                  obtain ⟨ef, hef⟩ : ∃ ef : Nat → Nat, ∀ t, ef t = if m = k then max t X.length else t := ⟨_, fun _ => rfl⟩
                  have h6k : R6[k]? = some (.slice (some ⟨gk, 0, none⟩) Z.length cG, flipTo (ef 0) Z) := by
                    rw [hR6, hef]
                    rcases HWH.out with ⟨h1, h2⟩ | h1
                    · subst h1; subst h2
                      have h3 := Option.some.inj (HRk.out.symm.trans HRm.out)
                      rw [List.getElem?_set_self hmR, if_pos rfl, Nat.zero_max, ← (Prod.mk.inj h3).1]
                    · rw [List.getElem?_set_ne (by omega), if_neg (by omega), flip_zero]; exact HRk.out
                  obtain ⟨uk, hwk⟩ := HWK.out k _ Z hlt HRk.out
                  obtain ⟨gu, cu, rfl⟩ := HWF.out k uk Z hwk (by have := HZ64.out; omega)
                  have HWk := Lib.hid hwk; clear hwk
                  have HK6 := Lib.hid h6k
                  have HEF := Lib.hid hef
                  have HR6 := Lib.hid hR6
                  have HFr := Lib.hid hFr
                  have HE := Lib.hid hE
                  clear hef hR6 hFr hE h6k
                  obtain ⟨wq, rfl⟩ : ∃ wq : World, wq = wr := ⟨_, rfl⟩
                  go_wp2
                  go_loopw [13] (fun i wr => ∃ t : Nat, i = .int .i64 t ∧ t ≤ Z.length ∧ Farm wr base 4 Value.bool (R6.set k (.slice (some ⟨gk, 0, none⟩) Z.length cG, flipTo (ef t) Z) ++ Wl) ∧ Env w wr q base gg cg wo.heap.size rows F Wl (.slice (some ⟨gw, 0, none⟩) rows.length cw)) (fun i _ => Z.length - (intOf i).toNat)
                  case atStart => exact ⟨0, rfl, Nat.zero_le _, by rw [set_same HK6.out]; exact HFr.out, HE.out⟩
                  case round =>
                    clear HFr HE hqc
                    obtain ⟨t, rfl, ht, hFr, hE⟩ := hrel
                    have hqc := HQK.out _ hE
                    have hgk : wr.cell? ⟨gg, k, none⟩ = some (.slice (some ⟨gk, 0, none⟩) Z.length cG) := by
                      rw [hE.gs_.cellAt k (by omega), List.getElem?_map, HFk.out]; rfl
                    have hwc : wr.cell? ⟨gw, k, none⟩ = some (.slice (some ⟨gu, 0, none⟩) Z.length cu) := by
                      rw [hE.was_.cellAt k (by omega), List.getElem?_map, HWk.out]; rfl
                    by_cases htl : t < Z.length
                    · have hck := hFr.cell (t := t) (at_k hk6 _ _) (flip_length _ _) (by rw [flip_length]; exact htl)
                      rw [flip_get htl] at hck
                      obtain ⟨hk1, hk2⟩ := hck
                      have hcu := (hFr.cell (i := R6.length + k) (t := t) (g := gu) (n := Z.length) (c := cu) (z := Z) (by rw [List.getElem?_append_right (by rw [List.length_set]; omega), List.length_set, Nat.add_sub_cancel_left]; exact HWk.out) rfl htl).1
                      by_cases hsame : t < ef t
                      · have hns : t < X.length ∧ ef (t + 1) = ef t := by
                          have h1 := HEF.out t
                          have h2 := HEF.out (t + 1)
                          split at h1
                          · rename_i hm; rw [if_pos hm] at h2; omega
                          · omega
                        obtain ⟨htn, hee⟩ := hns
                        rw [if_pos hsame] at hk1
                        have HEE := Lib.hid hee
                        have HFr := Lib.hid hFr
                        have HE := Lib.hid hE
                        have dg : decide ((X.length : Int) ≤ (t : Int)) = false := decide_eq_false (by omega)
                        clear hee hFr hE hsame
                        generalize Z[t] = b at *
                        cases b
                        all_goals
                          go_wp2
                          go_quiet (fail)
                          go_wp2
                          go_roundw
                        all_goals first
                          | exact ⟨t + 1, by go_num, by omega, by rw [HEE.out]; exact ⟨fun i v z hi => HFr.out.own i v z hi, HFr.out.apart⟩, HE.out.drewN _⟩
                          | (simp [intOf]; done)
                          | (simp [intOf]; omega)
                      · have h1 := HEF.out t
                        have h2 := HEF.out (t + 1)
                        have hee : ef t = t ∧ ef (t + 1) = t + 1 := by
                          split at h1
                          · rename_i hm; rw [if_pos hm] at h2; omega
                          · rename_i hm; rw [if_neg hm] at h2; omega
                        obtain ⟨he1, he2⟩ := hee
                        rw [if_neg hsame] at hk1
                        have hFn := hFr.set (t := t) (at_k hk6 _ _) (flip_length _ _) (!Z[t])
                        have hfs : (flipTo (ef t) Z).set t (!Z[t]) = flipTo (ef (t + 1)) Z := by rw [he1, he2]; exact flip_set htl
                        rw [set_k hk6, hfs] at hFn
                        have hown := hFr.own k _ _ (at_k hk6 _ _)
                        rw [flip_length] at hown
                        have hEn := hE.store hown t (.bool (!Z[t]))
                        have HFn := Lib.hid hFn
                        have HEn := Lib.hid hEn
                        clear hFn hEn hown hFr hE hfs he1 he2 h1 h2 hsame
                        generalize Z[t] = b at *
                        by_cases htn : t < X.length
                        · have dg : decide ((X.length : Int) ≤ (t : Int)) = false := decide_eq_false (by omega)
                          cases b
                          all_goals
                            go_wp2
                            go_quiet (fail)
                            go_wp2
                            go_region
                          all_goals
                            go_wp2
                            go_roundw
                          all_goals first
                            | exact ⟨t + 1, by go_num, by omega, (by exact ⟨fun i v z hi => HFn.out.own i v z hi, HFn.out.apart⟩), (by exact ⟨HEn.out.was_, HEn.out.gs_, HEn.out.q_, ⟨HEn.out.bel.os, HEn.out.bel.tape, HEn.out.bel.output, HEn.out.bel.size, HEn.out.bel.block⟩, HEn.out.sz⟩)⟩
                            | (simp [intOf]; done)
                            | (simp [intOf]; omega)
                        · have dg : decide ((X.length : Int) ≤ (t : Int)) = true := decide_eq_true (by omega)
                          go_wp2
                          go_quiet (fail)
                          go_wp2
                          go_region
                          all_goals
                            go_wp2
                            go_roundw
                          all_goals first
                            | exact ⟨t + 1, by go_num, by omega, (by exact ⟨fun i v z hi => HFn.out.own i v z hi, HFn.out.apart⟩), (by exact ⟨HEn.out.was_, HEn.out.gs_, HEn.out.q_, ⟨HEn.out.bel.os, HEn.out.bel.tape, HEn.out.bel.output, HEn.out.bel.size, HEn.out.bel.block⟩, HEn.out.sz⟩)⟩
                            | (simp [intOf]; done)
                            | (simp [intOf]; omega)
                    · obtain rfl : t = Z.length := by omega
                      have hefZ : ef Z.length = Z.length := by
                        have h1 := HEF.out Z.length
                        have h2 := HZ64.out
                        split at h1 <;> omega
                      rw [hefZ] at hFr
                      obtain ⟨R7, hR7⟩ : ∃ R7, R7 = R6.set k (.slice (some ⟨gk, 0, none⟩) Z.length cG, flipTo Z.length Z) := ⟨_, rfl⟩
                      rw [← hR7] at hFr
                      have hl7 : R7.length = R.length := by rw [hR7, List.length_set]; exact hl6
                      have hSh7 : Shape R7 (F ++ D) := by
                        have s6 : Shape R6 (F ++ D) := by rw [HR6.out]; exact hSh.out.set_ HRm.out rfl (flip_length _ _)
                        rw [hR7]; exact s6.set_ HK6.out rfl (by rw [flip_length, flip_length])
                      have hrow : ∀ j, j < rows.length → ∃ (g c gu cu : Nat) (z y T : List Bool), F[j]? = some (.slice (some ⟨g, 0, none⟩) z.length c, T) ∧ R7[j]? = some (.slice (some ⟨g, 0, none⟩) z.length c, y) ∧
                          Wl[j]? = some (.slice (some ⟨gu, 0, none⟩) z.length cu, z) ∧ y.length = z.length ∧ z.length ≤ 2000000000 ∧ ∀ (i : Nat) (hi : i < z.length) (hi' : i < y.length), (y[i] == z[i]) = decide (j ≠ k) := by
                        intro j hj
                        by_cases hjk : j = k
                        · subst hjk
                          refine ⟨gk, cG, gu, cu, Z, flipTo Z.length Z, _, HFk.out, by rw [hR7]; exact List.getElem?_set_self hk6, HWk.out, flip_length _ _, by have := HZ64.out; omega, fun i hi hi' => ?_⟩
                          rw [flip_get hi, if_pos hi]
                          cases Z[i] <;> simp
                        · obtain ⟨⟨V, X⟩, hr⟩ : ∃ p, rows[j]? = some p := ⟨_, List.getElem?_eq_getElem hj⟩
                          obtain ⟨G, d, hFj, _, _⟩ := HP.out.done j (V, X) hj hr
                          obtain ⟨z, hRj, hzl⟩ := hSh.out.at_ (i := j) (p := (G, X ++ marksM)) (by rw [List.getElem?_append_left (by omega)]; exact hFj)
                          have hX : X.length ≤ 1000000000 := HL.out (V, X) (List.mem_of_getElem? hr)
                          have hz64 : z.length = X.length + 64 := by simp only at hzl; rw [hzl, List.length_append]; simp [marksM]
                          obtain ⟨uj, hWj⟩ := HWK.out j _ z hj hRj
                          obtain ⟨g1, c1, hu1⟩ := HWF.out j uj z hWj (by omega)
                          have h7 : R7[j]? = some (G, z) := by
                            rw [hR7, List.getElem?_set_ne (Ne.symm hjk), HR6.out, List.getElem?_set_ne (by rcases HWH.out with ⟨h1, _⟩ | h1 <;> omega)]
                            exact hRj
                          obtain ⟨A9, c9, hG9, _, _, hA9⟩ := hFr.form (i := j) (v := G) (z := z) (by rw [List.getElem?_append_left (List.getElem?_eq_some_iff.1 h7).1]; exact h7)
                          obtain ⟨g9, rfl⟩ := hA9 (by omega)
                          subst hG9
                          subst hu1
                          refine ⟨g9, c9, g1, c1, z, z, _, hFj, h7, hWj, rfl, by omega, fun i hi hi' => ?_⟩
                          simp [hjk]
                      have HROW := Lib.hid hrow
                      have HSh7 := Lib.hid hSh7
                      have HF7 := Lib.hid hFr
                      have HE7 := Lib.hid hE
                      have hl7' : rows.length ≤ R7.length := by have h1 := (List.getElem?_eq_some_iff.1 HRk.out).1; have h2 := congrArg List.length hSh.out.1; simp [hFl] at h2; omega
                      clear hR7 hSh7 hrow hFr hE hqc hwc hefZ HWk HK6 HEF HR6 HRm HRk HFk HWH HA0 HR HQK HWK HWF HZ64 hXm hcm hG1 hG2 hk6 hl6 hl7 hmR
                      go_wp2
                      clear hgk
                      go_loopw [14] (fun i wr => ∃ j : Nat, i = .int .i64 j ∧ j ≤ rows.length ∧ Farm wr base 4 Value.bool (R7 ++ Wl) ∧ Env w wr q base gg cg wo.heap.size rows F Wl (.slice (some ⟨gw, 0, none⟩) rows.length cw)) (fun i _ => rows.length - (intOf i).toNat)
                      case atStart => exact ⟨0, rfl, Nat.zero_le _, HF7.out, HE7.out⟩
                      case round =>
                        clear HF7 HE7
                        obtain ⟨j, rfl, hj, hF8, hE8⟩ := hrel
                        have HF8 := Lib.hid hF8
                        have HE8 := Lib.hid hE8
                        clear hF8 hE8
                        by_cases hjl : j < rows.length
                        · obtain ⟨gj, cj, guj, cuj, z, y, T, hFj, hRj, hWj, hyl, hzb, hyz⟩ := HROW.out j hjl
                          have HFJ := Lib.hid hFj
                          have HRJ := Lib.hid hRj
                          have HWJ := Lib.hid hWj
                          have HYL := Lib.hid hyl
                          have HYZ := Lib.hid hyz
                          clear hFj hRj hWj hyl hyz
                          have hgj8 : wr.cell? ⟨gg, j, none⟩ = some (.slice (some ⟨gj, 0, none⟩) z.length cj) := by
                            rw [HE8.out.gs_.cellAt j (by omega), List.getElem?_map, HFJ.out]; rfl
                          go_wp2
                          go_loopw [15] (fun i wr => ∃ t : Nat, i = .int .i64 t ∧ t ≤ z.length ∧ Farm wr base 4 Value.bool (R7 ++ Wl) ∧ Env w wr q base gg cg wo.heap.size rows F Wl (.slice (some ⟨gw, 0, none⟩) rows.length cw)) (fun i _ => z.length - (intOf i).toNat)
                          case atStart => exact ⟨0, rfl, Nat.zero_le _, HF8.out, HE8.out⟩
                          case round =>
                            clear HF8 HE8 hgj8
                            obtain ⟨t, rfl, ht, hF9, hE9⟩ := hrel
                            have hgj : wr.cell? ⟨gg, j, none⟩ = some (.slice (some ⟨gj, 0, none⟩) z.length cj) := by
                              rw [hE9.gs_.cellAt j (by omega), List.getElem?_map, HFJ.out]; rfl
                            have hwj : wr.cell? ⟨gw, j, none⟩ = some (.slice (some ⟨guj, 0, none⟩) z.length cuj) := by
                              rw [hE9.was_.cellAt j (by omega), List.getElem?_map, HWJ.out]; rfl
                            by_cases htl : t < z.length
                            · have hty : t < y.length := by rw [HYL.out]; exact htl
                              have hcy := (hF9.cell (i := j) (t := t) (g := gj) (n := z.length) (c := cj) (z := y) (by rw [List.getElem?_append_left (by omega)]; exact HRJ.out) HYL.out hty).1
                              have hcz := (hF9.cell (i := R7.length + j) (t := t) (g := guj) (n := z.length) (c := cuj) (z := z) (by rw [List.getElem?_append_right (by omega), Nat.add_sub_cancel_left]; exact HWJ.out) rfl htl).1
                              have hyz := HYZ.out t htl hty
                              have HF9 := Lib.hid hF9
                              have HE9 := Lib.hid hE9
                              clear hF9 hE9
                              generalize y[t] = a at *
                              generalize z[t] = b at *
                              by_cases hjk : j = k
                              · obtain rfl : b = !a := by
                                  rw [hjk] at hyz
                                  cases a <;> cases b <;> simp_all
                                have d1 : ((j : Int) != (k : Int)) = false := by rw [hjk]; simp
                                clear hyz hjk
                                cases a
                                all_goals
                                  go_wp2
                                  go_quiet (fail)
                                  go_wp2
                                  go_roundw
                                all_goals first
                                  | exact ⟨t + 1, by go_num, by omega, ⟨fun i v z hi => HF9.out.own i v z hi, HF9.out.apart⟩, HE9.out.drewN _⟩
                                  | (simp [intOf]; done)
                                  | (simp [intOf]; omega)
                              · obtain rfl : a = b := by
                                  cases a <;> cases b <;> simp_all
                                have d1 : ((j : Int) != (k : Int)) = true := by rw [bne_iff_ne]; omega
                                clear hyz
                                cases a
                                all_goals
                                  go_wp2
                                  go_quiet (fail)
                                  go_wp2
                                  go_roundw
                                all_goals first
                                  | exact ⟨t + 1, by go_num, by omega, ⟨fun i v z hi => HF9.out.own i v z hi, HF9.out.apart⟩, HE9.out.drewN _⟩
                                  | (simp [intOf]; done)
                                  | (simp [intOf]; omega)
                            · obtain rfl : t = z.length := by omega
                              have HF9 := Lib.hid hF9
                              have HE9 := Lib.hid hE9
                              clear hF9 hE9
                              go_wp2
                              go_roundw
                              case rel => exact ⟨j + 1, by go_num, by omega, HF9.out, HE9.out⟩
                              case measure => first | (simp [intOf]; done) | (simp [intOf]; omega)
                        · obtain rfl : j = rows.length := by omega
                          go_wp2
                          go_roundw
                          case rel => exact ⟨k + 1, R7, by go_num, by omega, HSh7, farm_left HF8.out, HE8.out.gs_, HE8.out.q_, HE8.out.bel, Nat.le_trans hsz HE8.out.sz⟩
                          case measure => first | (simp [intOf]; done) | (simp [intOf]; omega)
        · have HFm := Lib.hid hFm
          go_wp2
          go_ret
          exact ⟨rfl, hbel⟩
end apartK
end Go.Proofs.YthjjockimpndbaaDoor
