/- Walks of the document's fractions (busbarref02): opposite, sum. Condition: at most 100 digits. -/
import Derived.Test.YtllbpanfhlbbgaaDoorNatF
import Derived.Deep.DeepCutAuto
namespace Go.Proofs.YtllbpanfhlbbgaaDoor
open Go.RowKit Go.Bus Go.Nt
set_option linter.unusedVariables false
set_option linter.unusedSimpArgs false
namespace natW
set_option maxRecDepth 100000 in
set_option maxHeartbeats 2000000 in
theorem opposite_any (v : Value) (s : Bool) (N D : Nat) (w : World) (h : FrV w v s N D) :
    Calls Tryd.prog 66 #[v] w fun e w' => ∃ u, e = .returned u ∧ FrV w' u (!s) N D ∧ Below w.heap.size w w' := by
  obtain ⟨x, y, rfl, h1, h2⟩ := h
  obtain ⟨A1, c1, rfl, _⟩ := Sl.form h1
  obtain ⟨B1, d1, rfl, _⟩ := Sl.form h2
  have H1 := Lib.hid h1
  have H2 := Lib.hid h2
  clear h1 h2
  go_enter Tryd.func66, Tryd.ntmps66
  go_wp2
  generalize (digs N).length = m1 at *
  generalize (digs D).length = n1 at *
  refine bodyPost_ret (results_block (g := w.heap.size + 1) (T := 84) rfl rfl (by exact Has.new1 w _ _ _) rfl Tryd.underlying84 rfl (by kernel_rfl)) rfl ?_
  have hb : Below w.heap.size w ((w.alloc (Obj.cells #[.bool s, .slice A1 m1 c1, .slice B1 n1 d1] 84)).alloc (Obj.cells #[.bool (!s), .slice A1 m1 c1, .slice B1 n1 d1] 84)) := (by repeat' (first | (with_reducible assumption) | (with_reducible refine Below.setCell ?_ ?_ _) | (with_reducible refine Below.alloc ?_ ?_ _) | (with_reducible refine Below.drew ?_) | (with_reducible refine below_drewN ?_ _) | (with_reducible exact Below.refl _ _) | (show _ ≤ _; (try simp); (try omega); done) | exact Below.refl _ _ | assumption))
  exact ⟨_, rfl, ⟨_, _, rfl, H1.out.at_below hb, H2.out.at_below hb⟩, hb⟩
def sumF (s1 : Bool) (N1 D1 : Nat) (s2 : Bool) (N2 D2 : Nat) : Bool × Nat × Nat :=
  if s1 = s2 then (s1, N1 * D2 + N2 * D1, D1 * D2) else if N2 * D1 ≤ N1 * D2 then (s1, N1 * D2 - N2 * D1, D1 * D2) else (s2, N2 * D1 - N1 * D2, D1 * D2)
theorem len_mul {a b : Nat} : (digs (a * b)).length ≤ (digs a).length + (digs b).length := by
  rw [digs_len_iff, Nat.pow_add]
  have h1 := digs_len a
  have h2 := digs_len b
  exact Nat.mul_lt_mul'' h1 h2
theorem times_new (v u : Value) (a b : Nat) (w : World) (h : Nt w v a) (h' : Nt w u b) (ha : (digs a).length ≤ 100) (hb : (digs b).length ≤ 100) :
    Calls Tryd.prog 47 #[v, u] w fun e w' => ∃ A m c, e = .returned (.slice A m c) ∧ Nt w' (.slice A m c) (a * b) ∧ NB w.heap.size (.slice A m c) ∧ Below w.heap.size w w' :=
  (times_nb v u a b w h h' (by omega) (by omega)).mono fun e w' ⟨x, h1, h2, h3, h4⟩ => by obtain ⟨A, c, rfl, _⟩ := Sl.form h2; exact ⟨A, _, c, h1, h2, h3, h4⟩
theorem plus_n2 (v u : Value) (a b : Nat) (w : World) (h : Nt w v a) (h' : Nt w u b) (ha : (digs a).length ≤ 1000) (hb : (digs b).length ≤ 1000) :
    Calls Tryd.prog 68 #[v, u] w fun e w' => ∃ A m c, e = .returned (.slice A m c) ∧ Nt w' (.slice A m c) (a + b) ∧ NB w.heap.size (.slice A m c) ∧ Below w.heap.size w w' :=
  (plus_new v u a b w h h' ha hb).mono fun e w' ⟨x, h1, h2, h3, h4⟩ => by obtain ⟨A, c, rfl, _⟩ := Sl.form h2; exact ⟨A, _, c, h1, h2, h3, h4⟩
theorem less_n2 (v u : Value) (a b : Nat) (w : World) (h : Nt w v a) (h' : Nt w u b) (ha : (digs a).length ≤ 1000) (hb : (digs b).length ≤ 1000) (hle : b ≤ a) :
    Calls Tryd.prog 74 #[v, u] w fun e w' => ∃ A m c, e = .returned (.slice A m c) ∧ Nt w' (.slice A m c) (a - b) ∧ NB w.heap.size (.slice A m c) ∧ Below w.heap.size w w' :=
  (less_new v u a b w h h' ha hb hle).mono fun e w' ⟨x, h1, h2, h3, h4⟩ => by obtain ⟨A, c, rfl, _⟩ := Sl.form h2; exact ⟨A, _, c, h1, h2, h3, h4⟩
/-- The three boxes at a later world. -/
theorem three {a b c T : Nat} {X Y Z : Array Value} {w W W' : World} (h : Has W a T X ∧ Has W b T Y ∧ Has W c T Z ∧ Below w.heap.size w W) (hb : Below W.heap.size W W') : Has W' a T X ∧ Has W' b T Y ∧ Has W' c T Z ∧ Below w.heap.size w W' :=
  ⟨h.1.below hb h.1.lt, h.2.1.below hb h.2.1.lt, h.2.2.1.below hb h.2.2.1.lt, h.2.2.2.trans (hb.mono h.2.2.2.size)⟩

set_option maxRecDepth 100000 in
set_option maxHeartbeats 4000000 in
theorem sum_any (v u : Value) (s1 : Bool) (N1 D1 : Nat) (s2 : Bool) (N2 D2 : Nat) (w : World) (h : FrV w v s1 N1 D1) (h' : FrV w u s2 N2 D2) (l1 : (digs N1).length ≤ 40) (l2 : (digs D1).length ≤ 40) (l3 : (digs N2).length ≤ 40) (l4 : (digs D2).length ≤ 40) :
    Calls Tryd.prog 48 #[v, u] w fun e w' => ∃ r, e = .returned r ∧ FrV w' r (sumF s1 N1 D1 s2 N2 D2).1 (sumF s1 N1 D1 s2 N2 D2).2.1 (sumF s1 N1 D1 s2 N2 D2).2.2 ∧ Below w.heap.size w w' := by
  obtain ⟨x1, y1, rfl, h1, h2⟩ := h
  obtain ⟨x2, y2, rfl, h3, h4⟩ := h'
  obtain ⟨A1, c1, rfl, _⟩ := Sl.form h1
  obtain ⟨B1, d1, rfl, _⟩ := Sl.form h2
  obtain ⟨A2, c2, rfl, _⟩ := Sl.form h3
  obtain ⟨B2, d2, rfl, _⟩ := Sl.form h4
  have HN1 := Lib.hid (fun W (hb : Below w.heap.size w W) => h1.at_below hb)
  have HD1 := Lib.hid (fun W (hb : Below w.heap.size w W) => h2.at_below hb)
  have HN2 := Lib.hid (fun W (hb : Below w.heap.size w W) => h3.at_below hb)
  have HD2 := Lib.hid (fun W (hb : Below w.heap.size w W) => h4.at_below hb)
  have LX : Hid ((digs (N1 * D2)).length ≤ 1000) := Lib.hid (Nat.le_trans len_mul (by omega))
  have LY : Hid ((digs (N2 * D1)).length ≤ 1000) := Lib.hid (Nat.le_trans len_mul (by omega))
  have L1 : Hid ((digs N1).length ≤ 100 ∧ (digs D1).length ≤ 100 ∧ (digs N2).length ≤ 100 ∧ (digs D2).length ≤ 100) := Lib.hid (by omega)
  clear h1 h2 h3 h4 l1 l2 l3 l4
  obtain ⟨X, hX⟩ : ∃ X, X = N1 * D2 := ⟨_, rfl⟩
  obtain ⟨Y, hY⟩ : ∃ Y, Y = N2 * D1 := ⟨_, rfl⟩
  have HF : Hid (sumF s1 N1 D1 s2 N2 D2 = if s1 = s2 then (s1, X + Y, D1 * D2) else if Y ≤ X then (s1, X - Y, D1 * D2) else (s2, Y - X, D1 * D2)) := Lib.hid (by unfold sumF; rw [hX, hY])
  rw [← hX] at LX
  rw [← hY] at LY
  have HX := Lib.hid hX
  have HY := Lib.hid hY
  clear hX hY
  have CX : Hid (∀ W, Below w.heap.size w W → Calls Tryd.prog 47 #[.slice A1 (digs N1).length c1, .slice B2 (digs D2).length d2] W fun e w' => ∃ A m c, e = .returned (.slice A m c) ∧ Nt w' (.slice A m c) X ∧ NB W.heap.size (.slice A m c) ∧ Below W.heap.size W w') := Lib.hid fun W hW => by rw [HX.out]; exact times_new _ _ _ _ W (HN1.out W hW) (HD2.out W hW) (by exact L1.out.1) (by exact L1.out.2.2.2)
  have CY : Hid (∀ W, Below w.heap.size w W → Calls Tryd.prog 47 #[.slice A2 (digs N2).length c2, .slice B1 (digs D1).length d1] W fun e w' => ∃ A m c, e = .returned (.slice A m c) ∧ Nt w' (.slice A m c) Y ∧ NB W.heap.size (.slice A m c) ∧ Below W.heap.size W w') := Lib.hid fun W hW => by rw [HY.out]; exact times_new _ _ _ _ W (HN2.out W hW) (HD1.out W hW) (by exact L1.out.2.2.1) (by exact L1.out.2.1)
  have CD : Hid (∀ W, Below w.heap.size w W → Calls Tryd.prog 47 #[.slice B1 (digs D1).length d1, .slice B2 (digs D2).length d2] W fun e w' => ∃ A m c, e = .returned (.slice A m c) ∧ Nt w' (.slice A m c) (D1 * D2) ∧ NB W.heap.size (.slice A m c) ∧ Below W.heap.size W w') := Lib.hid fun W hW => times_new _ _ _ _ W (HD1.out W hW) (HD2.out W hW) (by exact L1.out.2.1) (by exact L1.out.2.2.2)
  generalize (digs N1).length = m1 at *
  generalize (digs D1).length = n1 at *
  generalize (digs N2).length = m2 at *
  generalize (digs D2).length = n2 at *
  go_enter Tryd.func48, Tryd.ntmps48
  have hH0 : Has ((((w.alloc (Obj.cells #[.bool s1, .slice A1 m1 c1, .slice B1 n1 d1] 84)).alloc (Obj.cells #[.bool s2, .slice A2 m2 c2, .slice B2 n2 d2] 84)).alloc (Obj.cells #[.bool false, .slice none 0 0, .slice none 0 0] 84))) w.heap.size 84 #[.bool s1, .slice A1 m1 c1, .slice B1 n1 d1] := ((Has.new w _ _).alloc _).alloc _
  have hH1 : Has ((((w.alloc (Obj.cells #[.bool s1, .slice A1 m1 c1, .slice B1 n1 d1] 84)).alloc (Obj.cells #[.bool s2, .slice A2 m2 c2, .slice B2 n2 d2] 84)).alloc (Obj.cells #[.bool false, .slice none 0 0, .slice none 0 0] 84))) (w.heap.size + 1) 84 #[.bool s2, .slice A2 m2 c2, .slice B2 n2 d2] := (Has.new1 w _ _ _).alloc _
  have hH2 : Has ((((w.alloc (Obj.cells #[.bool s1, .slice A1 m1 c1, .slice B1 n1 d1] 84)).alloc (Obj.cells #[.bool s2, .slice A2 m2 c2, .slice B2 n2 d2] 84)).alloc (Obj.cells #[.bool false, .slice none 0 0, .slice none 0 0] 84))) (w.heap.size + 1 + 1) 84 #[.bool false, .slice none 0 0, .slice none 0 0] := Has.new2 w _ _ _ _
  have hBB : Below w.heap.size w ((((w.alloc (Obj.cells #[.bool s1, .slice A1 m1 c1, .slice B1 n1 d1] 84)).alloc (Obj.cells #[.bool s2, .slice A2 m2 c2, .slice B2 n2 d2] 84)).alloc (Obj.cells #[.bool false, .slice none 0 0, .slice none 0 0] 84))) := (by repeat' (first | (with_reducible assumption) | (with_reducible refine Below.setCell ?_ ?_ _) | (with_reducible refine Below.alloc ?_ ?_ _) | (with_reducible refine Below.drew ?_) | (with_reducible refine below_drewN ?_ _) | (with_reducible exact Below.refl _ _) | (show _ ≤ _; (try simp); (try omega); done) | exact Below.refl _ _ | assumption))
  have HS0 := Lib.hid (And.intro hH0 (And.intro hH1 (And.intro hH2 hBB)))
  clear hH0 hH1 hH2 hBB
  go_upto_region 1 with fail
  generalize ((((w.alloc (Obj.cells #[.bool s1, .slice A1 m1 c1, .slice B1 n1 d1] 84)).alloc (Obj.cells #[.bool s2, .slice A2 m2 c2, .slice B2 n2 d2] 84)).alloc (Obj.cells #[.bool false, .slice none 0 0, .slice none 0 0] 84))) = W0 at HS0 ⊢
  have j01 : W0.cell? ⟨w.heap.size, 1, none⟩ = some (.slice A1 m1 c1) := HS0.out.1.cell 1
  have j12 : W0.cell? ⟨w.heap.size + 1, 2, none⟩ = some (.slice B2 n2 d2) := HS0.out.2.1.cell 2
  go_wp2_with fail
  refine (CX.out W0 HS0.out.2.2.2).mono ?_
  rintro e w1 ⟨PA, pm, pc, rfl, hx, hnx, hb⟩
  have HS1 : Hid (Has w1 w.heap.size 84 #[.bool s1, .slice A1 m1 c1, .slice B1 n1 d1] ∧ Has w1 (w.heap.size + 1) 84 #[.bool s2, .slice A2 m2 c2, .slice B2 n2 d2] ∧ Has w1 (w.heap.size + 1 + 1) 84 #[.bool false, .slice none 0 0, .slice none 0 0] ∧ Below w.heap.size w w1) := Lib.hid (three HS0.out hb)
  have HXV := Lib.hid hx
  have HXN : Hid (NB (w.heap.size + 3) (.slice PA pm pc)) := Lib.hid (hnx.mono (by have := HS0.out.2.2.1.lt; omega))
  clear hx hnx hb CX
  clear j01 j12
  have j11 : w1.cell? ⟨w.heap.size + 1, 1, none⟩ = some (.slice A2 m2 c2) := HS1.out.2.1.cell 1
  have j02 : w1.cell? ⟨w.heap.size, 2, none⟩ = some (.slice B1 n1 d1) := HS1.out.1.cell 2
  go_wp2_with fail
  refine (CY.out w1 HS1.out.2.2.2).mono ?_
  rintro e w2 ⟨QA, qm, qc, rfl, hx, hnx, hb⟩
  have HS2 : Hid (Has w2 w.heap.size 84 #[.bool s1, .slice A1 m1 c1, .slice B1 n1 d1] ∧ Has w2 (w.heap.size + 1) 84 #[.bool s2, .slice A2 m2 c2, .slice B2 n2 d2] ∧ Has w2 (w.heap.size + 1 + 1) 84 #[.bool false, .slice none 0 0, .slice none 0 0] ∧ Below w.heap.size w w2) := Lib.hid (three HS1.out hb)
  have HXV2 := Lib.hid (HXV.out.at_below hb)
  have HYV := Lib.hid hx
  have HYN : Hid (NB (w.heap.size + 3) (.slice QA qm qc)) := Lib.hid (hnx.mono (by have := HS1.out.2.2.1.lt; omega))
  clear hx hnx hb CY HS0 HXV
  clear j11 j02
  have j02 : w2.cell? ⟨w.heap.size, 2, none⟩ = some (.slice B1 n1 d1) := HS2.out.1.cell 2
  have j12 : w2.cell? ⟨w.heap.size + 1, 2, none⟩ = some (.slice B2 n2 d2) := HS2.out.2.1.cell 2
  go_wp2_with fail
  refine (CD.out w2 HS2.out.2.2.2).mono ?_
  rintro e w3 ⟨DA, dm, dc, rfl, hx, hnx, hb⟩
  have HS3 : Hid (Has w3 w.heap.size 84 #[.bool s1, .slice A1 m1 c1, .slice B1 n1 d1] ∧ Has w3 (w.heap.size + 1) 84 #[.bool s2, .slice A2 m2 c2, .slice B2 n2 d2] ∧ Has w3 (w.heap.size + 1 + 1) 84 #[.bool false, .slice none 0 0, .slice none 0 0] ∧ Below w.heap.size w w3) := Lib.hid (three HS2.out hb)
  have HX3 := Lib.hid (HXV2.out.at_below hb)
  have HY3 := Lib.hid (HYV.out.at_below hb)
  have HD3 := Lib.hid hx
  have HDN : Hid (NB (w.heap.size + 3) (.slice DA dm dc)) := Lib.hid (hnx.mono (by have := HS2.out.2.2.1.lt; omega))
  clear hx hnx hb CD HS1 HS2 HXV2 HYV
  clear j02 j12
  have hz3 : w.heap.size + 1 + 1 < w3.heap.size := HS3.out.2.2.1.lt
  have j00 : w3.cell? ⟨w.heap.size, 0, none⟩ = some (Value.bool s1) := HS3.out.1.cell 0
  have j10 : w3.cell? ⟨w.heap.size + 1, 0, none⟩ = some (Value.bool s2) := HS3.out.2.1.cell 0
  cases hs : (s1 == s2)
  · have hne : s1 ≠ s2 := by intro e; rw [e] at hs; simp at hs
    have hs' : (s1 == s2) = false := hs
    by_cases hle : Y ≤ X
    · obtain ⟨c, hc⟩ : ∃ c, c = cmpN X Y := ⟨_, rfl⟩
      have hc0 : decide (0 ≤ c) = true := decide_eq_true (by rw [hc]; unfold cmpN; rw [if_neg (by omega)]; split <;> decide)
      have CH : Hid (Calls Tryd.prog 73 #[.slice PA pm pc, .slice QA qm qc] w3 fun e w' => e = .returned (.int .i64 c) ∧ w3 = w') := Lib.hid (by rw [hc]; exact held_any _ _ _ _ w3 HX3.out HY3.out LX.out LY.out)
      have HFF : Hid (sumF s1 N1 D1 s2 N2 D2 = (s1, X - Y, D1 * D2)) := Lib.hid (by rw [HF.out, if_neg hne, if_pos hle])
      have CS : Hid (∀ W, w3.heap = W.heap → Calls Tryd.prog 74 #[.slice PA pm pc, .slice QA qm qc] W fun e w' => ∃ A m c, e = .returned (.slice A m c) ∧ Nt w' (.slice A m c) (X - Y) ∧ NB W.heap.size (.slice A m c) ∧ Below W.heap.size W w') := Lib.hid fun W hW => less_n2 _ _ _ _ W (nt_heap HX3.out hW) (nt_heap HY3.out hW) LX.out LY.out hle
      clear hc hne hle
      go_wp2_with fail
      refine CH.out.mono ?_
      rintro e w4 ⟨rfl, rfl⟩
      clear CH
      go_wp2
      go_region_held3 (fun W => W.cell? ⟨w.heap.size, 0, none⟩ = some (.bool s1) ∧ w.heap.size + 1 + 1 < W.heap.size)
        (first | exact ⟨by assumption, by assumption⟩ | exact ⟨by exact j00, by exact hz3⟩ | exact ⟨by go_simp; done, by first | assumption | (simp; omega)⟩)
        (first
          | (go_at_call 74; refine (CS.out w3.drew rfl).mono ?_; rintro e w5 ⟨RA, rm, rc, rfl, hr, hnr, hb⟩; have HS5 : Hid (Has w5 w.heap.size 84 #[.bool s1, .slice A1 m1 c1, .slice B1 n1 d1] ∧ Has w5 (w.heap.size + 1) 84 #[.bool s2, .slice A2 m2 c2, .slice B2 n2 d2] ∧ Has w5 (w.heap.size + 1 + 1) 84 #[.bool false, .slice none 0 0, .slice none 0 0] ∧ Below w.heap.size w w5) := Lib.hid (three (W := w3.drew) (by exact ⟨HS3.out.1, HS3.out.2.1, HS3.out.2.2.1, HS3.out.2.2.2.drew⟩) hb); have HD5 := Lib.hid (Nt.at_below (w := w3.drew) (by exact HD3.out) hb); have HR5 := Lib.hid hr; have HRN : Hid (NB (w.heap.size + 3) (.slice RA rm rc)) := Lib.hid (hnr.mono (by show w.heap.size + 3 ≤ w3.heap.size; omega)); have t0 : w5.cell? ⟨w.heap.size, 0, none⟩ = some (.bool s1) := HS5.out.1.cell 0; have t1 := HS5.out.2.2.1.cell 0; have t2 := HS5.out.2.2.1.cell 1; have t3 := HS5.out.2.2.1.cell 2; have f0 := HS5.out.2.2.1.frozen 0; have f1 := HS5.out.2.2.1.frozen 1; have f2 := HS5.out.2.2.1.frozen 2; have hz5 : w.heap.size + 1 + 1 < w5.heap.size := HS5.out.2.2.1.lt; simp at t1 t2 t3; clear hr hnr hb CS))
      clear t0 t1 t2 t3 f0 f1 f2 hz3 j00 j10
      go_wp2
      refine bodyPost_ret (results_block (g := w.heap.size + 1 + 1) (T := 84) rfl rfl (by exact ((HS5.out.2.2.1.set 0 _).set 1 _).set 2 _) rfl Tryd.underlying84 rfl (by kernel_rfl)) rfl ?_
      refine ⟨_, rfl, ?_, ?_⟩
      · rw [HFF.out]
        refine ⟨_, _, rfl, ?_, ?_⟩
        · exact ((HR5.out.set_far HRN.out (by dsimp only; omega) _).set_far HRN.out (by dsimp only; omega) _).set_far HRN.out (by dsimp only; omega) _
        · exact ((HD5.out.set_far HDN.out (by dsimp only; omega) _).set_far HDN.out (by dsimp only; omega) _).set_far HDN.out (by dsimp only; omega) _
      · exact ((HS5.out.2.2.2.setCell (by dsimp only; omega) _).setCell (by dsimp only; omega) _).setCell (by dsimp only; omega) _
    · obtain ⟨c, hc⟩ : ∃ c, c = cmpN X Y := ⟨_, rfl⟩
      have hc0 : decide (0 ≤ c) = false := decide_eq_false (by rw [hc]; unfold cmpN; rw [if_pos (by omega)]; decide)
      have CH : Hid (Calls Tryd.prog 73 #[.slice PA pm pc, .slice QA qm qc] w3 fun e w' => e = .returned (.int .i64 c) ∧ w3 = w') := Lib.hid (by rw [hc]; exact held_any _ _ _ _ w3 HX3.out HY3.out LX.out LY.out)
      have HFF : Hid (sumF s1 N1 D1 s2 N2 D2 = (s2, Y - X, D1 * D2)) := Lib.hid (by rw [HF.out, if_neg hne, if_neg hle])
      have CS : Hid (∀ W, w3.heap = W.heap → Calls Tryd.prog 74 #[.slice QA qm qc, .slice PA pm pc] W fun e w' => ∃ A m c, e = .returned (.slice A m c) ∧ Nt w' (.slice A m c) (Y - X) ∧ NB W.heap.size (.slice A m c) ∧ Below W.heap.size W w') := Lib.hid fun W hW => less_n2 _ _ _ _ W (nt_heap HY3.out hW) (nt_heap HX3.out hW) LY.out LX.out (by omega)
      clear hc hne hle
      go_wp2_with fail
      refine CH.out.mono ?_
      rintro e w4 ⟨rfl, rfl⟩
      clear CH
      go_wp2
      go_region_held3 (fun W => W.cell? ⟨w.heap.size + 1, 0, none⟩ = some (.bool s2) ∧ w.heap.size + 1 + 1 < W.heap.size)
        (first | exact ⟨by assumption, by assumption⟩ | exact ⟨by exact j10, by exact hz3⟩ | exact ⟨by go_simp; done, by first | assumption | (simp; omega)⟩)
        (first
          | (go_at_call 74; refine (CS.out w3.drew rfl).mono ?_; rintro e w5 ⟨RA, rm, rc, rfl, hr, hnr, hb⟩; have HS5 : Hid (Has w5 w.heap.size 84 #[.bool s1, .slice A1 m1 c1, .slice B1 n1 d1] ∧ Has w5 (w.heap.size + 1) 84 #[.bool s2, .slice A2 m2 c2, .slice B2 n2 d2] ∧ Has w5 (w.heap.size + 1 + 1) 84 #[.bool false, .slice none 0 0, .slice none 0 0] ∧ Below w.heap.size w w5) := Lib.hid (three (W := w3.drew) (by exact ⟨HS3.out.1, HS3.out.2.1, HS3.out.2.2.1, HS3.out.2.2.2.drew⟩) hb); have HD5 := Lib.hid (Nt.at_below (w := w3.drew) (by exact HD3.out) hb); have HR5 := Lib.hid hr; have HRN : Hid (NB (w.heap.size + 3) (.slice RA rm rc)) := Lib.hid (hnr.mono (by show w.heap.size + 3 ≤ w3.heap.size; omega)); have t0 : w5.cell? ⟨w.heap.size + 1, 0, none⟩ = some (.bool s2) := HS5.out.2.1.cell 0; have t1 := HS5.out.2.2.1.cell 0; have t2 := HS5.out.2.2.1.cell 1; have t3 := HS5.out.2.2.1.cell 2; have f0 := HS5.out.2.2.1.frozen 0; have f1 := HS5.out.2.2.1.frozen 1; have f2 := HS5.out.2.2.1.frozen 2; have hz5 : w.heap.size + 1 + 1 < w5.heap.size := HS5.out.2.2.1.lt; simp at t1 t2 t3; clear hr hnr hb CS))
      clear t0 t1 t2 t3 f0 f1 f2 hz3 j00 j10
      go_wp2
      refine bodyPost_ret (results_block (g := w.heap.size + 1 + 1) (T := 84) rfl rfl (by exact ((HS5.out.2.2.1.set 0 _).set 1 _).set 2 _) rfl Tryd.underlying84 rfl (by kernel_rfl)) rfl ?_
      refine ⟨_, rfl, ?_, ?_⟩
      · rw [HFF.out]
        refine ⟨_, _, rfl, ?_, ?_⟩
        · exact ((HR5.out.set_far HRN.out (by dsimp only; omega) _).set_far HRN.out (by dsimp only; omega) _).set_far HRN.out (by dsimp only; omega) _
        · exact ((HD5.out.set_far HDN.out (by dsimp only; omega) _).set_far HDN.out (by dsimp only; omega) _).set_far HDN.out (by dsimp only; omega) _
      · exact ((HS5.out.2.2.2.setCell (by dsimp only; omega) _).setCell (by dsimp only; omega) _).setCell (by dsimp only; omega) _
  · have hs' : (s1 == s2) = true := hs
    have HFF : Hid (sumF s1 N1 D1 s2 N2 D2 = (s1, X + Y, D1 * D2)) := Lib.hid (by rw [HF.out, if_pos (by simpa using hs)])
    have CS : Hid (∀ W, w3.heap = W.heap → Calls Tryd.prog 68 #[.slice PA pm pc, .slice QA qm qc] W fun e w' => ∃ A m c, e = .returned (.slice A m c) ∧ Nt w' (.slice A m c) (X + Y) ∧ NB W.heap.size (.slice A m c) ∧ Below W.heap.size W w') := Lib.hid fun W hW => plus_n2 _ _ _ _ W (nt_heap HX3.out hW) (nt_heap HY3.out hW) LX.out LY.out
    go_wp2
    go_region_held3 (fun W => W.cell? ⟨w.heap.size, 0, none⟩ = some (.bool s1) ∧ w.heap.size + 1 + 1 < W.heap.size)
      (first | exact ⟨by assumption, by assumption⟩ | exact ⟨by exact j00, by exact hz3⟩ | exact ⟨by go_simp; done, by first | assumption | (simp; omega)⟩)
      (first
        | (go_at_call 68; refine (CS.out w3.drew rfl).mono ?_; rintro e w5 ⟨RA, rm, rc, rfl, hr, hnr, hb⟩; have HS5 : Hid (Has w5 w.heap.size 84 #[.bool s1, .slice A1 m1 c1, .slice B1 n1 d1] ∧ Has w5 (w.heap.size + 1) 84 #[.bool s2, .slice A2 m2 c2, .slice B2 n2 d2] ∧ Has w5 (w.heap.size + 1 + 1) 84 #[.bool false, .slice none 0 0, .slice none 0 0] ∧ Below w.heap.size w w5) := Lib.hid (three (W := w3.drew) (by exact ⟨HS3.out.1, HS3.out.2.1, HS3.out.2.2.1, HS3.out.2.2.2.drew⟩) hb); have HD5 := Lib.hid (Nt.at_below (w := w3.drew) (by exact HD3.out) hb); have HR5 := Lib.hid hr; have HRN : Hid (NB (w.heap.size + 3) (.slice RA rm rc)) := Lib.hid (hnr.mono (by show w.heap.size + 3 ≤ w3.heap.size; omega)); have t0 : w5.cell? ⟨w.heap.size, 0, none⟩ = some (.bool s1) := HS5.out.1.cell 0; have t1 := HS5.out.2.2.1.cell 0; have t2 := HS5.out.2.2.1.cell 1; have t3 := HS5.out.2.2.1.cell 2; have f0 := HS5.out.2.2.1.frozen 0; have f1 := HS5.out.2.2.1.frozen 1; have f2 := HS5.out.2.2.1.frozen 2; have hz5 : w.heap.size + 1 + 1 < w5.heap.size := HS5.out.2.2.1.lt; simp at t1 t2 t3; clear hr hnr hb CS))
    clear t0 t1 t2 t3 f0 f1 f2 hz3 j00 j10
    go_wp2
    refine bodyPost_ret (results_block (g := w.heap.size + 1 + 1) (T := 84) rfl rfl (by exact ((HS5.out.2.2.1.set 0 _).set 1 _).set 2 _) rfl Tryd.underlying84 rfl (by kernel_rfl)) rfl ?_
    refine ⟨_, rfl, ?_, ?_⟩
    · rw [HFF.out]
      refine ⟨_, _, rfl, ?_, ?_⟩
      · exact ((HR5.out.set_far HRN.out (by dsimp only; omega) _).set_far HRN.out (by dsimp only; omega) _).set_far HRN.out (by dsimp only; omega) _
      · exact ((HD5.out.set_far HDN.out (by dsimp only; omega) _).set_far HDN.out (by dsimp only; omega) _).set_far HDN.out (by dsimp only; omega) _
    · exact ((HS5.out.2.2.2.setCell (by dsimp only; omega) _).setCell (by dsimp only; omega) _).setCell (by dsimp only; omega) _
end natW
end Go.Proofs.YtllbpanfhlbbgaaDoor
