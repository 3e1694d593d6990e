/- Walks of rat.Mul and rat.Div. No condition. -/
import Derived.Test.YtllbpanfhlbbgaaDoorRatP
import Derived.Deep.RegionHeld3
import Derived.Deep.RegionWith
namespace Go.Proofs.YtllbpanfhlbbgaaDoor
open Go.RowKit Go.Bus Go.Rt
set_option linter.unusedVariables false
namespace ratW
def ratE (k : Int) : Value := .tuple #[.agg #[.int .i64 0, .int .i64 0], .iface 64 (.int .i64 k)]
theorem right_no {n d : Int} (h : rightB n d = true) : 1 ≤ d ∧ Nat.Coprime n.natAbs d.toNat := by
  unfold rightB at h
  rw [Bool.and_eq_true, decide_eq_true_eq, beq_iff_eq] at h
  exact h

set_option maxRecDepth 100000 in
set_option maxHeartbeats 1000000 in
theorem mul_wrong (an ad bn bd : Int) (w : World) (h1 : -9223372036854775808 ≤ an) (h2 : an < 9223372036854775808) (h3 : ad < 9223372036854775808) (h4 : -9223372036854775808 ≤ bn) (h5 : bn < 9223372036854775808) (h6 : bd < 9223372036854775808)
    (hr : (rightB an ad && rightB bn bd) = false) :
    Calls Tryd.prog 29 #[.agg #[.int .i64 an, .int .i64 ad], .agg #[.int .i64 bn, .int .i64 bd]] w fun e w' => e = .returned (ratE 1) ∧ Below w.heap.size w w' := by
  cases ha : rightB an ad
  · go_enter Tryd.func29, Tryd.ntmps29
    go_wp2_with (go_at_call 39; refine (right_any _ _ _ (by assumption) (by assumption) (by assumption)).mono ?_; rintro e w1 ⟨he, hb⟩; rw [ha] at he; subst he; obtain ⟨hc, hf⟩ := bcell hb; have hz := hb.size; (try simp at hz); have hB : Below w.heap.size w w1 := Below.trans (by repeat' (first | (with_reducible assumption) | (with_reducible refine Below.setCell ?_ ?_ _) | (with_reducible refine Below.alloc ?_ ?_ _) | (with_reducible refine Below.drew ?_) | (with_reducible refine below_drewN ?_ _) | (with_reducible exact Below.refl _ _) | (show _ ≤ _; (try simp); (try omega); done) | exact Below.refl _ _ | assumption)) (hb.mono (by (try simp); (try omega))))
    have d0 : w1.cell? ⟨w.heap.size + 2, 0, none⟩ = some (.int .i64 0) := (hc _ _ (by simp)).trans (by simp [go_sem])
    have d1 : w1.cell? ⟨w.heap.size + 2, 1, none⟩ = some (.int .i64 0) := (hc _ _ (by simp)).trans (by simp [go_sem])
    refine bodyPost_ret (v := ratE 1) (by simp [results, Tryd.results29, go_sem, ratE, d0, d1]) rfl ?_
    exact ⟨rfl, (by repeat' (first | (with_reducible assumption) | (with_reducible refine Below.setCell ?_ ?_ _) | (with_reducible refine Below.alloc ?_ ?_ _) | (with_reducible refine Below.drew ?_) | (with_reducible refine below_drewN ?_ _) | (with_reducible exact Below.refl _ _) | (show _ ≤ _; (try simp); (try omega); done) | exact Below.refl _ _ | assumption))⟩
  · have hb0 : rightB bn bd = false := by rw [ha, Bool.true_and] at hr; exact hr
    have HA := Lib.hid ha; have HB := Lib.hid hb0
    clear ha hb0 hr
    go_enter Tryd.func29, Tryd.ntmps29
    go_wp2_with (go_at_call 39; first
      | (refine (right_any _ _ _ (by omega) (by omega) (by omega)).mono ?_; rintro e w1 ⟨he, hb_w1⟩; rw [HA.out] at he; clear HA; subst he; obtain ⟨hc_w1, hf_w1⟩ := bcell hb_w1; have hz_w1 := hb_w1.size; (try simp at hz_w1); have hB_w1 : Below w.heap.size w w1 := Below.trans (by repeat' (first | (with_reducible assumption) | (with_reducible refine Below.setCell ?_ ?_ _) | (with_reducible refine Below.alloc ?_ ?_ _) | (with_reducible refine Below.drew ?_) | (with_reducible refine below_drewN ?_ _) | (with_reducible exact Below.refl _ _) | (show _ ≤ _; (try simp); (try omega); done) | exact Below.refl _ _ | assumption)) (hb_w1.mono (by (try simp); (try omega))); have z_w1_0 : w.heap.size < w1.heap.size := (by omega); have z_w1_1 : w.heap.size + 1 < w1.heap.size := (by omega); have z_w1_2 : w.heap.size + 2 < w1.heap.size := (by omega))
      | (refine (right_any _ _ _ (by omega) (by omega) (by omega)).mono ?_; rintro e w2 ⟨he, hb_w2⟩; rw [HB.out] at he; clear HB; subst he; obtain ⟨hc_w2, hf_w2⟩ := bcell hb_w2; have hz_w2 := hb_w2.size; (try simp at hz_w2); have hB_w2 : Below w.heap.size w w2 := Below.trans (by repeat' (first | (with_reducible assumption) | (with_reducible refine Below.setCell ?_ ?_ _) | (with_reducible refine Below.alloc ?_ ?_ _) | (with_reducible refine Below.drew ?_) | (with_reducible refine below_drewN ?_ _) | (with_reducible exact Below.refl _ _) | (show _ ≤ _; (try simp); (try omega); done) | exact Below.refl _ _ | assumption)) (hb_w2.mono (by (try simp); (try omega))); have z_w2_0 : w.heap.size < w2.heap.size := (by omega); have z_w2_1 : w.heap.size + 1 < w2.heap.size := (by omega); have z_w2_2 : w.heap.size + 2 < w2.heap.size := (by omega)))
    have d0 : w2.cell? ⟨w.heap.size + 2, 0, none⟩ = some (.int .i64 0) := by go_simp
    have d1 : w2.cell? ⟨w.heap.size + 2, 1, none⟩ = some (.int .i64 0) := by go_simp
    refine bodyPost_ret (v := ratE 1) (by simp [results, Tryd.results29, go_sem, ratE, d0, d1]) rfl ?_
    exact ⟨rfl, (by repeat' (first | (with_reducible assumption) | (with_reducible refine Below.setCell ?_ ?_ _) | (with_reducible refine Below.alloc ?_ ?_ _) | (with_reducible refine Below.drew ?_) | (with_reducible refine below_drewN ?_ _) | (with_reducible exact Below.refl _ _) | (show _ ≤ _; (try simp); (try omega); done) | exact Below.refl _ _ | assumption))⟩

theorem size_v (n : Int) (a : Nat) (w : World) (h1 : -9223372036854775808 ≤ n) (h2 : n < 9223372036854775808) (ha : a = n.natAbs) :
    Calls Tryd.prog 53 #[.int .i64 n] w fun e w' => e = .returned (.int .u64 (a : Int)) ∧ w = w' := by
  subst ha; exact size_any n w h1 h2
theorem size_s (n : Int) (a : Nat) (w : World) (h1 : -9223372036854775808 ≤ n) (h2 : n < 9223372036854775808) (ha : a = n.natAbs) :
    Calls Tryd.prog 53 #[.int .i64 n] w fun e w' => e = .returned (.int .u64 (a : Int)) ∧ w' = w :=
  (size_v n a w h1 h2 ha).mono fun e w' ⟨he, hw⟩ => ⟨he, hw.symm⟩
theorem product_v (neg : Bool) (an ad bn bd : Nat) (r : Option (Int × Int)) (w : World) (h1 : an < 18446744073709551616) (h2 : ad < 18446744073709551616) (h3 : bn < 18446744073709551616) (h4 : bd < 18446744073709551616) (ha : 0 < ad) (hb : 0 < bd) (ca : Nat.Coprime an ad) (cb : Nat.Coprime bn bd)
    (hr : fitR (Rat.divInt (sg neg (an * bn)) ((ad * bd : Nat) : Int)) = r) :
    Calls Tryd.prog 52 #[.bool neg, .int .u64 an, .int .u64 ad, .int .u64 bn, .int .u64 bd] w fun e w' => e = .returned (ratV r) ∧ Below w.heap.size w w' := by
  subst hr; exact product_any neg an ad bn bd w h1 h2 h3 h4 ha hb ca cb

set_option maxRecDepth 100000 in
set_option maxHeartbeats 2000000 in
theorem mul_go (an bn : Int) (ad bd a b : Nat) (sa sb neg : Bool) (w : World) (h1 : -9223372036854775808 ≤ an) (h2 : an < 9223372036854775808) (h3 : ad < 9223372036854775808) (h4 : -9223372036854775808 ≤ bn) (h5 : bn < 9223372036854775808) (h6 : bd < 9223372036854775808)
    (ha : rightB an ad = true) (hb : rightB bn bd = true) (hA : a = an.natAbs) (hB : b = bn.natAbs) (s1 : decide (an < 0) = sa) (s2 : decide (bn < 0) = sb) (s3 : (!(sa == sb)) = neg) (r : Option (Int × Int)) (hr : fitR (Rat.divInt (sg neg (a * b)) ((ad * bd : Nat) : Int)) = r) :
    Calls Tryd.prog 29 #[.agg #[.int .i64 an, .int .i64 ad], .agg #[.int .i64 bn, .int .i64 bd]] w fun e w' => e = .returned (ratV r) ∧ Below w.heap.size w w' := by
  obtain ⟨p1, p2⟩ := right_no ha
  obtain ⟨p3, p4⟩ := right_no hb
  rw [Int.toNat_natCast] at p2 p4
  rw [← hA] at p2
  rw [← hB] at p4
  have e1 := wrapN ad (by omega)
  have e2 := wrapN bd (by omega)
  have SA : Hid (a < 18446744073709551616) := Lib.hid (by omega)
  have SB : Hid (b < 18446744073709551616) := Lib.hid (by omega)
  have HR := Lib.hid hr; have P1 := Lib.hid p1; have P2 := Lib.hid p2; have P3 := Lib.hid p3; have P4 := Lib.hid p4
  have HA := Lib.hid ha; have HB := Lib.hid hb; have A1 := Lib.hid hA; have B1 := Lib.hid hB
  clear hr p1 p2 p3 p4 ha hb hA hB
  go_enter Tryd.func29, Tryd.ntmps29
  go_wp2_with (go_at_call 39; first
    | (refine (right_any _ _ _ (by omega) (by omega) (by omega)).mono ?_; rintro e w1 ⟨he, hb_w1⟩; rw [HA.out] at he; clear HA; subst he; obtain ⟨hc_w1, hf_w1⟩ := bcell hb_w1; have hz_w1 := hb_w1.size; (try simp at hz_w1); have hB_w1 : Below w.heap.size w w1 := Below.trans (by repeat' (first | (with_reducible assumption) | (with_reducible refine Below.setCell ?_ ?_ _) | (with_reducible refine Below.alloc ?_ ?_ _) | (with_reducible refine Below.drew ?_) | (with_reducible refine below_drewN ?_ _) | (with_reducible exact Below.refl _ _) | (show _ ≤ _; (try simp); (try omega); done) | exact Below.refl _ _ | assumption)) (hb_w1.mono (by (try simp); (try omega))); have z_w1_0 : w.heap.size < w1.heap.size := (by omega); have z_w1_1 : w.heap.size + 1 < w1.heap.size := (by omega); have z_w1_2 : w.heap.size + 2 < w1.heap.size := (by omega))
    | (refine (right_any _ _ _ (by omega) (by omega) (by omega)).mono ?_; rintro e w2 ⟨he, hb_w2⟩; rw [HB.out] at he; clear HB; subst he; obtain ⟨hc_w2, hf_w2⟩ := bcell hb_w2; have hz_w2 := hb_w2.size; (try simp at hz_w2); have hB_w2 : Below w.heap.size w w2 := Below.trans (by repeat' (first | (with_reducible assumption) | (with_reducible refine Below.setCell ?_ ?_ _) | (with_reducible refine Below.alloc ?_ ?_ _) | (with_reducible refine Below.drew ?_) | (with_reducible refine below_drewN ?_ _) | (with_reducible exact Below.refl _ _) | (show _ ≤ _; (try simp); (try omega); done) | exact Below.refl _ _ | assumption)) (hb_w2.mono (by (try simp); (try omega))); have z_w2_0 : w.heap.size < w2.heap.size := (by omega); have z_w2_1 : w.heap.size + 1 < w2.heap.size := (by omega); have z_w2_2 : w.heap.size + 2 < w2.heap.size := (by omega)))
  have c0 : w2.cell? ⟨w.heap.size, 0, none⟩ = some (.int .i64 an) := by go_simp
  have c1 : w2.cell? ⟨w.heap.size, 1, none⟩ = some (.int .i64 ad) := by go_simp
  have c2 : w2.cell? ⟨w.heap.size + 1, 0, none⟩ = some (.int .i64 bn) := by go_simp
  have c3 : w2.cell? ⟨w.heap.size + 1, 1, none⟩ = some (.int .i64 bd) := by go_simp
  have c4 : w2.cell? ⟨w.heap.size + 2, 0, none⟩ = some (.int .i64 0) := by go_simp
  have c5 : w2.cell? ⟨w.heap.size + 2, 1, none⟩ = some (.int .i64 0) := by go_simp
  have f4 : w2.frozen? ⟨w.heap.size + 2, 0, none⟩ = false := by go_simp
  have f5 : w2.frozen? ⟨w.heap.size + 2, 1, none⟩ = false := by go_simp
  clear hc_w2 hf_w2 hc_w1 hf_w1 hb_w1 hb_w2 hz_w1 hz_w2
  have HB2 := Lib.hid hB_w2; clear hB_w2 hB_w1
  clear z_w2_1 z_w2_0 z_w1_0 z_w1_1 z_w1_2
  obtain ⟨x, y, er, hv⟩ : ∃ x y er, ratV r = .tuple #[.agg #[.int .i64 x, .int .i64 y], er] := by
    cases r with
    | none => exact ⟨_, _, _, rfl⟩
    | some q => exact ⟨q.1, q.2, _, rfl⟩
  have HP : Hid (∀ w, Calls Tryd.prog 52 #[.bool neg, .int .u64 a, .int .u64 ad, .int .u64 b, .int .u64 bd] w fun e w' => e = .returned (.tuple #[.agg #[.int .i64 x, .int .i64 y], er]) ∧ Below w.heap.size w w') := Lib.hid fun w => by
    have := product_v neg a ad b bd r w SA.out (by omega) SB.out (by omega) (by have := P1.out; omega) (by have := P3.out; omega) P2.out P4.out HR.out
    rw [hv] at this; exact this
  have HV := Lib.hid hv
  clear hv HR P1 P2 P3 P4 SA SB
  go_region_held3 (fun w' => w'.cell? ⟨w.heap.size, 0, none⟩ = some (.int .i64 an) ∧ w'.cell? ⟨w.heap.size, 1, none⟩ = some (.int .i64 ad) ∧ w'.cell? ⟨w.heap.size + 1, 0, none⟩ = some (.int .i64 bn) ∧ w'.cell? ⟨w.heap.size + 1, 1, none⟩ = some (.int .i64 bd))
    (refine ⟨?_, ?_, ?_, ?_⟩ <;> first | assumption | (show w2.cell? _ = _; assumption) | (go_simp; done))
    (first
    | (go_at_call 53; refine (size_v _ _ _ (by omega) (by omega) (by first | exact A1.out | exact B1.out)).mono ?_; rintro e w' ⟨rfl, rfl⟩)
    | (go_at_call 52; refine (HP.out _).mono ?_; rintro e w3 ⟨rfl, hb_w3⟩
       have hc : ∀ o, w3.cell? ⟨w.heap.size + 2, o, none⟩ = w2.cell? ⟨w.heap.size + 2, o, none⟩ := fun o => hb_w3.cell (p := ⟨w.heap.size + 2, o, none⟩) z_w2_2
       have hf : ∀ o, w3.frozen? ⟨w.heap.size + 2, o, none⟩ = w2.frozen? ⟨w.heap.size + 2, o, none⟩ := fun o => hb_w3.frozen (p := ⟨w.heap.size + 2, o, none⟩) z_w2_2
       have e0 : w3.cell? ⟨w.heap.size, 0, none⟩ = some (.int .i64 an) := (hb_w3.cell (p := ⟨w.heap.size, 0, none⟩) (show w.heap.size < w2.heap.size by omega)).trans c0
       have e1 : w3.cell? ⟨w.heap.size, 1, none⟩ = some (.int .i64 ad) := (hb_w3.cell (p := ⟨w.heap.size, 1, none⟩) (show w.heap.size < w2.heap.size by omega)).trans c1
       have e2 : w3.cell? ⟨w.heap.size + 1, 0, none⟩ = some (.int .i64 bn) := (hb_w3.cell (p := ⟨w.heap.size + 1, 0, none⟩) (show w.heap.size + 1 < w2.heap.size by omega)).trans c2
       have e3 : w3.cell? ⟨w.heap.size + 1, 1, none⟩ = some (.int .i64 bd) := (hb_w3.cell (p := ⟨w.heap.size + 1, 1, none⟩) (show w.heap.size + 1 < w2.heap.size by omega)).trans c3
       have d4 := (hc 0).trans c4
       have d5 := (hc 1).trans c5
       have g4 := (hf 0).trans f4
       have g5 := (hf 1).trans f5
       have H3 : Hid (Below w.heap.size w w3) := Lib.hid (HB2.out.trans ((show Below w2.heap.size w2 w3 from ⟨hb_w3.os, hb_w3.tape, hb_w3.output, hb_w3.size, hb_w3.block⟩).mono (by omega)))
       clear hc hf))
  all_goals
    have hB := H3.out
    go_wp2
    refine bodyPost_ret (v := ratV r) (by rw [HV.out]; simp [results, Tryd.results29, go_sem, d4, d5]) rfl ?_
    exact ⟨rfl, (by repeat' (first | (with_reducible assumption) | (with_reducible refine Below.setCell ?_ ?_ _) | (with_reducible refine Below.alloc ?_ ?_ _) | (with_reducible refine Below.drew ?_) | (with_reducible refine below_drewN ?_ _) | (with_reducible exact Below.refl _ _) | (show _ ≤ _; (try simp); (try omega); done) | exact Below.refl _ _ | assumption))⟩
end ratW
end Go.Proofs.YtllbpanfhlbbgaaDoor
