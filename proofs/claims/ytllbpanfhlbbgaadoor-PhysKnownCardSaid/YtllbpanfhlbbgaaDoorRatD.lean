/- Walks of rat.Div, and what Mul and Div answer: the rational's lowest terms. No condition. -/
import Derived.Test.YtllbpanfhlbbgaaDoorRatM
namespace Go.Proofs.YtllbpanfhlbbgaaDoor
open Go.RowKit Go.Bus Go.Rt
set_option linter.unusedVariables false
namespace ratW
set_option maxRecDepth 100000 in
set_option maxHeartbeats 1000000 in
theorem div_wrong (an ad bn bd : Int) (w : World) (h1 : -9223372036854775808 ≤ an) (h2 : an < 9223372036854775808) (h3 : ad < 9223372036854775808) (h4 : -9223372036854775808 ≤ bn) (h5 : bn < 9223372036854775808) (h6 : bd < 9223372036854775808)
    (hr : (rightB an ad && rightB bn bd) = false) :
    Calls Tryd.prog 41 #[.agg #[.int .i64 an, .int .i64 ad], .agg #[.int .i64 bn, .int .i64 bd]] w fun e w' => e = .returned (ratE 1) ∧ Below w.heap.size w w' := by
  cases ha : rightB an ad
  · go_enter Tryd.func41, Tryd.ntmps41
    go_wp2_with (go_at_call 39; refine (right_any _ _ _ (by assumption) (by assumption) (by assumption)).mono ?_; rintro e w1 ⟨he, hb⟩; rw [ha] at he; subst he; obtain ⟨hc, hf⟩ := bcell hb; have hz := hb.size; (try simp at hz); have hB : Below w.heap.size w w1 := Below.trans (by repeat' (first | (with_reducible assumption) | (with_reducible refine Below.setCell ?_ ?_ _) | (with_reducible refine Below.alloc ?_ ?_ _) | (with_reducible refine Below.drew ?_) | (with_reducible refine below_drewN ?_ _) | (with_reducible exact Below.refl _ _) | (show _ ≤ _; (try simp); (try omega); done) | exact Below.refl _ _ | assumption)) (hb.mono (by (try simp); (try omega))))
    have d0 : w1.cell? ⟨w.heap.size + 2, 0, none⟩ = some (.int .i64 0) := (hc _ _ (by simp)).trans (by simp [go_sem])
    have d1 : w1.cell? ⟨w.heap.size + 2, 1, none⟩ = some (.int .i64 0) := (hc _ _ (by simp)).trans (by simp [go_sem])
    refine bodyPost_ret (v := ratE 1) (by simp [results, Tryd.results41, go_sem, ratE, d0, d1]) rfl ?_
    exact ⟨rfl, (by repeat' (first | (with_reducible assumption) | (with_reducible refine Below.setCell ?_ ?_ _) | (with_reducible refine Below.alloc ?_ ?_ _) | (with_reducible refine Below.drew ?_) | (with_reducible refine below_drewN ?_ _) | (with_reducible exact Below.refl _ _) | (show _ ≤ _; (try simp); (try omega); done) | exact Below.refl _ _ | assumption))⟩
  · have hb0 : rightB bn bd = false := by rw [ha, Bool.true_and] at hr; exact hr
    have HA := Lib.hid ha; have HB := Lib.hid hb0
    clear ha hb0 hr
    go_enter Tryd.func41, Tryd.ntmps41
    go_wp2_with (go_at_call 39; first
      | (refine (right_any _ _ _ (by omega) (by omega) (by omega)).mono ?_; rintro e w1 ⟨he, hb_w1⟩; rw [HA.out] at he; clear HA; subst he; obtain ⟨hc_w1, hf_w1⟩ := bcell hb_w1; have hz_w1 := hb_w1.size; (try simp at hz_w1); have hB_w1 : Below w.heap.size w w1 := Below.trans (by repeat' (first | (with_reducible assumption) | (with_reducible refine Below.setCell ?_ ?_ _) | (with_reducible refine Below.alloc ?_ ?_ _) | (with_reducible refine Below.drew ?_) | (with_reducible refine below_drewN ?_ _) | (with_reducible exact Below.refl _ _) | (show _ ≤ _; (try simp); (try omega); done) | exact Below.refl _ _ | assumption)) (hb_w1.mono (by (try simp); (try omega))); have z_w1_0 : w.heap.size < w1.heap.size := (by omega); have z_w1_1 : w.heap.size + 1 < w1.heap.size := (by omega); have z_w1_2 : w.heap.size + 2 < w1.heap.size := (by omega))
      | (refine (right_any _ _ _ (by omega) (by omega) (by omega)).mono ?_; rintro e w2 ⟨he, hb_w2⟩; rw [HB.out] at he; clear HB; subst he; obtain ⟨hc_w2, hf_w2⟩ := bcell hb_w2; have hz_w2 := hb_w2.size; (try simp at hz_w2); have hB_w2 : Below w.heap.size w w2 := Below.trans (by repeat' (first | (with_reducible assumption) | (with_reducible refine Below.setCell ?_ ?_ _) | (with_reducible refine Below.alloc ?_ ?_ _) | (with_reducible refine Below.drew ?_) | (with_reducible refine below_drewN ?_ _) | (with_reducible exact Below.refl _ _) | (show _ ≤ _; (try simp); (try omega); done) | exact Below.refl _ _ | assumption)) (hb_w2.mono (by (try simp); (try omega))); have z_w2_0 : w.heap.size < w2.heap.size := (by omega); have z_w2_1 : w.heap.size + 1 < w2.heap.size := (by omega); have z_w2_2 : w.heap.size + 2 < w2.heap.size := (by omega)))
    have d0 : w2.cell? ⟨w.heap.size + 2, 0, none⟩ = some (.int .i64 0) := by go_simp
    have d1 : w2.cell? ⟨w.heap.size + 2, 1, none⟩ = some (.int .i64 0) := by go_simp
    refine bodyPost_ret (v := ratE 1) (by simp [results, Tryd.results41, go_sem, ratE, d0, d1]) rfl ?_
    exact ⟨rfl, (by repeat' (first | (with_reducible assumption) | (with_reducible refine Below.setCell ?_ ?_ _) | (with_reducible refine Below.alloc ?_ ?_ _) | (with_reducible refine Below.drew ?_) | (with_reducible refine below_drewN ?_ _) | (with_reducible exact Below.refl _ _) | (show _ ≤ _; (try simp); (try omega); done) | exact Below.refl _ _ | assumption))⟩

set_option maxRecDepth 100000 in
set_option maxHeartbeats 1000000 in
theorem div_zero (an ad bd : Int) (w : World) (h1 : -9223372036854775808 ≤ an) (h2 : an < 9223372036854775808) (h3 : ad < 9223372036854775808) (h6 : bd < 9223372036854775808)
    (ha : rightB an ad = true) (hb : rightB 0 bd = true) :
    Calls Tryd.prog 41 #[.agg #[.int .i64 an, .int .i64 ad], .agg #[.int .i64 0, .int .i64 bd]] w fun e w' => e = .returned (ratE 10) ∧ Below w.heap.size w w' := by
  have HA := Lib.hid ha; have HB := Lib.hid hb
  clear ha hb
  go_enter Tryd.func41, Tryd.ntmps41
  go_wp2_with (go_at_call 39; first
    | (refine (right_any _ _ _ (by omega) (by omega) (by omega)).mono ?_; rintro e w1 ⟨he, hb_w1⟩; rw [HA.out] at he; clear HA; subst he; obtain ⟨hc_w1, hf_w1⟩ := bcell hb_w1; have hz_w1 := hb_w1.size; (try simp at hz_w1); have hB_w1 : Below w.heap.size w w1 := Below.trans (by repeat' (first | (with_reducible assumption) | (with_reducible refine Below.setCell ?_ ?_ _) | (with_reducible refine Below.alloc ?_ ?_ _) | (with_reducible refine Below.drew ?_) | (with_reducible refine below_drewN ?_ _) | (with_reducible exact Below.refl _ _) | (show _ ≤ _; (try simp); (try omega); done) | exact Below.refl _ _ | assumption)) (hb_w1.mono (by (try simp); (try omega))); have z_w1_0 : w.heap.size < w1.heap.size := (by omega); have z_w1_1 : w.heap.size + 1 < w1.heap.size := (by omega); have z_w1_2 : w.heap.size + 2 < w1.heap.size := (by omega))
    | (refine (right_any _ _ _ (by omega) (by omega) (by omega)).mono ?_; rintro e w2 ⟨he, hb_w2⟩; rw [HB.out] at he; clear HB; subst he; obtain ⟨hc_w2, hf_w2⟩ := bcell hb_w2; have hz_w2 := hb_w2.size; (try simp at hz_w2); have hB_w2 : Below w.heap.size w w2 := Below.trans (by repeat' (first | (with_reducible assumption) | (with_reducible refine Below.setCell ?_ ?_ _) | (with_reducible refine Below.alloc ?_ ?_ _) | (with_reducible refine Below.drew ?_) | (with_reducible refine below_drewN ?_ _) | (with_reducible exact Below.refl _ _) | (show _ ≤ _; (try simp); (try omega); done) | exact Below.refl _ _ | assumption)) (hb_w2.mono (by (try simp); (try omega))); have z_w2_0 : w.heap.size < w2.heap.size := (by omega); have z_w2_1 : w.heap.size + 1 < w2.heap.size := (by omega); have z_w2_2 : w.heap.size + 2 < w2.heap.size := (by omega)))
  have d0 : w2.cell? ⟨w.heap.size + 2, 0, none⟩ = some (.int .i64 0) := by go_simp
  have d1 : w2.cell? ⟨w.heap.size + 2, 1, none⟩ = some (.int .i64 0) := by go_simp
  refine bodyPost_ret (v := ratE 10) (by simp [results, Tryd.results41, go_sem, ratE, d0, d1]) rfl ?_
  exact ⟨rfl, (by repeat' (first | (with_reducible assumption) | (with_reducible refine Below.setCell ?_ ?_ _) | (with_reducible refine Below.alloc ?_ ?_ _) | (with_reducible refine Below.drew ?_) | (with_reducible refine below_drewN ?_ _) | (with_reducible exact Below.refl _ _) | (show _ ≤ _; (try simp); (try omega); done) | exact Below.refl _ _ | assumption))⟩
set_option maxRecDepth 100000 in
set_option maxHeartbeats 2000000 in
theorem div_go (an bn : Int) (ad bd a b : Nat) (sa sb neg : Bool) (w : World) (h1 : -9223372036854775808 ≤ an) (h2 : an < 9223372036854775808) (h3 : ad < 9223372036854775808) (h4 : -9223372036854775808 ≤ bn) (h5 : bn < 9223372036854775808) (h6 : bd < 9223372036854775808)
    (ha : rightB an ad = true) (hb : rightB bn bd = true) (hA : a = an.natAbs) (hB : b = bn.natAbs) (s1 : decide (an < 0) = sa) (s2 : decide (bn < 0) = sb) (s3 : (!(sa == sb)) = neg) (hb0 : (bn == 0) = false) (r : Option (Int × Int)) (hr : fitR (Rat.divInt (sg neg (a * bd)) ((ad * b : Nat) : Int)) = r) :
    Calls Tryd.prog 41 #[.agg #[.int .i64 an, .int .i64 ad], .agg #[.int .i64 bn, .int .i64 bd]] w fun e w' => e = .returned (ratV r) ∧ Below w.heap.size w w' := by
  obtain ⟨p1, p2⟩ := right_no ha
  obtain ⟨p3, p4⟩ := right_no hb
  rw [Int.toNat_natCast] at p2 p4
  rw [← hA] at p2
  rw [← hB] at p4
  have e1 := wrapN ad (by omega)
  have e2 := wrapN bd (by omega)
  have SA : Hid (a < 18446744073709551616) := Lib.hid (by omega)
  have SB : Hid (b < 18446744073709551616) := Lib.hid (by omega)
  have HR := Lib.hid hr; have P1 := Lib.hid p1; have P2 := Lib.hid p2; have P3 := Lib.hid p3; have P4 := Lib.hid p4
  have HA := Lib.hid ha; have HB := Lib.hid hb; have A1 := Lib.hid hA; have B1 := Lib.hid hB
  have B0 := Lib.hid (show 0 < b by rw [hB]; simp at hb0; omega)
  clear hr p1 p2 p3 p4 ha hb hA hB
  go_enter Tryd.func41, Tryd.ntmps41
  go_wp2_with (go_at_call 39; first
    | (refine (right_any _ _ _ (by omega) (by omega) (by omega)).mono ?_; rintro e w1 ⟨he, hb_w1⟩; rw [HA.out] at he; clear HA; subst he; obtain ⟨hc_w1, hf_w1⟩ := bcell hb_w1; have hz_w1 := hb_w1.size; (try simp at hz_w1); have hB_w1 : Below w.heap.size w w1 := Below.trans (by repeat' (first | (with_reducible assumption) | (with_reducible refine Below.setCell ?_ ?_ _) | (with_reducible refine Below.alloc ?_ ?_ _) | (with_reducible refine Below.drew ?_) | (with_reducible refine below_drewN ?_ _) | (with_reducible exact Below.refl _ _) | (show _ ≤ _; (try simp); (try omega); done) | exact Below.refl _ _ | assumption)) (hb_w1.mono (by (try simp); (try omega))); have z_w1_0 : w.heap.size < w1.heap.size := (by omega); have z_w1_1 : w.heap.size + 1 < w1.heap.size := (by omega); have z_w1_2 : w.heap.size + 2 < w1.heap.size := (by omega))
    | (refine (right_any _ _ _ (by omega) (by omega) (by omega)).mono ?_; rintro e w2 ⟨he, hb_w2⟩; rw [HB.out] at he; clear HB; subst he; obtain ⟨hc_w2, hf_w2⟩ := bcell hb_w2; have hz_w2 := hb_w2.size; (try simp at hz_w2); have hB_w2 : Below w.heap.size w w2 := Below.trans (by repeat' (first | (with_reducible assumption) | (with_reducible refine Below.setCell ?_ ?_ _) | (with_reducible refine Below.alloc ?_ ?_ _) | (with_reducible refine Below.drew ?_) | (with_reducible refine below_drewN ?_ _) | (with_reducible exact Below.refl _ _) | (show _ ≤ _; (try simp); (try omega); done) | exact Below.refl _ _ | assumption)) (hb_w2.mono (by (try simp); (try omega))); have z_w2_0 : w.heap.size < w2.heap.size := (by omega); have z_w2_1 : w.heap.size + 1 < w2.heap.size := (by omega); have z_w2_2 : w.heap.size + 2 < w2.heap.size := (by omega)))
  have c0 : w2.cell? ⟨w.heap.size, 0, none⟩ = some (.int .i64 an) := by go_simp
  have c1 : w2.cell? ⟨w.heap.size, 1, none⟩ = some (.int .i64 ad) := by go_simp
  have c2 : w2.cell? ⟨w.heap.size + 1, 0, none⟩ = some (.int .i64 bn) := by go_simp
  have c3 : w2.cell? ⟨w.heap.size + 1, 1, none⟩ = some (.int .i64 bd) := by go_simp
  have c4 : w2.cell? ⟨w.heap.size + 2, 0, none⟩ = some (.int .i64 0) := by go_simp
  have c5 : w2.cell? ⟨w.heap.size + 2, 1, none⟩ = some (.int .i64 0) := by go_simp
  have f4 : w2.frozen? ⟨w.heap.size + 2, 0, none⟩ = false := by go_simp
  have f5 : w2.frozen? ⟨w.heap.size + 2, 1, none⟩ = false := by go_simp
  clear hc_w2 hf_w2 hc_w1 hf_w1 hb_w1 hb_w2 hz_w1 hz_w2
  have HB2 := Lib.hid hB_w2; clear hB_w2 hB_w1
  clear z_w2_1 z_w2_0 z_w1_0 z_w1_1 z_w1_2
  obtain ⟨x, y, er, hv⟩ : ∃ x y er, ratV r = .tuple #[.agg #[.int .i64 x, .int .i64 y], er] := by
    cases r with
    | none => exact ⟨_, _, _, rfl⟩
    | some q => exact ⟨q.1, q.2, _, rfl⟩
  have HP : Hid (∀ w, Calls Tryd.prog 52 #[.bool neg, .int .u64 a, .int .u64 ad, .int .u64 bd, .int .u64 b] w fun e w' => e = .returned (.tuple #[.agg #[.int .i64 x, .int .i64 y], er]) ∧ Below w.heap.size w w') := Lib.hid fun w => by
    have := product_v neg a ad bd b r w SA.out (by omega) (by omega) SB.out (by have := P1.out; omega) B0.out P2.out P4.out.symm HR.out
    rw [hv] at this; exact this
  have HV := Lib.hid hv
  clear hv HR P1 P2 P3 P4 SA SB
  go_region_held3 (fun w' => w'.cell? ⟨w.heap.size, 0, none⟩ = some (.int .i64 an) ∧ w'.cell? ⟨w.heap.size, 1, none⟩ = some (.int .i64 ad) ∧ w'.cell? ⟨w.heap.size + 1, 0, none⟩ = some (.int .i64 bn) ∧ w'.cell? ⟨w.heap.size + 1, 1, none⟩ = some (.int .i64 bd))
    (refine ⟨?_, ?_, ?_, ?_⟩ <;> first | assumption | (show w2.cell? _ = _; assumption) | (go_simp; done))
    (first
    | (go_at_call 53; refine (size_v _ _ _ (by omega) (by omega) (by first | exact A1.out | exact B1.out)).mono ?_; rintro e w' ⟨rfl, rfl⟩)
    | (go_at_call 52; refine (HP.out _).mono ?_; rintro e w3 ⟨rfl, hb_w3⟩
       have hc : ∀ o, w3.cell? ⟨w.heap.size + 2, o, none⟩ = w2.cell? ⟨w.heap.size + 2, o, none⟩ := fun o => hb_w3.cell (p := ⟨w.heap.size + 2, o, none⟩) z_w2_2
       have hf : ∀ o, w3.frozen? ⟨w.heap.size + 2, o, none⟩ = w2.frozen? ⟨w.heap.size + 2, o, none⟩ := fun o => hb_w3.frozen (p := ⟨w.heap.size + 2, o, none⟩) z_w2_2
       have e0 : w3.cell? ⟨w.heap.size, 0, none⟩ = some (.int .i64 an) := (hb_w3.cell (p := ⟨w.heap.size, 0, none⟩) (show w.heap.size < w2.heap.size by omega)).trans c0
       have e1 : w3.cell? ⟨w.heap.size, 1, none⟩ = some (.int .i64 ad) := (hb_w3.cell (p := ⟨w.heap.size, 1, none⟩) (show w.heap.size < w2.heap.size by omega)).trans c1
       have e2 : w3.cell? ⟨w.heap.size + 1, 0, none⟩ = some (.int .i64 bn) := (hb_w3.cell (p := ⟨w.heap.size + 1, 0, none⟩) (show w.heap.size + 1 < w2.heap.size by omega)).trans c2
       have e3 : w3.cell? ⟨w.heap.size + 1, 1, none⟩ = some (.int .i64 bd) := (hb_w3.cell (p := ⟨w.heap.size + 1, 1, none⟩) (show w.heap.size + 1 < w2.heap.size by omega)).trans c3
       have d4 := (hc 0).trans c4
       have d5 := (hc 1).trans c5
       have g4 := (hf 0).trans f4
       have g5 := (hf 1).trans f5
       have H3 : Hid (Below w.heap.size w w3) := Lib.hid (HB2.out.trans ((show Below w2.heap.size w2 w3 from ⟨hb_w3.os, hb_w3.tape, hb_w3.output, hb_w3.size, hb_w3.block⟩).mono (by omega)))
       clear hc hf))
  all_goals
    have hB := H3.out
    go_wp2
    refine bodyPost_ret (v := ratV r) (by rw [HV.out]; simp [results, Tryd.results41, go_sem, d4, d5]) rfl ?_
    exact ⟨rfl, (by repeat' (first | (with_reducible assumption) | (with_reducible refine Below.setCell ?_ ?_ _) | (with_reducible refine Below.alloc ?_ ?_ _) | (with_reducible refine Below.drew ?_) | (with_reducible refine below_drewN ?_ _) | (with_reducible exact Below.refl _ _) | (show _ ≤ _; (try simp); (try omega); done) | exact Below.refl _ _ | assumption))⟩
def Q (n d : Int) : Rat := Rat.divInt n d
def mulO (an ad bn bd : Int) : Option (Int × Int) := fitR (Q an ad * Q bn bd)
def divO (an ad bn bd : Int) : Option (Int × Int) := fitR (Q an ad / Q bn bd)
def mulV (an ad bn bd : Int) : Value := if rightB an ad && rightB bn bd then ratV (mulO an ad bn bd) else ratE 1
def divV (an ad bn bd : Int) : Value := if rightB an ad && rightB bn bd then (if bn = 0 then ratE 10 else ratV (divO an ad bn bd)) else ratE 1
theorem sgn_mul (an bn : Int) : sg (!(decide (an < 0) == decide (bn < 0))) (an.natAbs * bn.natAbs) = an * bn := by
  rcases (by omega : an < 0 ∨ 0 ≤ an) with h1 | h1 <;> rcases (by omega : bn < 0 ∨ 0 ≤ bn) with h2 | h2
  · rw [decide_eq_true h1, decide_eq_true h2]
    obtain ⟨a, rfl⟩ : ∃ a : Nat, an = -(a : Int) := ⟨an.natAbs, by omega⟩
    obtain ⟨b, rfl⟩ : ∃ b : Nat, bn = -(b : Int) := ⟨bn.natAbs, by omega⟩
    simp [sg]
    exact (Int.neg_mul_neg _ _).symm
  · rw [decide_eq_true h1, decide_eq_false (show ¬ bn < 0 by omega)]
    obtain ⟨a, rfl⟩ : ∃ a : Nat, an = -(a : Int) := ⟨an.natAbs, by omega⟩
    obtain ⟨b, rfl⟩ : ∃ b : Nat, bn = (b : Int) := ⟨bn.natAbs, by omega⟩
    simp [sg]
    exact (Int.neg_mul _ _).symm
  · rw [decide_eq_false (show ¬ an < 0 by omega), decide_eq_true h2]
    obtain ⟨a, rfl⟩ : ∃ a : Nat, an = (a : Int) := ⟨an.natAbs, by omega⟩
    obtain ⟨b, rfl⟩ : ∃ b : Nat, bn = -(b : Int) := ⟨bn.natAbs, by omega⟩
    simp [sg]
    exact (Int.mul_neg _ _).symm
  · rw [decide_eq_false (show ¬ an < 0 by omega), decide_eq_false (show ¬ bn < 0 by omega)]
    obtain ⟨a, rfl⟩ : ∃ a : Nat, an = (a : Int) := ⟨an.natAbs, by omega⟩
    obtain ⟨b, rfl⟩ : ∃ b : Nat, bn = (b : Int) := ⟨bn.natAbs, by omega⟩
    simp [sg]
theorem mul_q2 {an bn : Int} {ad bd : Nat} (ha : 0 < ad) (hb : 0 < bd) : Rat.divInt (sg (!(decide (an < 0) == decide (bn < 0))) (an.natAbs * bn.natAbs)) ((ad * bd : Nat) : Int) = Q an ad * Q bn bd := by
  unfold Q
  rw [sgn_mul, Rat.divInt_mul_divInt, Int.natCast_mul]
theorem div_q2 {an bn : Int} {ad bd : Nat} (ha : 0 < ad) (hb : 0 < bd) (h0 : bn ≠ 0) : Rat.divInt (sg (!(decide (an < 0) == decide (bn < 0))) (an.natAbs * bd)) ((ad * bn.natAbs : Nat) : Int) = Q an ad / Q bn bd := by
  have h4 : (ad : Int) * bn ≠ 0 := Int.mul_ne_zero (by omega) h0
  have h5 : ((ad * bn.natAbs : Nat) : Int) ≠ 0 := by have : 0 < ad * bn.natAbs := Nat.mul_pos ha (by omega); omega
  unfold Q
  rw [Rat.div_def, Rat.inv_divInt, Rat.divInt_mul_divInt, Rat.divInt_eq_divInt_iff h5 h4]
  have h := sgn_mul an bn
  have h2 : sg (!(decide (an < 0) == decide (bn < 0))) (an.natAbs * bd) * (bn.natAbs : Int) = sg (!(decide (an < 0) == decide (bn < 0))) (an.natAbs * bn.natAbs) * bd := by
    unfold sg
    cases (!(decide (an < 0) == decide (bn < 0))) <;> simp only [Int.natCast_mul, if_true, if_false, Bool.false_eq_true] <;> grind
  rcases (by omega : bn < 0 ∨ 0 ≤ bn) with hn | hn
  · obtain ⟨b, rfl⟩ : ∃ b : Nat, bn = -(b : Int) := ⟨bn.natAbs, by omega⟩
    rw [h] at h2
    simp only [Int.natAbs_neg, Int.natAbs_natCast] at h2 ⊢
    generalize sg _ _ = x at h2 ⊢
    rw [Int.natCast_mul]
    grind
  · obtain ⟨b, rfl⟩ : ∃ b : Nat, bn = (b : Int) := ⟨bn.natAbs, by omega⟩
    rw [h] at h2
    simp only [Int.natAbs_natCast] at h2 ⊢
    generalize sg _ _ = x at h2 ⊢
    rw [Int.natCast_mul]
    grind
theorem mul_val (an ad bn bd : Int) (w : World) (h1 : -9223372036854775808 ≤ an) (h2 : an < 9223372036854775808) (h3 : ad < 9223372036854775808) (h4 : -9223372036854775808 ≤ bn) (h5 : bn < 9223372036854775808) (h6 : bd < 9223372036854775808) :
    Calls Tryd.prog 29 #[.agg #[.int .i64 an, .int .i64 ad], .agg #[.int .i64 bn, .int .i64 bd]] w fun e w' => e = .returned (mulV an ad bn bd) ∧ Below w.heap.size w w' := by
  unfold mulV
  by_cases h : (rightB an ad && rightB bn bd) = true
  · rw [if_pos h]
    obtain ⟨ha, hb⟩ := Bool.and_eq_true_iff.1 h
    obtain ⟨p1, _⟩ := right_no ha
    obtain ⟨p3, _⟩ := right_no hb
    obtain ⟨x, rfl⟩ : ∃ x : Nat, ad = x := ⟨ad.toNat, by omega⟩
    obtain ⟨y, rfl⟩ : ∃ y : Nat, bd = y := ⟨bd.toNat, by omega⟩
    exact mul_go an bn x y _ _ _ _ _ w h1 h2 (by omega) h4 h5 (by omega) ha hb rfl rfl rfl rfl rfl _ (by rw [mulO, ← mul_q2 (by omega) (by omega)])
  · rw [if_neg h]
    exact mul_wrong an ad bn bd w h1 h2 h3 h4 h5 h6 (by simpa using h)
theorem div_val (an ad bn bd : Int) (w : World) (h1 : -9223372036854775808 ≤ an) (h2 : an < 9223372036854775808) (h3 : ad < 9223372036854775808) (h4 : -9223372036854775808 ≤ bn) (h5 : bn < 9223372036854775808) (h6 : bd < 9223372036854775808) :
    Calls Tryd.prog 41 #[.agg #[.int .i64 an, .int .i64 ad], .agg #[.int .i64 bn, .int .i64 bd]] w fun e w' => e = .returned (divV an ad bn bd) ∧ Below w.heap.size w w' := by
  unfold divV
  by_cases h : (rightB an ad && rightB bn bd) = true
  · rw [if_pos h]
    obtain ⟨ha, hb⟩ := Bool.and_eq_true_iff.1 h
    by_cases h0 : bn = 0
    · subst h0
      rw [if_pos rfl]
      exact div_zero an ad bd w h1 h2 h3 h6 ha hb
    · rw [if_neg h0]
      obtain ⟨p1, _⟩ := right_no ha
      obtain ⟨p3, _⟩ := right_no hb
      obtain ⟨x, rfl⟩ : ∃ x : Nat, ad = x := ⟨ad.toNat, by omega⟩
      obtain ⟨y, rfl⟩ : ∃ y : Nat, bd = y := ⟨bd.toNat, by omega⟩
      exact div_go an bn x y _ _ _ _ _ w h1 h2 (by omega) h4 h5 (by omega) ha hb rfl rfl rfl rfl rfl (by simpa using h0) _ (by rw [divO, ← div_q2 (by omega) (by omega) h0])
  · rw [if_neg h]
    exact div_wrong an ad bn bd w h1 h2 h3 h4 h5 h6 (by simpa using h)
end ratW
end Go.Proofs.YtllbpanfhlbbgaaDoor
