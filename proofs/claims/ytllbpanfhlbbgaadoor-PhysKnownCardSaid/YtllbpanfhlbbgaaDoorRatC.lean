/- Walks of rat.Add, Sub, Cmp and Round, and what they answer. No condition. -/
import Derived.Test.YtllbpanfhlbbgaaDoorRatA
namespace Go.Proofs.YtllbpanfhlbbgaaDoor
open Go.RowKit Go.Bus Go.Rt
set_option linter.unusedVariables false
namespace ratW
theorem sumV_of (less : Bool) (an ad bn bd : Int) : ∃ u v er, sumV less an ad bn bd = .tuple #[.agg #[.int .i64 u, .int .i64 v], er] := by
  unfold sumV
  split
  · exact u_of _
  · exact ⟨_, _, _, rfl⟩

set_option maxRecDepth 100000 in
set_option maxHeartbeats 1000000 in
theorem add_val (an ad bn bd : Int) (w : World) (h1 : -9223372036854775808 ≤ an) (h2 : an < 9223372036854775808) (h3 : ad < 9223372036854775808) (h4 : -9223372036854775808 ≤ bn) (h5 : bn < 9223372036854775808) (h6 : bd < 9223372036854775808) :
    Calls Tryd.prog 30 #[.agg #[.int .i64 an, .int .i64 ad], .agg #[.int .i64 bn, .int .i64 bd]] w fun e w' => e = .returned (sumV false an ad bn bd) ∧ Below w.heap.size w w' := by
  have HS := Lib.hid (fun w => sum_val false an ad bn bd w h1 h2 h3 h4 h5 h6)
  obtain ⟨u, v, er, hv⟩ := sumV_of false an ad bn bd
  rw [hv] at HS ⊢
  clear hv
  go_enter Tryd.func30, Tryd.ntmps30
  go_wp2_with (go_at_call 54; refine (HS.out _).mono ?_; rintro e w1 ⟨rfl, hb⟩; obtain ⟨hc, hf⟩ := bcell hb; have hz := hb.size; (try simp at hz); have hB : Below w.heap.size w w1 := Below.trans (by repeat' (first | (with_reducible assumption) | (with_reducible refine Below.setCell ?_ ?_ _) | (with_reducible refine Below.alloc ?_ ?_ _) | (with_reducible refine Below.drew ?_) | (with_reducible refine below_drewN ?_ _) | (with_reducible exact Below.refl _ _) | (show _ ≤ _; (try simp); (try omega); done) | exact Below.refl _ _ | assumption)) (hb.mono (by (try simp); (try omega))))
  have d0 : w1.cell? ⟨w.heap.size + 2, 0, none⟩ = some (.int .i64 0) := (hc _ _ (by simp)).trans (by simp [go_sem])
  have d1 : w1.cell? ⟨w.heap.size + 2, 1, none⟩ = some (.int .i64 0) := (hc _ _ (by simp)).trans (by simp [go_sem])
  refine bodyPost_ret (v := .tuple #[.agg #[.int .i64 u, .int .i64 v], er]) (by simp [results, Tryd.results30, go_sem, d0, d1]) rfl ?_
  exact ⟨rfl, (by repeat' (first | (with_reducible assumption) | (with_reducible refine Below.setCell ?_ ?_ _) | (with_reducible refine Below.alloc ?_ ?_ _) | (with_reducible refine Below.drew ?_) | (with_reducible refine below_drewN ?_ _) | (with_reducible exact Below.refl _ _) | (show _ ≤ _; (try simp); (try omega); done) | exact Below.refl _ _ | assumption))⟩

set_option maxRecDepth 100000 in
set_option maxHeartbeats 1000000 in
theorem sub_val (an ad bn bd : Int) (w : World) (h1 : -9223372036854775808 ≤ an) (h2 : an < 9223372036854775808) (h3 : ad < 9223372036854775808) (h4 : -9223372036854775808 ≤ bn) (h5 : bn < 9223372036854775808) (h6 : bd < 9223372036854775808) :
    Calls Tryd.prog 40 #[.agg #[.int .i64 an, .int .i64 ad], .agg #[.int .i64 bn, .int .i64 bd]] w fun e w' => e = .returned (sumV true an ad bn bd) ∧ Below w.heap.size w w' := by
  have HS := Lib.hid (fun w => sum_val true an ad bn bd w h1 h2 h3 h4 h5 h6)
  obtain ⟨u, v, er, hv⟩ := sumV_of true an ad bn bd
  rw [hv] at HS ⊢
  clear hv
  go_enter Tryd.func40, Tryd.ntmps40
  go_wp2_with (go_at_call 54; refine (HS.out _).mono ?_; rintro e w1 ⟨rfl, hb⟩; obtain ⟨hc, hf⟩ := bcell hb; have hz := hb.size; (try simp at hz); have hB : Below w.heap.size w w1 := Below.trans (by repeat' (first | (with_reducible assumption) | (with_reducible refine Below.setCell ?_ ?_ _) | (with_reducible refine Below.alloc ?_ ?_ _) | (with_reducible refine Below.drew ?_) | (with_reducible refine below_drewN ?_ _) | (with_reducible exact Below.refl _ _) | (show _ ≤ _; (try simp); (try omega); done) | exact Below.refl _ _ | assumption)) (hb.mono (by (try simp); (try omega))))
  have d0 : w1.cell? ⟨w.heap.size + 2, 0, none⟩ = some (.int .i64 0) := (hc _ _ (by simp)).trans (by simp [go_sem])
  have d1 : w1.cell? ⟨w.heap.size + 2, 1, none⟩ = some (.int .i64 0) := (hc _ _ (by simp)).trans (by simp [go_sem])
  refine bodyPost_ret (v := .tuple #[.agg #[.int .i64 u, .int .i64 v], er]) (by simp [results, Tryd.results40, go_sem, d0, d1]) rfl ?_
  exact ⟨rfl, (by repeat' (first | (with_reducible assumption) | (with_reducible refine Below.setCell ?_ ?_ _) | (with_reducible refine Below.alloc ?_ ?_ _) | (with_reducible refine Below.drew ?_) | (with_reducible refine below_drewN ?_ _) | (with_reducible exact Below.refl _ _) | (show _ ≤ _; (try simp); (try omega); done) | exact Below.refl _ _ | assumption))⟩

def cmpC (an ad bn bd : Int) : Int := if an * bd = bn * ad then 0 else if an * bd < bn * ad then -1 else 1
def cmpV (an ad bn bd : Int) : Value := if rightB an ad && rightB bn bd then .tuple #[.int .i64 (cmpC an ad bn bd), .nilIface] else .tuple #[.int .i64 0, .iface 64 (.int .i64 1)]
theorem size_q3 (k : Int) (a : Nat) (h1 : -9223372036854775808 ≤ k) (h2 : k < 9223372036854775808) (ha : a = k.natAbs) (w : World) (n : Nat) :
    Calls Tryd.prog 53 #[.int .i64 k] (w.drewN n) fun e w' => e = .returned (.int .u64 (a : Int)) ∧ ∃ m, w' = w.drewN m := by
  subst ha; exact size_q k w n h1 h2
theorem size_q4 (k : Int) (a : Nat) (h1 : -9223372036854775808 ≤ k) (h2 : k < 9223372036854775808) (ha : a = k.natAbs) (w : World) (b n : Nat) :
    Calls Tryd.prog 53 #[.int .i64 k] (w.drewN (b + n)) fun e w' => e = .returned (.int .u64 (a : Int)) ∧ ∃ m, w' = w.drewN (b + m) :=
  (size_v k a _ h1 h2 ha).mono fun e w' ⟨he, hw⟩ => ⟨he, n, hw.symm⟩
theorem mul_q0 (x y h l : Nat) (hx : x < 18446744073709551616) (hy : y < 18446744073709551616) (hh : h = x * y / 18446744073709551616) (hl : l = x * y % 18446744073709551616) (w : World) (n : Nat) :
    Calls Tryd.prog 78 #[.int .u64 x, .int .u64 y] (w.drewN n) fun e w' => e = .returned (.tuple #[.int .u64 (h : Int), .int .u64 (l : Int)]) ∧ ∃ m, w' = w.drewN m :=
  (mul_any x y h l hx hy hh hl _).mono fun e w' ⟨he, hm⟩ => ⟨he, n, hm.symm⟩
set_option maxRecDepth 100000 in
set_option maxHeartbeats 1000000 in
theorem cmp_wrong (an ad bn bd : Int) (w : World) (h1 : -9223372036854775808 ≤ an) (h2 : an < 9223372036854775808) (h3 : ad < 9223372036854775808) (h4 : -9223372036854775808 ≤ bn) (h5 : bn < 9223372036854775808) (h6 : bd < 9223372036854775808)
    (hr : (rightB an ad && rightB bn bd) = false) :
    Calls Tryd.prog 83 #[.agg #[.int .i64 an, .int .i64 ad], .agg #[.int .i64 bn, .int .i64 bd]] w fun e w' => e = .returned (.tuple #[.int .i64 0, .iface 64 (.int .i64 1)]) ∧ Below w.heap.size w w' := by
  cases ha : rightB an ad
  · have HA := Lib.hid ha
    clear ha hr
    go_enter Tryd.func83, Tryd.ntmps83
    go_wp2_with (go_at_call 39; refine (right_any _ _ _ (by omega) (by omega) (by omega)).mono ?_; rintro e w1 ⟨he, hb⟩; rw [HA.out] at he; subst he; obtain ⟨hc, hf⟩ := bcell hb; have hz := hb.size; (try simp at hz); have hB : Below w.heap.size w w1 := Below.trans (by repeat' (first | (with_reducible assumption) | (with_reducible refine Below.setCell ?_ ?_ _) | (with_reducible refine Below.alloc ?_ ?_ _) | (with_reducible refine Below.drew ?_) | (with_reducible refine below_drewN ?_ _) | (with_reducible exact Below.refl _ _) | (show _ ≤ _; (try simp); (try omega); done) | exact Below.refl _ _ | assumption)) (hb.mono (by (try simp); (try omega))))
    go_ret2
    exact ⟨rfl, (by repeat' (first | (with_reducible assumption) | (with_reducible refine Below.setCell ?_ ?_ _) | (with_reducible refine Below.alloc ?_ ?_ _) | (with_reducible refine Below.drew ?_) | (with_reducible refine below_drewN ?_ _) | (with_reducible exact Below.refl _ _) | (show _ ≤ _; (try simp); (try omega); done) | exact Below.refl _ _ | assumption))⟩
  · have hb0 : rightB bn bd = false := by rw [ha, Bool.true_and] at hr; exact hr
    have HA := Lib.hid ha; have HB := Lib.hid hb0
    clear ha hb0 hr
    go_enter Tryd.func83, Tryd.ntmps83
    go_wp2_with (go_at_call 39; first
      | (refine (right_any _ _ _ (by omega) (by omega) (by omega)).mono ?_; rintro e w1 ⟨he, hb_w1⟩; rw [HA.out] at he; clear HA; subst he; obtain ⟨hc_w1, hf_w1⟩ := bcell hb_w1; have hz_w1 := hb_w1.size; (try simp at hz_w1); have hB_w1 : Below w.heap.size w w1 := Below.trans (by repeat' (first | (with_reducible assumption) | (with_reducible refine Below.setCell ?_ ?_ _) | (with_reducible refine Below.alloc ?_ ?_ _) | (with_reducible refine Below.drew ?_) | (with_reducible refine below_drewN ?_ _) | (with_reducible exact Below.refl _ _) | (show _ ≤ _; (try simp); (try omega); done) | exact Below.refl _ _ | assumption)) (hb_w1.mono (by (try simp); (try omega))); have z_w1_0 : w.heap.size < w1.heap.size := (by omega); have z_w1_1 : w.heap.size + 1 < w1.heap.size := (by omega))
      | (refine (right_any _ _ _ (by omega) (by omega) (by omega)).mono ?_; rintro e w2 ⟨he, hb_w2⟩; rw [HB.out] at he; clear HB; subst he; obtain ⟨hc_w2, hf_w2⟩ := bcell hb_w2; have hz_w2 := hb_w2.size; (try simp at hz_w2); have hB_w2 : Below w.heap.size w w2 := Below.trans (by repeat' (first | (with_reducible assumption) | (with_reducible refine Below.setCell ?_ ?_ _) | (with_reducible refine Below.alloc ?_ ?_ _) | (with_reducible refine Below.drew ?_) | (with_reducible refine below_drewN ?_ _) | (with_reducible exact Below.refl _ _) | (show _ ≤ _; (try simp); (try omega); done) | exact Below.refl _ _ | assumption)) (hb_w2.mono (by (try simp); (try omega))); have z_w2_0 : w.heap.size < w2.heap.size := (by omega); have z_w2_1 : w.heap.size + 1 < w2.heap.size := (by omega)))
    go_ret2
    exact ⟨rfl, (by repeat' (first | (with_reducible assumption) | (with_reducible refine Below.setCell ?_ ?_ _) | (with_reducible refine Below.alloc ?_ ?_ _) | (with_reducible refine Below.drew ?_) | (with_reducible refine below_drewN ?_ _) | (with_reducible exact Below.refl _ _) | (show _ ≤ _; (try simp); (try omega); done) | exact Below.refl _ _ | assumption))⟩

set_option maxRecDepth 100000 in
set_option maxHeartbeats 1000000 in
theorem cmp_nx (an bn : Int) (ad bd a b h l i m : Nat) (w : World) (h1 : -9223372036854775808 ≤ an) (h2 : an < 9223372036854775808) (h3 : ad < 9223372036854775808) (h4 : -9223372036854775808 ≤ bn) (h5 : bn < 9223372036854775808) (h6 : bd < 9223372036854775808)
    (HA : Hid (rightB an ad = true)) (HB : Hid (rightB bn bd = true)) (SA : Hid (a = an.natAbs)) (SB : Hid (b = bn.natAbs)) (HH : Hid (h = a * bd / 18446744073709551616)) (HL : Hid (l = a * bd % 18446744073709551616)) (HI : Hid (i = b * ad / 18446744073709551616)) (HM : Hid (m = b * ad % 18446744073709551616)) (qa : a < 18446744073709551616) (qb : b < 18446744073709551616) (s1 : decide (an < 0) = true) (s2 : decide (bn < 0) = false) :
    Calls Tryd.prog 83 #[.agg #[.int .i64 an, .int .i64 ad], .agg #[.int .i64 bn, .int .i64 bd]] w fun e w' => e = .returned (.tuple #[.int .i64 (-1), .nilIface]) ∧ Below w.heap.size w w' := by
  go_enter Tryd.func83, Tryd.ntmps83
  go_wp2_with (go_at_call 39; first
    | (refine (right_any _ _ _ (by omega) (by omega) (by omega)).mono ?_; rintro e w1 ⟨he, hb_w1⟩; rw [HA.out] at he; clear HA; subst he; obtain ⟨hc_w1, hf_w1⟩ := bcell hb_w1; have hz_w1 := hb_w1.size; (try simp at hz_w1); have hB_w1 : Below w.heap.size w w1 := Below.trans (by repeat' (first | (with_reducible assumption) | (with_reducible refine Below.setCell ?_ ?_ _) | (with_reducible refine Below.alloc ?_ ?_ _) | (with_reducible refine Below.drew ?_) | (with_reducible refine below_drewN ?_ _) | (with_reducible exact Below.refl _ _) | (show _ ≤ _; (try simp); (try omega); done) | exact Below.refl _ _ | assumption)) (hb_w1.mono (by (try simp); (try omega))); have z_w1_0 : w.heap.size < w1.heap.size := (by omega); have z_w1_1 : w.heap.size + 1 < w1.heap.size := (by omega))
    | (refine (right_any _ _ _ (by omega) (by omega) (by omega)).mono ?_; rintro e w2 ⟨he, hb_w2⟩; rw [HB.out] at he; clear HB; subst he; obtain ⟨hc_w2, hf_w2⟩ := bcell hb_w2; have hz_w2 := hb_w2.size; (try simp at hz_w2); have hB_w2 : Below w.heap.size w w2 := Below.trans (by repeat' (first | (with_reducible assumption) | (with_reducible refine Below.setCell ?_ ?_ _) | (with_reducible refine Below.alloc ?_ ?_ _) | (with_reducible refine Below.drew ?_) | (with_reducible refine below_drewN ?_ _) | (with_reducible exact Below.refl _ _) | (show _ ≤ _; (try simp); (try omega); done) | exact Below.refl _ _ | assumption)) (hb_w2.mono (by (try simp); (try omega))); have z_w2_0 : w.heap.size < w2.heap.size := (by omega); have z_w2_1 : w.heap.size + 1 < w2.heap.size := (by omega)))
  go_ret2
  exact ⟨rfl, (by repeat' (first | (with_reducible assumption) | (with_reducible refine Below.setCell ?_ ?_ _) | (with_reducible refine Below.alloc ?_ ?_ _) | (with_reducible refine Below.drew ?_) | (with_reducible refine below_drewN ?_ _) | (with_reducible exact Below.refl _ _) | (show _ ≤ _; (try simp); (try omega); done) | exact Below.refl _ _ | assumption))⟩

set_option maxRecDepth 100000 in
set_option maxHeartbeats 1000000 in
theorem cmp_xn (an bn : Int) (ad bd a b h l i m : Nat) (w : World) (h1 : -9223372036854775808 ≤ an) (h2 : an < 9223372036854775808) (h3 : ad < 9223372036854775808) (h4 : -9223372036854775808 ≤ bn) (h5 : bn < 9223372036854775808) (h6 : bd < 9223372036854775808)
    (HA : Hid (rightB an ad = true)) (HB : Hid (rightB bn bd = true)) (SA : Hid (a = an.natAbs)) (SB : Hid (b = bn.natAbs)) (HH : Hid (h = a * bd / 18446744073709551616)) (HL : Hid (l = a * bd % 18446744073709551616)) (HI : Hid (i = b * ad / 18446744073709551616)) (HM : Hid (m = b * ad % 18446744073709551616)) (qa : a < 18446744073709551616) (qb : b < 18446744073709551616) (s1 : decide (an < 0) = false) (s2 : decide (bn < 0) = true) :
    Calls Tryd.prog 83 #[.agg #[.int .i64 an, .int .i64 ad], .agg #[.int .i64 bn, .int .i64 bd]] w fun e w' => e = .returned (.tuple #[.int .i64 1, .nilIface]) ∧ Below w.heap.size w w' := by
  go_enter Tryd.func83, Tryd.ntmps83
  go_wp2_with (go_at_call 39; first
    | (refine (right_any _ _ _ (by omega) (by omega) (by omega)).mono ?_; rintro e w1 ⟨he, hb_w1⟩; rw [HA.out] at he; clear HA; subst he; obtain ⟨hc_w1, hf_w1⟩ := bcell hb_w1; have hz_w1 := hb_w1.size; (try simp at hz_w1); have hB_w1 : Below w.heap.size w w1 := Below.trans (by repeat' (first | (with_reducible assumption) | (with_reducible refine Below.setCell ?_ ?_ _) | (with_reducible refine Below.alloc ?_ ?_ _) | (with_reducible refine Below.drew ?_) | (with_reducible refine below_drewN ?_ _) | (with_reducible exact Below.refl _ _) | (show _ ≤ _; (try simp); (try omega); done) | exact Below.refl _ _ | assumption)) (hb_w1.mono (by (try simp); (try omega))); have z_w1_0 : w.heap.size < w1.heap.size := (by omega); have z_w1_1 : w.heap.size + 1 < w1.heap.size := (by omega))
    | (refine (right_any _ _ _ (by omega) (by omega) (by omega)).mono ?_; rintro e w2 ⟨he, hb_w2⟩; rw [HB.out] at he; clear HB; subst he; obtain ⟨hc_w2, hf_w2⟩ := bcell hb_w2; have hz_w2 := hb_w2.size; (try simp at hz_w2); have hB_w2 : Below w.heap.size w w2 := Below.trans (by repeat' (first | (with_reducible assumption) | (with_reducible refine Below.setCell ?_ ?_ _) | (with_reducible refine Below.alloc ?_ ?_ _) | (with_reducible refine Below.drew ?_) | (with_reducible refine below_drewN ?_ _) | (with_reducible exact Below.refl _ _) | (show _ ≤ _; (try simp); (try omega); done) | exact Below.refl _ _ | assumption)) (hb_w2.mono (by (try simp); (try omega))); have z_w2_0 : w.heap.size < w2.heap.size := (by omega); have z_w2_1 : w.heap.size + 1 < w2.heap.size := (by omega)))
  go_ret2
  exact ⟨rfl, (by repeat' (first | (with_reducible assumption) | (with_reducible refine Below.setCell ?_ ?_ _) | (with_reducible refine Below.alloc ?_ ?_ _) | (with_reducible refine Below.drew ?_) | (with_reducible refine below_drewN ?_ _) | (with_reducible exact Below.refl _ _) | (show _ ≤ _; (try simp); (try omega); done) | exact Below.refl _ _ | assumption))⟩

set_option maxRecDepth 100000 in
set_option maxHeartbeats 2000000 in
theorem cmp_lt_true (an bn : Int) (ad bd a b h l i m : Nat) (w : World) (h1 : -9223372036854775808 ≤ an) (h2 : an < 9223372036854775808) (h3 : ad < 9223372036854775808) (h4 : -9223372036854775808 ≤ bn) (h5 : bn < 9223372036854775808) (h6 : bd < 9223372036854775808)
    (HA : Hid (rightB an ad = true)) (HB : Hid (rightB bn bd = true)) (SA : Hid (a = an.natAbs)) (SB : Hid (b = bn.natAbs)) (HH : Hid (h = a * bd / 18446744073709551616)) (HL : Hid (l = a * bd % 18446744073709551616)) (HI : Hid (i = b * ad / 18446744073709551616)) (HM : Hid (m = b * ad % 18446744073709551616)) (qa : a < 18446744073709551616) (qb : b < 18446744073709551616) (s1 : decide (an < 0) = true) (s2 : decide (bn < 0) = true) (o1 : decide (h < i) = true) (o2 : ((h : Int) == (i : Int)) = false) (o2' : (h == i) = false) :
    Calls Tryd.prog 83 #[.agg #[.int .i64 an, .int .i64 ad], .agg #[.int .i64 bn, .int .i64 bd]] w fun e w' => e = .returned (.tuple #[.int .i64 1, .nilIface]) ∧ Below w.heap.size w w' := by
  have E1 := wrapN ad (by omega)
  have E2 := wrapN bd (by omega)
  go_enter Tryd.func83, Tryd.ntmps83
  go_wp2_with (go_at_call 39; first
    | (refine (right_any _ _ _ (by omega) (by omega) (by omega)).mono ?_; rintro e w1 ⟨he, hb_w1⟩; rw [HA.out] at he; clear HA; subst he; obtain ⟨hc_w1, hf_w1⟩ := bcell hb_w1; have hz_w1 := hb_w1.size; (try simp at hz_w1); have hB_w1 : Below w.heap.size w w1 := Below.trans (by repeat' (first | (with_reducible assumption) | (with_reducible refine Below.setCell ?_ ?_ _) | (with_reducible refine Below.alloc ?_ ?_ _) | (with_reducible refine Below.drew ?_) | (with_reducible refine below_drewN ?_ _) | (with_reducible exact Below.refl _ _) | (show _ ≤ _; (try simp); (try omega); done) | exact Below.refl _ _ | assumption)) (hb_w1.mono (by (try simp); (try omega))); have z_w1_0 : w.heap.size < w1.heap.size := (by omega); have z_w1_1 : w.heap.size + 1 < w1.heap.size := (by omega))
    | (refine (right_any _ _ _ (by omega) (by omega) (by omega)).mono ?_; rintro e w2 ⟨he, hb_w2⟩; rw [HB.out] at he; clear HB; subst he; obtain ⟨hc_w2, hf_w2⟩ := bcell hb_w2; have hz_w2 := hb_w2.size; (try simp at hz_w2); have hB_w2 : Below w.heap.size w w2 := Below.trans (by repeat' (first | (with_reducible assumption) | (with_reducible refine Below.setCell ?_ ?_ _) | (with_reducible refine Below.alloc ?_ ?_ _) | (with_reducible refine Below.drew ?_) | (with_reducible refine below_drewN ?_ _) | (with_reducible exact Below.refl _ _) | (show _ ≤ _; (try simp); (try omega); done) | exact Below.refl _ _ | assumption)) (hb_w2.mono (by (try simp); (try omega))); have z_w2_0 : w.heap.size < w2.heap.size := (by omega); have z_w2_1 : w.heap.size + 1 < w2.heap.size := (by omega)))
  have c0 : w2.cell? ⟨w.heap.size, 0, none⟩ = some (.int .i64 an) := by go_simp
  have c1 : w2.cell? ⟨w.heap.size, 1, none⟩ = some (.int .i64 ad) := by go_simp
  have c2 : w2.cell? ⟨w.heap.size + 1, 0, none⟩ = some (.int .i64 bn) := by go_simp
  have c3 : w2.cell? ⟨w.heap.size + 1, 1, none⟩ = some (.int .i64 bd) := by go_simp
  clear hc_w2 hf_w2 hc_w1 hf_w1 hb_w1 hb_w2 hz_w1 hz_w2
  have HB2 := Lib.hid hB_w2; clear hB_w2 hB_w1
  go_quiet (first | (go_at_call 53; exact size_q3 _ _ h1 h2 SA.out _ _) | (go_at_call 78; exact mul_q0 _ _ h l (by omega) (by omega) HH.out HL.out _ _))
  go_wp2
  go_quiet (first | (go_at_call 53; exact size_q4 _ _ h4 h5 SB.out _ _ _) | (go_at_call 78; exact mul_q _ _ i m (by omega) (by omega) HI.out HM.out _ _ _))
  go_wp2
  go_ret2
  have hB := HB2.out
  exact ⟨rfl, (by repeat' (first | (with_reducible assumption) | (with_reducible refine Below.setCell ?_ ?_ _) | (with_reducible refine Below.alloc ?_ ?_ _) | (with_reducible refine Below.drew ?_) | (with_reducible refine below_drewN ?_ _) | (with_reducible exact Below.refl _ _) | (show _ ≤ _; (try simp); (try omega); done) | exact Below.refl _ _ | assumption))⟩

set_option maxRecDepth 100000 in
set_option maxHeartbeats 2000000 in
theorem cmp_ell_true (an bn : Int) (ad bd a b h l i m : Nat) (w : World) (h1 : -9223372036854775808 ≤ an) (h2 : an < 9223372036854775808) (h3 : ad < 9223372036854775808) (h4 : -9223372036854775808 ≤ bn) (h5 : bn < 9223372036854775808) (h6 : bd < 9223372036854775808)
    (HA : Hid (rightB an ad = true)) (HB : Hid (rightB bn bd = true)) (SA : Hid (a = an.natAbs)) (SB : Hid (b = bn.natAbs)) (HH : Hid (h = a * bd / 18446744073709551616)) (HL : Hid (l = a * bd % 18446744073709551616)) (HI : Hid (i = b * ad / 18446744073709551616)) (HM : Hid (m = b * ad % 18446744073709551616)) (qa : a < 18446744073709551616) (qb : b < 18446744073709551616) (s1 : decide (an < 0) = true) (s2 : decide (bn < 0) = true) (o1 : decide (h < i) = false) (o2 : ((h : Int) == (i : Int)) = true) (o2' : (h == i) = true) (o3 : decide (l < m) = true) (o4 : ((l : Int) == (m : Int)) = false) (o4' : (l == m) = false) :
    Calls Tryd.prog 83 #[.agg #[.int .i64 an, .int .i64 ad], .agg #[.int .i64 bn, .int .i64 bd]] w fun e w' => e = .returned (.tuple #[.int .i64 1, .nilIface]) ∧ Below w.heap.size w w' := by
  have E1 := wrapN ad (by omega)
  have E2 := wrapN bd (by omega)
  go_enter Tryd.func83, Tryd.ntmps83
  go_wp2_with (go_at_call 39; first
    | (refine (right_any _ _ _ (by omega) (by omega) (by omega)).mono ?_; rintro e w1 ⟨he, hb_w1⟩; rw [HA.out] at he; clear HA; subst he; obtain ⟨hc_w1, hf_w1⟩ := bcell hb_w1; have hz_w1 := hb_w1.size; (try simp at hz_w1); have hB_w1 : Below w.heap.size w w1 := Below.trans (by repeat' (first | (with_reducible assumption) | (with_reducible refine Below.setCell ?_ ?_ _) | (with_reducible refine Below.alloc ?_ ?_ _) | (with_reducible refine Below.drew ?_) | (with_reducible refine below_drewN ?_ _) | (with_reducible exact Below.refl _ _) | (show _ ≤ _; (try simp); (try omega); done) | exact Below.refl _ _ | assumption)) (hb_w1.mono (by (try simp); (try omega))); have z_w1_0 : w.heap.size < w1.heap.size := (by omega); have z_w1_1 : w.heap.size + 1 < w1.heap.size := (by omega))
    | (refine (right_any _ _ _ (by omega) (by omega) (by omega)).mono ?_; rintro e w2 ⟨he, hb_w2⟩; rw [HB.out] at he; clear HB; subst he; obtain ⟨hc_w2, hf_w2⟩ := bcell hb_w2; have hz_w2 := hb_w2.size; (try simp at hz_w2); have hB_w2 : Below w.heap.size w w2 := Below.trans (by repeat' (first | (with_reducible assumption) | (with_reducible refine Below.setCell ?_ ?_ _) | (with_reducible refine Below.alloc ?_ ?_ _) | (with_reducible refine Below.drew ?_) | (with_reducible refine below_drewN ?_ _) | (with_reducible exact Below.refl _ _) | (show _ ≤ _; (try simp); (try omega); done) | exact Below.refl _ _ | assumption)) (hb_w2.mono (by (try simp); (try omega))); have z_w2_0 : w.heap.size < w2.heap.size := (by omega); have z_w2_1 : w.heap.size + 1 < w2.heap.size := (by omega)))
  have c0 : w2.cell? ⟨w.heap.size, 0, none⟩ = some (.int .i64 an) := by go_simp
  have c1 : w2.cell? ⟨w.heap.size, 1, none⟩ = some (.int .i64 ad) := by go_simp
  have c2 : w2.cell? ⟨w.heap.size + 1, 0, none⟩ = some (.int .i64 bn) := by go_simp
  have c3 : w2.cell? ⟨w.heap.size + 1, 1, none⟩ = some (.int .i64 bd) := by go_simp
  clear hc_w2 hf_w2 hc_w1 hf_w1 hb_w1 hb_w2 hz_w1 hz_w2
  have HB2 := Lib.hid hB_w2; clear hB_w2 hB_w1
  go_quiet (first | (go_at_call 53; exact size_q3 _ _ h1 h2 SA.out _ _) | (go_at_call 78; exact mul_q0 _ _ h l (by omega) (by omega) HH.out HL.out _ _))
  go_wp2
  go_quiet (first | (go_at_call 53; exact size_q4 _ _ h4 h5 SB.out _ _ _) | (go_at_call 78; exact mul_q _ _ i m (by omega) (by omega) HI.out HM.out _ _ _))
  go_wp2
  go_ret2
  have hB := HB2.out
  exact ⟨rfl, (by repeat' (first | (with_reducible assumption) | (with_reducible refine Below.setCell ?_ ?_ _) | (with_reducible refine Below.alloc ?_ ?_ _) | (with_reducible refine Below.drew ?_) | (with_reducible refine below_drewN ?_ _) | (with_reducible exact Below.refl _ _) | (show _ ≤ _; (try simp); (try omega); done) | exact Below.refl _ _ | assumption))⟩

set_option maxRecDepth 100000 in
set_option maxHeartbeats 2000000 in
theorem cmp_eq_true (an bn : Int) (ad bd a b h l i m : Nat) (w : World) (h1 : -9223372036854775808 ≤ an) (h2 : an < 9223372036854775808) (h3 : ad < 9223372036854775808) (h4 : -9223372036854775808 ≤ bn) (h5 : bn < 9223372036854775808) (h6 : bd < 9223372036854775808)
    (HA : Hid (rightB an ad = true)) (HB : Hid (rightB bn bd = true)) (SA : Hid (a = an.natAbs)) (SB : Hid (b = bn.natAbs)) (HH : Hid (h = a * bd / 18446744073709551616)) (HL : Hid (l = a * bd % 18446744073709551616)) (HI : Hid (i = b * ad / 18446744073709551616)) (HM : Hid (m = b * ad % 18446744073709551616)) (qa : a < 18446744073709551616) (qb : b < 18446744073709551616) (s1 : decide (an < 0) = true) (s2 : decide (bn < 0) = true) (o1 : decide (h < i) = false) (o2 : ((h : Int) == (i : Int)) = true) (o2' : (h == i) = true) (o3 : decide (l < m) = false) (o4 : ((l : Int) == (m : Int)) = true) (o4' : (l == m) = true) :
    Calls Tryd.prog 83 #[.agg #[.int .i64 an, .int .i64 ad], .agg #[.int .i64 bn, .int .i64 bd]] w fun e w' => e = .returned (.tuple #[.int .i64 0, .nilIface]) ∧ Below w.heap.size w w' := by
  have E1 := wrapN ad (by omega)
  have E2 := wrapN bd (by omega)
  go_enter Tryd.func83, Tryd.ntmps83
  go_wp2_with (go_at_call 39; first
    | (refine (right_any _ _ _ (by omega) (by omega) (by omega)).mono ?_; rintro e w1 ⟨he, hb_w1⟩; rw [HA.out] at he; clear HA; subst he; obtain ⟨hc_w1, hf_w1⟩ := bcell hb_w1; have hz_w1 := hb_w1.size; (try simp at hz_w1); have hB_w1 : Below w.heap.size w w1 := Below.trans (by repeat' (first | (with_reducible assumption) | (with_reducible refine Below.setCell ?_ ?_ _) | (with_reducible refine Below.alloc ?_ ?_ _) | (with_reducible refine Below.drew ?_) | (with_reducible refine below_drewN ?_ _) | (with_reducible exact Below.refl _ _) | (show _ ≤ _; (try simp); (try omega); done) | exact Below.refl _ _ | assumption)) (hb_w1.mono (by (try simp); (try omega))); have z_w1_0 : w.heap.size < w1.heap.size := (by omega); have z_w1_1 : w.heap.size + 1 < w1.heap.size := (by omega))
    | (refine (right_any _ _ _ (by omega) (by omega) (by omega)).mono ?_; rintro e w2 ⟨he, hb_w2⟩; rw [HB.out] at he; clear HB; subst he; obtain ⟨hc_w2, hf_w2⟩ := bcell hb_w2; have hz_w2 := hb_w2.size; (try simp at hz_w2); have hB_w2 : Below w.heap.size w w2 := Below.trans (by repeat' (first | (with_reducible assumption) | (with_reducible refine Below.setCell ?_ ?_ _) | (with_reducible refine Below.alloc ?_ ?_ _) | (with_reducible refine Below.drew ?_) | (with_reducible refine below_drewN ?_ _) | (with_reducible exact Below.refl _ _) | (show _ ≤ _; (try simp); (try omega); done) | exact Below.refl _ _ | assumption)) (hb_w2.mono (by (try simp); (try omega))); have z_w2_0 : w.heap.size < w2.heap.size := (by omega); have z_w2_1 : w.heap.size + 1 < w2.heap.size := (by omega)))
  have c0 : w2.cell? ⟨w.heap.size, 0, none⟩ = some (.int .i64 an) := by go_simp
  have c1 : w2.cell? ⟨w.heap.size, 1, none⟩ = some (.int .i64 ad) := by go_simp
  have c2 : w2.cell? ⟨w.heap.size + 1, 0, none⟩ = some (.int .i64 bn) := by go_simp
  have c3 : w2.cell? ⟨w.heap.size + 1, 1, none⟩ = some (.int .i64 bd) := by go_simp
  clear hc_w2 hf_w2 hc_w1 hf_w1 hb_w1 hb_w2 hz_w1 hz_w2
  have HB2 := Lib.hid hB_w2; clear hB_w2 hB_w1
  go_quiet (first | (go_at_call 53; exact size_q3 _ _ h1 h2 SA.out _ _) | (go_at_call 78; exact mul_q0 _ _ h l (by omega) (by omega) HH.out HL.out _ _))
  go_wp2
  go_quiet (first | (go_at_call 53; exact size_q4 _ _ h4 h5 SB.out _ _ _) | (go_at_call 78; exact mul_q _ _ i m (by omega) (by omega) HI.out HM.out _ _ _))
  go_wp2
  go_ret2
  have hB := HB2.out
  exact ⟨rfl, (by repeat' (first | (with_reducible assumption) | (with_reducible refine Below.setCell ?_ ?_ _) | (with_reducible refine Below.alloc ?_ ?_ _) | (with_reducible refine Below.drew ?_) | (with_reducible refine below_drewN ?_ _) | (with_reducible exact Below.refl _ _) | (show _ ≤ _; (try simp); (try omega); done) | exact Below.refl _ _ | assumption))⟩

set_option maxRecDepth 100000 in
set_option maxHeartbeats 2000000 in
theorem cmp_egg_true (an bn : Int) (ad bd a b h l i m : Nat) (w : World) (h1 : -9223372036854775808 ≤ an) (h2 : an < 9223372036854775808) (h3 : ad < 9223372036854775808) (h4 : -9223372036854775808 ≤ bn) (h5 : bn < 9223372036854775808) (h6 : bd < 9223372036854775808)
    (HA : Hid (rightB an ad = true)) (HB : Hid (rightB bn bd = true)) (SA : Hid (a = an.natAbs)) (SB : Hid (b = bn.natAbs)) (HH : Hid (h = a * bd / 18446744073709551616)) (HL : Hid (l = a * bd % 18446744073709551616)) (HI : Hid (i = b * ad / 18446744073709551616)) (HM : Hid (m = b * ad % 18446744073709551616)) (qa : a < 18446744073709551616) (qb : b < 18446744073709551616) (s1 : decide (an < 0) = true) (s2 : decide (bn < 0) = true) (o1 : decide (h < i) = false) (o2 : ((h : Int) == (i : Int)) = true) (o2' : (h == i) = true) (o3 : decide (l < m) = false) (o4 : ((l : Int) == (m : Int)) = false) (o4' : (l == m) = false) :
    Calls Tryd.prog 83 #[.agg #[.int .i64 an, .int .i64 ad], .agg #[.int .i64 bn, .int .i64 bd]] w fun e w' => e = .returned (.tuple #[.int .i64 (-1), .nilIface]) ∧ Below w.heap.size w w' := by
  have E1 := wrapN ad (by omega)
  have E2 := wrapN bd (by omega)
  go_enter Tryd.func83, Tryd.ntmps83
  go_wp2_with (go_at_call 39; first
    | (refine (right_any _ _ _ (by omega) (by omega) (by omega)).mono ?_; rintro e w1 ⟨he, hb_w1⟩; rw [HA.out] at he; clear HA; subst he; obtain ⟨hc_w1, hf_w1⟩ := bcell hb_w1; have hz_w1 := hb_w1.size; (try simp at hz_w1); have hB_w1 : Below w.heap.size w w1 := Below.trans (by repeat' (first | (with_reducible assumption) | (with_reducible refine Below.setCell ?_ ?_ _) | (with_reducible refine Below.alloc ?_ ?_ _) | (with_reducible refine Below.drew ?_) | (with_reducible refine below_drewN ?_ _) | (with_reducible exact Below.refl _ _) | (show _ ≤ _; (try simp); (try omega); done) | exact Below.refl _ _ | assumption)) (hb_w1.mono (by (try simp); (try omega))); have z_w1_0 : w.heap.size < w1.heap.size := (by omega); have z_w1_1 : w.heap.size + 1 < w1.heap.size := (by omega))
    | (refine (right_any _ _ _ (by omega) (by omega) (by omega)).mono ?_; rintro e w2 ⟨he, hb_w2⟩; rw [HB.out] at he; clear HB; subst he; obtain ⟨hc_w2, hf_w2⟩ := bcell hb_w2; have hz_w2 := hb_w2.size; (try simp at hz_w2); have hB_w2 : Below w.heap.size w w2 := Below.trans (by repeat' (first | (with_reducible assumption) | (with_reducible refine Below.setCell ?_ ?_ _) | (with_reducible refine Below.alloc ?_ ?_ _) | (with_reducible refine Below.drew ?_) | (with_reducible refine below_drewN ?_ _) | (with_reducible exact Below.refl _ _) | (show _ ≤ _; (try simp); (try omega); done) | exact Below.refl _ _ | assumption)) (hb_w2.mono (by (try simp); (try omega))); have z_w2_0 : w.heap.size < w2.heap.size := (by omega); have z_w2_1 : w.heap.size + 1 < w2.heap.size := (by omega)))
  have c0 : w2.cell? ⟨w.heap.size, 0, none⟩ = some (.int .i64 an) := by go_simp
  have c1 : w2.cell? ⟨w.heap.size, 1, none⟩ = some (.int .i64 ad) := by go_simp
  have c2 : w2.cell? ⟨w.heap.size + 1, 0, none⟩ = some (.int .i64 bn) := by go_simp
  have c3 : w2.cell? ⟨w.heap.size + 1, 1, none⟩ = some (.int .i64 bd) := by go_simp
  clear hc_w2 hf_w2 hc_w1 hf_w1 hb_w1 hb_w2 hz_w1 hz_w2
  have HB2 := Lib.hid hB_w2; clear hB_w2 hB_w1
  go_quiet (first | (go_at_call 53; exact size_q3 _ _ h1 h2 SA.out _ _) | (go_at_call 78; exact mul_q0 _ _ h l (by omega) (by omega) HH.out HL.out _ _))
  go_wp2
  go_quiet (first | (go_at_call 53; exact size_q4 _ _ h4 h5 SB.out _ _ _) | (go_at_call 78; exact mul_q _ _ i m (by omega) (by omega) HI.out HM.out _ _ _))
  go_wp2
  go_ret2
  have hB := HB2.out
  exact ⟨rfl, (by repeat' (first | (with_reducible assumption) | (with_reducible refine Below.setCell ?_ ?_ _) | (with_reducible refine Below.alloc ?_ ?_ _) | (with_reducible refine Below.drew ?_) | (with_reducible refine below_drewN ?_ _) | (with_reducible exact Below.refl _ _) | (show _ ≤ _; (try simp); (try omega); done) | exact Below.refl _ _ | assumption))⟩

set_option maxRecDepth 100000 in
set_option maxHeartbeats 2000000 in
theorem cmp_gt_true (an bn : Int) (ad bd a b h l i m : Nat) (w : World) (h1 : -9223372036854775808 ≤ an) (h2 : an < 9223372036854775808) (h3 : ad < 9223372036854775808) (h4 : -9223372036854775808 ≤ bn) (h5 : bn < 9223372036854775808) (h6 : bd < 9223372036854775808)
    (HA : Hid (rightB an ad = true)) (HB : Hid (rightB bn bd = true)) (SA : Hid (a = an.natAbs)) (SB : Hid (b = bn.natAbs)) (HH : Hid (h = a * bd / 18446744073709551616)) (HL : Hid (l = a * bd % 18446744073709551616)) (HI : Hid (i = b * ad / 18446744073709551616)) (HM : Hid (m = b * ad % 18446744073709551616)) (qa : a < 18446744073709551616) (qb : b < 18446744073709551616) (s1 : decide (an < 0) = true) (s2 : decide (bn < 0) = true) (o1 : decide (h < i) = false) (o2 : ((h : Int) == (i : Int)) = false) (o2' : (h == i) = false) :
    Calls Tryd.prog 83 #[.agg #[.int .i64 an, .int .i64 ad], .agg #[.int .i64 bn, .int .i64 bd]] w fun e w' => e = .returned (.tuple #[.int .i64 (-1), .nilIface]) ∧ Below w.heap.size w w' := by
  have E1 := wrapN ad (by omega)
  have E2 := wrapN bd (by omega)
  go_enter Tryd.func83, Tryd.ntmps83
  go_wp2_with (go_at_call 39; first
    | (refine (right_any _ _ _ (by omega) (by omega) (by omega)).mono ?_; rintro e w1 ⟨he, hb_w1⟩; rw [HA.out] at he; clear HA; subst he; obtain ⟨hc_w1, hf_w1⟩ := bcell hb_w1; have hz_w1 := hb_w1.size; (try simp at hz_w1); have hB_w1 : Below w.heap.size w w1 := Below.trans (by repeat' (first | (with_reducible assumption) | (with_reducible refine Below.setCell ?_ ?_ _) | (with_reducible refine Below.alloc ?_ ?_ _) | (with_reducible refine Below.drew ?_) | (with_reducible refine below_drewN ?_ _) | (with_reducible exact Below.refl _ _) | (show _ ≤ _; (try simp); (try omega); done) | exact Below.refl _ _ | assumption)) (hb_w1.mono (by (try simp); (try omega))); have z_w1_0 : w.heap.size < w1.heap.size := (by omega); have z_w1_1 : w.heap.size + 1 < w1.heap.size := (by omega))
    | (refine (right_any _ _ _ (by omega) (by omega) (by omega)).mono ?_; rintro e w2 ⟨he, hb_w2⟩; rw [HB.out] at he; clear HB; subst he; obtain ⟨hc_w2, hf_w2⟩ := bcell hb_w2; have hz_w2 := hb_w2.size; (try simp at hz_w2); have hB_w2 : Below w.heap.size w w2 := Below.trans (by repeat' (first | (with_reducible assumption) | (with_reducible refine Below.setCell ?_ ?_ _) | (with_reducible refine Below.alloc ?_ ?_ _) | (with_reducible refine Below.drew ?_) | (with_reducible refine below_drewN ?_ _) | (with_reducible exact Below.refl _ _) | (show _ ≤ _; (try simp); (try omega); done) | exact Below.refl _ _ | assumption)) (hb_w2.mono (by (try simp); (try omega))); have z_w2_0 : w.heap.size < w2.heap.size := (by omega); have z_w2_1 : w.heap.size + 1 < w2.heap.size := (by omega)))
  have c0 : w2.cell? ⟨w.heap.size, 0, none⟩ = some (.int .i64 an) := by go_simp
  have c1 : w2.cell? ⟨w.heap.size, 1, none⟩ = some (.int .i64 ad) := by go_simp
  have c2 : w2.cell? ⟨w.heap.size + 1, 0, none⟩ = some (.int .i64 bn) := by go_simp
  have c3 : w2.cell? ⟨w.heap.size + 1, 1, none⟩ = some (.int .i64 bd) := by go_simp
  clear hc_w2 hf_w2 hc_w1 hf_w1 hb_w1 hb_w2 hz_w1 hz_w2
  have HB2 := Lib.hid hB_w2; clear hB_w2 hB_w1
  go_quiet (first | (go_at_call 53; exact size_q3 _ _ h1 h2 SA.out _ _) | (go_at_call 78; exact mul_q0 _ _ h l (by omega) (by omega) HH.out HL.out _ _))
  go_wp2
  go_quiet (first | (go_at_call 53; exact size_q4 _ _ h4 h5 SB.out _ _ _) | (go_at_call 78; exact mul_q _ _ i m (by omega) (by omega) HI.out HM.out _ _ _))
  go_wp2
  go_ret2
  have hB := HB2.out
  exact ⟨rfl, (by repeat' (first | (with_reducible assumption) | (with_reducible refine Below.setCell ?_ ?_ _) | (with_reducible refine Below.alloc ?_ ?_ _) | (with_reducible refine Below.drew ?_) | (with_reducible refine below_drewN ?_ _) | (with_reducible exact Below.refl _ _) | (show _ ≤ _; (try simp); (try omega); done) | exact Below.refl _ _ | assumption))⟩

set_option maxRecDepth 100000 in
set_option maxHeartbeats 2000000 in
theorem cmp_lt_false (an bn : Int) (ad bd a b h l i m : Nat) (w : World) (h1 : -9223372036854775808 ≤ an) (h2 : an < 9223372036854775808) (h3 : ad < 9223372036854775808) (h4 : -9223372036854775808 ≤ bn) (h5 : bn < 9223372036854775808) (h6 : bd < 9223372036854775808)
    (HA : Hid (rightB an ad = true)) (HB : Hid (rightB bn bd = true)) (SA : Hid (a = an.natAbs)) (SB : Hid (b = bn.natAbs)) (HH : Hid (h = a * bd / 18446744073709551616)) (HL : Hid (l = a * bd % 18446744073709551616)) (HI : Hid (i = b * ad / 18446744073709551616)) (HM : Hid (m = b * ad % 18446744073709551616)) (qa : a < 18446744073709551616) (qb : b < 18446744073709551616) (s1 : decide (an < 0) = false) (s2 : decide (bn < 0) = false) (o1 : decide (h < i) = true) (o2 : ((h : Int) == (i : Int)) = false) (o2' : (h == i) = false) :
    Calls Tryd.prog 83 #[.agg #[.int .i64 an, .int .i64 ad], .agg #[.int .i64 bn, .int .i64 bd]] w fun e w' => e = .returned (.tuple #[.int .i64 (-1), .nilIface]) ∧ Below w.heap.size w w' := by
  have E1 := wrapN ad (by omega)
  have E2 := wrapN bd (by omega)
  go_enter Tryd.func83, Tryd.ntmps83
  go_wp2_with (go_at_call 39; first
    | (refine (right_any _ _ _ (by omega) (by omega) (by omega)).mono ?_; rintro e w1 ⟨he, hb_w1⟩; rw [HA.out] at he; clear HA; subst he; obtain ⟨hc_w1, hf_w1⟩ := bcell hb_w1; have hz_w1 := hb_w1.size; (try simp at hz_w1); have hB_w1 : Below w.heap.size w w1 := Below.trans (by repeat' (first | (with_reducible assumption) | (with_reducible refine Below.setCell ?_ ?_ _) | (with_reducible refine Below.alloc ?_ ?_ _) | (with_reducible refine Below.drew ?_) | (with_reducible refine below_drewN ?_ _) | (with_reducible exact Below.refl _ _) | (show _ ≤ _; (try simp); (try omega); done) | exact Below.refl _ _ | assumption)) (hb_w1.mono (by (try simp); (try omega))); have z_w1_0 : w.heap.size < w1.heap.size := (by omega); have z_w1_1 : w.heap.size + 1 < w1.heap.size := (by omega))
    | (refine (right_any _ _ _ (by omega) (by omega) (by omega)).mono ?_; rintro e w2 ⟨he, hb_w2⟩; rw [HB.out] at he; clear HB; subst he; obtain ⟨hc_w2, hf_w2⟩ := bcell hb_w2; have hz_w2 := hb_w2.size; (try simp at hz_w2); have hB_w2 : Below w.heap.size w w2 := Below.trans (by repeat' (first | (with_reducible assumption) | (with_reducible refine Below.setCell ?_ ?_ _) | (with_reducible refine Below.alloc ?_ ?_ _) | (with_reducible refine Below.drew ?_) | (with_reducible refine below_drewN ?_ _) | (with_reducible exact Below.refl _ _) | (show _ ≤ _; (try simp); (try omega); done) | exact Below.refl _ _ | assumption)) (hb_w2.mono (by (try simp); (try omega))); have z_w2_0 : w.heap.size < w2.heap.size := (by omega); have z_w2_1 : w.heap.size + 1 < w2.heap.size := (by omega)))
  have c0 : w2.cell? ⟨w.heap.size, 0, none⟩ = some (.int .i64 an) := by go_simp
  have c1 : w2.cell? ⟨w.heap.size, 1, none⟩ = some (.int .i64 ad) := by go_simp
  have c2 : w2.cell? ⟨w.heap.size + 1, 0, none⟩ = some (.int .i64 bn) := by go_simp
  have c3 : w2.cell? ⟨w.heap.size + 1, 1, none⟩ = some (.int .i64 bd) := by go_simp
  clear hc_w2 hf_w2 hc_w1 hf_w1 hb_w1 hb_w2 hz_w1 hz_w2
  have HB2 := Lib.hid hB_w2; clear hB_w2 hB_w1
  go_quiet (first | (go_at_call 53; exact size_q3 _ _ h1 h2 SA.out _ _) | (go_at_call 78; exact mul_q0 _ _ h l (by omega) (by omega) HH.out HL.out _ _))
  go_wp2
  go_quiet (first | (go_at_call 53; exact size_q4 _ _ h4 h5 SB.out _ _ _) | (go_at_call 78; exact mul_q _ _ i m (by omega) (by omega) HI.out HM.out _ _ _))
  go_wp2
  go_ret2
  have hB := HB2.out
  exact ⟨rfl, (by repeat' (first | (with_reducible assumption) | (with_reducible refine Below.setCell ?_ ?_ _) | (with_reducible refine Below.alloc ?_ ?_ _) | (with_reducible refine Below.drew ?_) | (with_reducible refine below_drewN ?_ _) | (with_reducible exact Below.refl _ _) | (show _ ≤ _; (try simp); (try omega); done) | exact Below.refl _ _ | assumption))⟩

set_option maxRecDepth 100000 in
set_option maxHeartbeats 2000000 in
theorem cmp_ell_false (an bn : Int) (ad bd a b h l i m : Nat) (w : World) (h1 : -9223372036854775808 ≤ an) (h2 : an < 9223372036854775808) (h3 : ad < 9223372036854775808) (h4 : -9223372036854775808 ≤ bn) (h5 : bn < 9223372036854775808) (h6 : bd < 9223372036854775808)
    (HA : Hid (rightB an ad = true)) (HB : Hid (rightB bn bd = true)) (SA : Hid (a = an.natAbs)) (SB : Hid (b = bn.natAbs)) (HH : Hid (h = a * bd / 18446744073709551616)) (HL : Hid (l = a * bd % 18446744073709551616)) (HI : Hid (i = b * ad / 18446744073709551616)) (HM : Hid (m = b * ad % 18446744073709551616)) (qa : a < 18446744073709551616) (qb : b < 18446744073709551616) (s1 : decide (an < 0) = false) (s2 : decide (bn < 0) = false) (o1 : decide (h < i) = false) (o2 : ((h : Int) == (i : Int)) = true) (o2' : (h == i) = true) (o3 : decide (l < m) = true) (o4 : ((l : Int) == (m : Int)) = false) (o4' : (l == m) = false) :
    Calls Tryd.prog 83 #[.agg #[.int .i64 an, .int .i64 ad], .agg #[.int .i64 bn, .int .i64 bd]] w fun e w' => e = .returned (.tuple #[.int .i64 (-1), .nilIface]) ∧ Below w.heap.size w w' := by
  have E1 := wrapN ad (by omega)
  have E2 := wrapN bd (by omega)
  go_enter Tryd.func83, Tryd.ntmps83
  go_wp2_with (go_at_call 39; first
    | (refine (right_any _ _ _ (by omega) (by omega) (by omega)).mono ?_; rintro e w1 ⟨he, hb_w1⟩; rw [HA.out] at he; clear HA; subst he; obtain ⟨hc_w1, hf_w1⟩ := bcell hb_w1; have hz_w1 := hb_w1.size; (try simp at hz_w1); have hB_w1 : Below w.heap.size w w1 := Below.trans (by repeat' (first | (with_reducible assumption) | (with_reducible refine Below.setCell ?_ ?_ _) | (with_reducible refine Below.alloc ?_ ?_ _) | (with_reducible refine Below.drew ?_) | (with_reducible refine below_drewN ?_ _) | (with_reducible exact Below.refl _ _) | (show _ ≤ _; (try simp); (try omega); done) | exact Below.refl _ _ | assumption)) (hb_w1.mono (by (try simp); (try omega))); have z_w1_0 : w.heap.size < w1.heap.size := (by omega); have z_w1_1 : w.heap.size + 1 < w1.heap.size := (by omega))
    | (refine (right_any _ _ _ (by omega) (by omega) (by omega)).mono ?_; rintro e w2 ⟨he, hb_w2⟩; rw [HB.out] at he; clear HB; subst he; obtain ⟨hc_w2, hf_w2⟩ := bcell hb_w2; have hz_w2 := hb_w2.size; (try simp at hz_w2); have hB_w2 : Below w.heap.size w w2 := Below.trans (by repeat' (first | (with_reducible assumption) | (with_reducible refine Below.setCell ?_ ?_ _) | (with_reducible refine Below.alloc ?_ ?_ _) | (with_reducible refine Below.drew ?_) | (with_reducible refine below_drewN ?_ _) | (with_reducible exact Below.refl _ _) | (show _ ≤ _; (try simp); (try omega); done) | exact Below.refl _ _ | assumption)) (hb_w2.mono (by (try simp); (try omega))); have z_w2_0 : w.heap.size < w2.heap.size := (by omega); have z_w2_1 : w.heap.size + 1 < w2.heap.size := (by omega)))
  have c0 : w2.cell? ⟨w.heap.size, 0, none⟩ = some (.int .i64 an) := by go_simp
  have c1 : w2.cell? ⟨w.heap.size, 1, none⟩ = some (.int .i64 ad) := by go_simp
  have c2 : w2.cell? ⟨w.heap.size + 1, 0, none⟩ = some (.int .i64 bn) := by go_simp
  have c3 : w2.cell? ⟨w.heap.size + 1, 1, none⟩ = some (.int .i64 bd) := by go_simp
  clear hc_w2 hf_w2 hc_w1 hf_w1 hb_w1 hb_w2 hz_w1 hz_w2
  have HB2 := Lib.hid hB_w2; clear hB_w2 hB_w1
  go_quiet (first | (go_at_call 53; exact size_q3 _ _ h1 h2 SA.out _ _) | (go_at_call 78; exact mul_q0 _ _ h l (by omega) (by omega) HH.out HL.out _ _))
  go_wp2
  go_quiet (first | (go_at_call 53; exact size_q4 _ _ h4 h5 SB.out _ _ _) | (go_at_call 78; exact mul_q _ _ i m (by omega) (by omega) HI.out HM.out _ _ _))
  go_wp2
  go_ret2
  have hB := HB2.out
  exact ⟨rfl, (by repeat' (first | (with_reducible assumption) | (with_reducible refine Below.setCell ?_ ?_ _) | (with_reducible refine Below.alloc ?_ ?_ _) | (with_reducible refine Below.drew ?_) | (with_reducible refine below_drewN ?_ _) | (with_reducible exact Below.refl _ _) | (show _ ≤ _; (try simp); (try omega); done) | exact Below.refl _ _ | assumption))⟩

set_option maxRecDepth 100000 in
set_option maxHeartbeats 2000000 in
theorem cmp_eq_false (an bn : Int) (ad bd a b h l i m : Nat) (w : World) (h1 : -9223372036854775808 ≤ an) (h2 : an < 9223372036854775808) (h3 : ad < 9223372036854775808) (h4 : -9223372036854775808 ≤ bn) (h5 : bn < 9223372036854775808) (h6 : bd < 9223372036854775808)
    (HA : Hid (rightB an ad = true)) (HB : Hid (rightB bn bd = true)) (SA : Hid (a = an.natAbs)) (SB : Hid (b = bn.natAbs)) (HH : Hid (h = a * bd / 18446744073709551616)) (HL : Hid (l = a * bd % 18446744073709551616)) (HI : Hid (i = b * ad / 18446744073709551616)) (HM : Hid (m = b * ad % 18446744073709551616)) (qa : a < 18446744073709551616) (qb : b < 18446744073709551616) (s1 : decide (an < 0) = false) (s2 : decide (bn < 0) = false) (o1 : decide (h < i) = false) (o2 : ((h : Int) == (i : Int)) = true) (o2' : (h == i) = true) (o3 : decide (l < m) = false) (o4 : ((l : Int) == (m : Int)) = true) (o4' : (l == m) = true) :
    Calls Tryd.prog 83 #[.agg #[.int .i64 an, .int .i64 ad], .agg #[.int .i64 bn, .int .i64 bd]] w fun e w' => e = .returned (.tuple #[.int .i64 0, .nilIface]) ∧ Below w.heap.size w w' := by
  have E1 := wrapN ad (by omega)
  have E2 := wrapN bd (by omega)
  go_enter Tryd.func83, Tryd.ntmps83
  go_wp2_with (go_at_call 39; first
    | (refine (right_any _ _ _ (by omega) (by omega) (by omega)).mono ?_; rintro e w1 ⟨he, hb_w1⟩; rw [HA.out] at he; clear HA; subst he; obtain ⟨hc_w1, hf_w1⟩ := bcell hb_w1; have hz_w1 := hb_w1.size; (try simp at hz_w1); have hB_w1 : Below w.heap.size w w1 := Below.trans (by repeat' (first | (with_reducible assumption) | (with_reducible refine Below.setCell ?_ ?_ _) | (with_reducible refine Below.alloc ?_ ?_ _) | (with_reducible refine Below.drew ?_) | (with_reducible refine below_drewN ?_ _) | (with_reducible exact Below.refl _ _) | (show _ ≤ _; (try simp); (try omega); done) | exact Below.refl _ _ | assumption)) (hb_w1.mono (by (try simp); (try omega))); have z_w1_0 : w.heap.size < w1.heap.size := (by omega); have z_w1_1 : w.heap.size + 1 < w1.heap.size := (by omega))
    | (refine (right_any _ _ _ (by omega) (by omega) (by omega)).mono ?_; rintro e w2 ⟨he, hb_w2⟩; rw [HB.out] at he; clear HB; subst he; obtain ⟨hc_w2, hf_w2⟩ := bcell hb_w2; have hz_w2 := hb_w2.size; (try simp at hz_w2); have hB_w2 : Below w.heap.size w w2 := Below.trans (by repeat' (first | (with_reducible assumption) | (with_reducible refine Below.setCell ?_ ?_ _) | (with_reducible refine Below.alloc ?_ ?_ _) | (with_reducible refine Below.drew ?_) | (with_reducible refine below_drewN ?_ _) | (with_reducible exact Below.refl _ _) | (show _ ≤ _; (try simp); (try omega); done) | exact Below.refl _ _ | assumption)) (hb_w2.mono (by (try simp); (try omega))); have z_w2_0 : w.heap.size < w2.heap.size := (by omega); have z_w2_1 : w.heap.size + 1 < w2.heap.size := (by omega)))
  have c0 : w2.cell? ⟨w.heap.size, 0, none⟩ = some (.int .i64 an) := by go_simp
  have c1 : w2.cell? ⟨w.heap.size, 1, none⟩ = some (.int .i64 ad) := by go_simp
  have c2 : w2.cell? ⟨w.heap.size + 1, 0, none⟩ = some (.int .i64 bn) := by go_simp
  have c3 : w2.cell? ⟨w.heap.size + 1, 1, none⟩ = some (.int .i64 bd) := by go_simp
  clear hc_w2 hf_w2 hc_w1 hf_w1 hb_w1 hb_w2 hz_w1 hz_w2
  have HB2 := Lib.hid hB_w2; clear hB_w2 hB_w1
  go_quiet (first | (go_at_call 53; exact size_q3 _ _ h1 h2 SA.out _ _) | (go_at_call 78; exact mul_q0 _ _ h l (by omega) (by omega) HH.out HL.out _ _))
  go_wp2
  go_quiet (first | (go_at_call 53; exact size_q4 _ _ h4 h5 SB.out _ _ _) | (go_at_call 78; exact mul_q _ _ i m (by omega) (by omega) HI.out HM.out _ _ _))
  go_wp2
  go_ret2
  have hB := HB2.out
  exact ⟨rfl, (by repeat' (first | (with_reducible assumption) | (with_reducible refine Below.setCell ?_ ?_ _) | (with_reducible refine Below.alloc ?_ ?_ _) | (with_reducible refine Below.drew ?_) | (with_reducible refine below_drewN ?_ _) | (with_reducible exact Below.refl _ _) | (show _ ≤ _; (try simp); (try omega); done) | exact Below.refl _ _ | assumption))⟩

set_option maxRecDepth 100000 in
set_option maxHeartbeats 2000000 in
theorem cmp_egg_false (an bn : Int) (ad bd a b h l i m : Nat) (w : World) (h1 : -9223372036854775808 ≤ an) (h2 : an < 9223372036854775808) (h3 : ad < 9223372036854775808) (h4 : -9223372036854775808 ≤ bn) (h5 : bn < 9223372036854775808) (h6 : bd < 9223372036854775808)
    (HA : Hid (rightB an ad = true)) (HB : Hid (rightB bn bd = true)) (SA : Hid (a = an.natAbs)) (SB : Hid (b = bn.natAbs)) (HH : Hid (h = a * bd / 18446744073709551616)) (HL : Hid (l = a * bd % 18446744073709551616)) (HI : Hid (i = b * ad / 18446744073709551616)) (HM : Hid (m = b * ad % 18446744073709551616)) (qa : a < 18446744073709551616) (qb : b < 18446744073709551616) (s1 : decide (an < 0) = false) (s2 : decide (bn < 0) = false) (o1 : decide (h < i) = false) (o2 : ((h : Int) == (i : Int)) = true) (o2' : (h == i) = true) (o3 : decide (l < m) = false) (o4 : ((l : Int) == (m : Int)) = false) (o4' : (l == m) = false) :
    Calls Tryd.prog 83 #[.agg #[.int .i64 an, .int .i64 ad], .agg #[.int .i64 bn, .int .i64 bd]] w fun e w' => e = .returned (.tuple #[.int .i64 1, .nilIface]) ∧ Below w.heap.size w w' := by
  have E1 := wrapN ad (by omega)
  have E2 := wrapN bd (by omega)
  go_enter Tryd.func83, Tryd.ntmps83
  go_wp2_with (go_at_call 39; first
    | (refine (right_any _ _ _ (by omega) (by omega) (by omega)).mono ?_; rintro e w1 ⟨he, hb_w1⟩; rw [HA.out] at he; clear HA; subst he; obtain ⟨hc_w1, hf_w1⟩ := bcell hb_w1; have hz_w1 := hb_w1.size; (try simp at hz_w1); have hB_w1 : Below w.heap.size w w1 := Below.trans (by repeat' (first | (with_reducible assumption) | (with_reducible refine Below.setCell ?_ ?_ _) | (with_reducible refine Below.alloc ?_ ?_ _) | (with_reducible refine Below.drew ?_) | (with_reducible refine below_drewN ?_ _) | (with_reducible exact Below.refl _ _) | (show _ ≤ _; (try simp); (try omega); done) | exact Below.refl _ _ | assumption)) (hb_w1.mono (by (try simp); (try omega))); have z_w1_0 : w.heap.size < w1.heap.size := (by omega); have z_w1_1 : w.heap.size + 1 < w1.heap.size := (by omega))
    | (refine (right_any _ _ _ (by omega) (by omega) (by omega)).mono ?_; rintro e w2 ⟨he, hb_w2⟩; rw [HB.out] at he; clear HB; subst he; obtain ⟨hc_w2, hf_w2⟩ := bcell hb_w2; have hz_w2 := hb_w2.size; (try simp at hz_w2); have hB_w2 : Below w.heap.size w w2 := Below.trans (by repeat' (first | (with_reducible assumption) | (with_reducible refine Below.setCell ?_ ?_ _) | (with_reducible refine Below.alloc ?_ ?_ _) | (with_reducible refine Below.drew ?_) | (with_reducible refine below_drewN ?_ _) | (with_reducible exact Below.refl _ _) | (show _ ≤ _; (try simp); (try omega); done) | exact Below.refl _ _ | assumption)) (hb_w2.mono (by (try simp); (try omega))); have z_w2_0 : w.heap.size < w2.heap.size := (by omega); have z_w2_1 : w.heap.size + 1 < w2.heap.size := (by omega)))
  have c0 : w2.cell? ⟨w.heap.size, 0, none⟩ = some (.int .i64 an) := by go_simp
  have c1 : w2.cell? ⟨w.heap.size, 1, none⟩ = some (.int .i64 ad) := by go_simp
  have c2 : w2.cell? ⟨w.heap.size + 1, 0, none⟩ = some (.int .i64 bn) := by go_simp
  have c3 : w2.cell? ⟨w.heap.size + 1, 1, none⟩ = some (.int .i64 bd) := by go_simp
  clear hc_w2 hf_w2 hc_w1 hf_w1 hb_w1 hb_w2 hz_w1 hz_w2
  have HB2 := Lib.hid hB_w2; clear hB_w2 hB_w1
  go_quiet (first | (go_at_call 53; exact size_q3 _ _ h1 h2 SA.out _ _) | (go_at_call 78; exact mul_q0 _ _ h l (by omega) (by omega) HH.out HL.out _ _))
  go_wp2
  go_quiet (first | (go_at_call 53; exact size_q4 _ _ h4 h5 SB.out _ _ _) | (go_at_call 78; exact mul_q _ _ i m (by omega) (by omega) HI.out HM.out _ _ _))
  go_wp2
  go_ret2
  have hB := HB2.out
  exact ⟨rfl, (by repeat' (first | (with_reducible assumption) | (with_reducible refine Below.setCell ?_ ?_ _) | (with_reducible refine Below.alloc ?_ ?_ _) | (with_reducible refine Below.drew ?_) | (with_reducible refine below_drewN ?_ _) | (with_reducible exact Below.refl _ _) | (show _ ≤ _; (try simp); (try omega); done) | exact Below.refl _ _ | assumption))⟩

set_option maxRecDepth 100000 in
set_option maxHeartbeats 2000000 in
theorem cmp_gt_false (an bn : Int) (ad bd a b h l i m : Nat) (w : World) (h1 : -9223372036854775808 ≤ an) (h2 : an < 9223372036854775808) (h3 : ad < 9223372036854775808) (h4 : -9223372036854775808 ≤ bn) (h5 : bn < 9223372036854775808) (h6 : bd < 9223372036854775808)
    (HA : Hid (rightB an ad = true)) (HB : Hid (rightB bn bd = true)) (SA : Hid (a = an.natAbs)) (SB : Hid (b = bn.natAbs)) (HH : Hid (h = a * bd / 18446744073709551616)) (HL : Hid (l = a * bd % 18446744073709551616)) (HI : Hid (i = b * ad / 18446744073709551616)) (HM : Hid (m = b * ad % 18446744073709551616)) (qa : a < 18446744073709551616) (qb : b < 18446744073709551616) (s1 : decide (an < 0) = false) (s2 : decide (bn < 0) = false) (o1 : decide (h < i) = false) (o2 : ((h : Int) == (i : Int)) = false) (o2' : (h == i) = false) :
    Calls Tryd.prog 83 #[.agg #[.int .i64 an, .int .i64 ad], .agg #[.int .i64 bn, .int .i64 bd]] w fun e w' => e = .returned (.tuple #[.int .i64 1, .nilIface]) ∧ Below w.heap.size w w' := by
  have E1 := wrapN ad (by omega)
  have E2 := wrapN bd (by omega)
  go_enter Tryd.func83, Tryd.ntmps83
  go_wp2_with (go_at_call 39; first
    | (refine (right_any _ _ _ (by omega) (by omega) (by omega)).mono ?_; rintro e w1 ⟨he, hb_w1⟩; rw [HA.out] at he; clear HA; subst he; obtain ⟨hc_w1, hf_w1⟩ := bcell hb_w1; have hz_w1 := hb_w1.size; (try simp at hz_w1); have hB_w1 : Below w.heap.size w w1 := Below.trans (by repeat' (first | (with_reducible assumption) | (with_reducible refine Below.setCell ?_ ?_ _) | (with_reducible refine Below.alloc ?_ ?_ _) | (with_reducible refine Below.drew ?_) | (with_reducible refine below_drewN ?_ _) | (with_reducible exact Below.refl _ _) | (show _ ≤ _; (try simp); (try omega); done) | exact Below.refl _ _ | assumption)) (hb_w1.mono (by (try simp); (try omega))); have z_w1_0 : w.heap.size < w1.heap.size := (by omega); have z_w1_1 : w.heap.size + 1 < w1.heap.size := (by omega))
    | (refine (right_any _ _ _ (by omega) (by omega) (by omega)).mono ?_; rintro e w2 ⟨he, hb_w2⟩; rw [HB.out] at he; clear HB; subst he; obtain ⟨hc_w2, hf_w2⟩ := bcell hb_w2; have hz_w2 := hb_w2.size; (try simp at hz_w2); have hB_w2 : Below w.heap.size w w2 := Below.trans (by repeat' (first | (with_reducible assumption) | (with_reducible refine Below.setCell ?_ ?_ _) | (with_reducible refine Below.alloc ?_ ?_ _) | (with_reducible refine Below.drew ?_) | (with_reducible refine below_drewN ?_ _) | (with_reducible exact Below.refl _ _) | (show _ ≤ _; (try simp); (try omega); done) | exact Below.refl _ _ | assumption)) (hb_w2.mono (by (try simp); (try omega))); have z_w2_0 : w.heap.size < w2.heap.size := (by omega); have z_w2_1 : w.heap.size + 1 < w2.heap.size := (by omega)))
  have c0 : w2.cell? ⟨w.heap.size, 0, none⟩ = some (.int .i64 an) := by go_simp
  have c1 : w2.cell? ⟨w.heap.size, 1, none⟩ = some (.int .i64 ad) := by go_simp
  have c2 : w2.cell? ⟨w.heap.size + 1, 0, none⟩ = some (.int .i64 bn) := by go_simp
  have c3 : w2.cell? ⟨w.heap.size + 1, 1, none⟩ = some (.int .i64 bd) := by go_simp
  clear hc_w2 hf_w2 hc_w1 hf_w1 hb_w1 hb_w2 hz_w1 hz_w2
  have HB2 := Lib.hid hB_w2; clear hB_w2 hB_w1
  go_quiet (first | (go_at_call 53; exact size_q3 _ _ h1 h2 SA.out _ _) | (go_at_call 78; exact mul_q0 _ _ h l (by omega) (by omega) HH.out HL.out _ _))
  go_wp2
  go_quiet (first | (go_at_call 53; exact size_q4 _ _ h4 h5 SB.out _ _ _) | (go_at_call 78; exact mul_q _ _ i m (by omega) (by omega) HI.out HM.out _ _ _))
  go_wp2
  go_ret2
  have hB := HB2.out
  exact ⟨rfl, (by repeat' (first | (with_reducible assumption) | (with_reducible refine Below.setCell ?_ ?_ _) | (with_reducible refine Below.alloc ?_ ?_ _) | (with_reducible refine Below.drew ?_) | (with_reducible refine below_drewN ?_ _) | (with_reducible exact Below.refl _ _) | (show _ ≤ _; (try simp); (try omega); done) | exact Below.refl _ _ | assumption))⟩

set_option maxRecDepth 100000 in
set_option maxHeartbeats 1000000 in
theorem round_wrong (an ad : Int) (w : World) (h1 : -9223372036854775808 ≤ an) (h2 : an < 9223372036854775808) (h3 : ad < 9223372036854775808) (HA : Hid (rightB an ad = false)) :
    Calls Tryd.prog 42 #[.agg #[.int .i64 an, .int .i64 ad]] w fun e w' => e = .returned (.tuple #[.int .i64 0, .iface 64 (.int .i64 1)]) ∧ Below w.heap.size w w' := by
  go_enter Tryd.func42, Tryd.ntmps42
  go_wp2_with (go_at_call 39; refine (right_any _ _ _ (by omega) (by omega) (by omega)).mono ?_; rintro e w1 ⟨he, hb⟩; rw [HA.out] at he; subst he; obtain ⟨hc, hf⟩ := bcell hb; have hz := hb.size; (try simp at hz); have hB : Below w.heap.size w w1 := Below.trans (by repeat' (first | (with_reducible assumption) | (with_reducible refine Below.setCell ?_ ?_ _) | (with_reducible refine Below.alloc ?_ ?_ _) | (with_reducible refine Below.drew ?_) | (with_reducible refine below_drewN ?_ _) | (with_reducible exact Below.refl _ _) | (show _ ≤ _; (try simp); (try omega); done) | exact Below.refl _ _ | assumption)) (hb.mono (by (try simp); (try omega))))
  go_ret2
  exact ⟨rfl, (by repeat' (first | (with_reducible assumption) | (with_reducible refine Below.setCell ?_ ?_ _) | (with_reducible refine Below.alloc ?_ ?_ _) | (with_reducible refine Below.drew ?_) | (with_reducible refine below_drewN ?_ _) | (with_reducible exact Below.refl _ _) | (show _ ≤ _; (try simp); (try omega); done) | exact Below.refl _ _ | assumption))⟩
theorem neg_back (q : Int) (h0 : 0 ≤ q) (h1 : q ≤ 9223372036854775808) : wrap64 (-q % 18446744073709551616) = -q := by unfold wrap64; omega
theorem ret_iv {a b : Int} {v : Value} (h : a = b) : Ending.returned (.tuple #[.int .i64 a, v]) = Ending.returned (.tuple #[.int .i64 b, v]) := by rw [h]
def rndN (n d : Nat) : Nat := if 0 < n % d ∧ d - n % d ≤ n % d then n / d + 1 else n / d

set_option maxRecDepth 100000 in
set_option maxHeartbeats 2000000 in
theorem round_pu (an : Int) (d n q r : Nat) (w : World) (h1 : -9223372036854775808 ≤ an) (h2 : an < 9223372036854775808) (h3 : d < 9223372036854775808) (d0 : 0 < d) (HA : Hid (rightB an d = true)) (SA : Hid (n = an.natAbs)) (qn : n < 18446744073709551616) (wq : IntKind.u64.wrap ((n : Int) / (d : Int)) = (q : Int)) (wr : (n : Int) % (d : Int) = (r : Int)) (hr : r < d) (bq : q ≤ 9223372036854775807) (s1 : decide (an < 0) = false) (o1 : decide (0 < r) = true) (o1' : decide ((0 : Int) < (r : Int)) = true) (o2 : decide ((d : Int) - (r : Int) ≤ (r : Int)) = true) (o3 : q + 1 ≤ 9223372036854775807) :
    Calls Tryd.prog 42 #[.agg #[.int .i64 an, .int .i64 d]] w fun e w' => e = .returned (.tuple #[.int .i64 ((q : Int) + 1), .nilIface]) ∧ Below w.heap.size w w' := by
  have E1 := wrapN d (by omega)
  have nd : ¬ d = 0 := by omega
  go_enter Tryd.func42, Tryd.ntmps42
  go_wp2_with (go_at_call 39; refine (right_any _ _ _ (by omega) (by omega) (by omega)).mono ?_; rintro e w1 ⟨he, hb_w1⟩; rw [HA.out] at he; clear HA; subst he; obtain ⟨hc_w1, hf_w1⟩ := bcell hb_w1; have hz_w1 := hb_w1.size; (try simp at hz_w1); have hB_w1 : Below w.heap.size w w1 := Below.trans (by repeat' (first | (with_reducible assumption) | (with_reducible refine Below.setCell ?_ ?_ _) | (with_reducible refine Below.alloc ?_ ?_ _) | (with_reducible refine Below.drew ?_) | (with_reducible refine below_drewN ?_ _) | (with_reducible exact Below.refl _ _) | (show _ ≤ _; (try simp); (try omega); done) | exact Below.refl _ _ | assumption)) (hb_w1.mono (by (try simp); (try omega))); have z_w1_0 : w.heap.size < w1.heap.size := (by omega))
  have c0 : w1.cell? ⟨w.heap.size, 0, none⟩ = some (.int .i64 an) := by go_simp
  have c1 : w1.cell? ⟨w.heap.size, 1, none⟩ = some (.int .i64 d) := by go_simp
  clear hc_w1 hf_w1 hb_w1 hz_w1
  have HB2 := Lib.hid hB_w1; clear hB_w1
  go_quiet ((go_at_call 53; exact size_q3 _ _ h1 h2 SA.out _ _))
  go_wp2
  go_quiet (fail)
  go_wp2
  go_ret2
  have hB := HB2.out
  exact ⟨rfl, (by repeat' (first | (with_reducible assumption) | (with_reducible refine Below.setCell ?_ ?_ _) | (with_reducible refine Below.alloc ?_ ?_ _) | (with_reducible refine Below.drew ?_) | (with_reducible refine below_drewN ?_ _) | (with_reducible exact Below.refl _ _) | (show _ ≤ _; (try simp); (try omega); done) | exact Below.refl _ _ | assumption))⟩

set_option maxRecDepth 100000 in
set_option maxHeartbeats 2000000 in
theorem round_pd (an : Int) (d n q r : Nat) (w : World) (h1 : -9223372036854775808 ≤ an) (h2 : an < 9223372036854775808) (h3 : d < 9223372036854775808) (d0 : 0 < d) (HA : Hid (rightB an d = true)) (SA : Hid (n = an.natAbs)) (qn : n < 18446744073709551616) (wq : IntKind.u64.wrap ((n : Int) / (d : Int)) = (q : Int)) (wr : (n : Int) % (d : Int) = (r : Int)) (hr : r < d) (bq : q ≤ 9223372036854775807) (s1 : decide (an < 0) = false) (o1 : decide (0 < r) = true) (o1' : decide ((0 : Int) < (r : Int)) = true) (o2 : decide ((d : Int) - (r : Int) ≤ (r : Int)) = false) :
    Calls Tryd.prog 42 #[.agg #[.int .i64 an, .int .i64 d]] w fun e w' => e = .returned (.tuple #[.int .i64 (q : Int), .nilIface]) ∧ Below w.heap.size w w' := by
  have E1 := wrapN d (by omega)
  have nd : ¬ d = 0 := by omega
  go_enter Tryd.func42, Tryd.ntmps42
  go_wp2_with (go_at_call 39; refine (right_any _ _ _ (by omega) (by omega) (by omega)).mono ?_; rintro e w1 ⟨he, hb_w1⟩; rw [HA.out] at he; clear HA; subst he; obtain ⟨hc_w1, hf_w1⟩ := bcell hb_w1; have hz_w1 := hb_w1.size; (try simp at hz_w1); have hB_w1 : Below w.heap.size w w1 := Below.trans (by repeat' (first | (with_reducible assumption) | (with_reducible refine Below.setCell ?_ ?_ _) | (with_reducible refine Below.alloc ?_ ?_ _) | (with_reducible refine Below.drew ?_) | (with_reducible refine below_drewN ?_ _) | (with_reducible exact Below.refl _ _) | (show _ ≤ _; (try simp); (try omega); done) | exact Below.refl _ _ | assumption)) (hb_w1.mono (by (try simp); (try omega))); have z_w1_0 : w.heap.size < w1.heap.size := (by omega))
  have c0 : w1.cell? ⟨w.heap.size, 0, none⟩ = some (.int .i64 an) := by go_simp
  have c1 : w1.cell? ⟨w.heap.size, 1, none⟩ = some (.int .i64 d) := by go_simp
  clear hc_w1 hf_w1 hb_w1 hz_w1
  have HB2 := Lib.hid hB_w1; clear hB_w1
  go_quiet ((go_at_call 53; exact size_q3 _ _ h1 h2 SA.out _ _))
  go_wp2
  go_quiet (fail)
  go_wp2
  go_ret2
  have hB := HB2.out
  exact ⟨rfl, (by repeat' (first | (with_reducible assumption) | (with_reducible refine Below.setCell ?_ ?_ _) | (with_reducible refine Below.alloc ?_ ?_ _) | (with_reducible refine Below.drew ?_) | (with_reducible refine below_drewN ?_ _) | (with_reducible exact Below.refl _ _) | (show _ ≤ _; (try simp); (try omega); done) | exact Below.refl _ _ | assumption))⟩

set_option maxRecDepth 100000 in
set_option maxHeartbeats 2000000 in
theorem round_pz (an : Int) (d n q r : Nat) (w : World) (h1 : -9223372036854775808 ≤ an) (h2 : an < 9223372036854775808) (h3 : d < 9223372036854775808) (d0 : 0 < d) (HA : Hid (rightB an d = true)) (SA : Hid (n = an.natAbs)) (qn : n < 18446744073709551616) (wq : IntKind.u64.wrap ((n : Int) / (d : Int)) = (q : Int)) (wr : (n : Int) % (d : Int) = (r : Int)) (hr : r < d) (bq : q ≤ 9223372036854775807) (s1 : decide (an < 0) = false) (o0 : r = 0) :
    Calls Tryd.prog 42 #[.agg #[.int .i64 an, .int .i64 d]] w fun e w' => e = .returned (.tuple #[.int .i64 (q : Int), .nilIface]) ∧ Below w.heap.size w w' := by
  have E1 := wrapN d (by omega)
  have nd : ¬ d = 0 := by omega
  subst o0
  go_enter Tryd.func42, Tryd.ntmps42
  go_wp2_with (go_at_call 39; refine (right_any _ _ _ (by omega) (by omega) (by omega)).mono ?_; rintro e w1 ⟨he, hb_w1⟩; rw [HA.out] at he; clear HA; subst he; obtain ⟨hc_w1, hf_w1⟩ := bcell hb_w1; have hz_w1 := hb_w1.size; (try simp at hz_w1); have hB_w1 : Below w.heap.size w w1 := Below.trans (by repeat' (first | (with_reducible assumption) | (with_reducible refine Below.setCell ?_ ?_ _) | (with_reducible refine Below.alloc ?_ ?_ _) | (with_reducible refine Below.drew ?_) | (with_reducible refine below_drewN ?_ _) | (with_reducible exact Below.refl _ _) | (show _ ≤ _; (try simp); (try omega); done) | exact Below.refl _ _ | assumption)) (hb_w1.mono (by (try simp); (try omega))); have z_w1_0 : w.heap.size < w1.heap.size := (by omega))
  have c0 : w1.cell? ⟨w.heap.size, 0, none⟩ = some (.int .i64 an) := by go_simp
  have c1 : w1.cell? ⟨w.heap.size, 1, none⟩ = some (.int .i64 d) := by go_simp
  clear hc_w1 hf_w1 hb_w1 hz_w1
  have HB2 := Lib.hid hB_w1; clear hB_w1
  go_quiet ((go_at_call 53; exact size_q3 _ _ h1 h2 SA.out _ _))
  go_wp2
  go_quiet (fail)
  go_wp2
  go_ret2
  have hB := HB2.out
  exact ⟨rfl, (by repeat' (first | (with_reducible assumption) | (with_reducible refine Below.setCell ?_ ?_ _) | (with_reducible refine Below.alloc ?_ ?_ _) | (with_reducible refine Below.drew ?_) | (with_reducible refine below_drewN ?_ _) | (with_reducible exact Below.refl _ _) | (show _ ≤ _; (try simp); (try omega); done) | exact Below.refl _ _ | assumption))⟩

set_option maxRecDepth 100000 in
set_option maxHeartbeats 2000000 in
theorem round_nu (an : Int) (d n q r : Nat) (w : World) (h1 : -9223372036854775808 ≤ an) (h2 : an < 9223372036854775808) (h3 : d < 9223372036854775808) (d0 : 0 < d) (HA : Hid (rightB an d = true)) (SA : Hid (n = an.natAbs)) (qn : n < 18446744073709551616) (wq : IntKind.u64.wrap ((n : Int) / (d : Int)) = (q : Int)) (wr : (n : Int) % (d : Int) = (r : Int)) (hr : r < d) (bq : q ≤ 9223372036854775808) (s1 : decide (an < 0) = true) (o1 : decide (0 < r) = true) (o1' : decide ((0 : Int) < (r : Int)) = true) (o2 : decide ((d : Int) - (r : Int) ≤ (r : Int)) = true) (o3 : q + 1 ≤ 9223372036854775807) :
    Calls Tryd.prog 42 #[.agg #[.int .i64 an, .int .i64 d]] w fun e w' => e = .returned (.tuple #[.int .i64 (-((q : Int) + 1)), .nilIface]) ∧ Below w.heap.size w w' := by
  have E1 := wrapN d (by omega)
  have nd : ¬ d = 0 := by omega
  go_enter Tryd.func42, Tryd.ntmps42
  go_wp2_with (go_at_call 39; refine (right_any _ _ _ (by omega) (by omega) (by omega)).mono ?_; rintro e w1 ⟨he, hb_w1⟩; rw [HA.out] at he; clear HA; subst he; obtain ⟨hc_w1, hf_w1⟩ := bcell hb_w1; have hz_w1 := hb_w1.size; (try simp at hz_w1); have hB_w1 : Below w.heap.size w w1 := Below.trans (by repeat' (first | (with_reducible assumption) | (with_reducible refine Below.setCell ?_ ?_ _) | (with_reducible refine Below.alloc ?_ ?_ _) | (with_reducible refine Below.drew ?_) | (with_reducible refine below_drewN ?_ _) | (with_reducible exact Below.refl _ _) | (show _ ≤ _; (try simp); (try omega); done) | exact Below.refl _ _ | assumption)) (hb_w1.mono (by (try simp); (try omega))); have z_w1_0 : w.heap.size < w1.heap.size := (by omega))
  have c0 : w1.cell? ⟨w.heap.size, 0, none⟩ = some (.int .i64 an) := by go_simp
  have c1 : w1.cell? ⟨w.heap.size, 1, none⟩ = some (.int .i64 d) := by go_simp
  clear hc_w1 hf_w1 hb_w1 hz_w1
  have HB2 := Lib.hid hB_w1; clear hB_w1
  go_quiet ((go_at_call 53; exact size_q3 _ _ h1 h2 SA.out _ _))
  go_wp2
  go_quiet (fail)
  go_wp2
  go_ret2
  have hB := HB2.out
  exact ⟨ret_iv (by (try rw [IntKind.wrap_u64]); exact neg_back _ (by omega) (by omega)), (by repeat' (first | (with_reducible assumption) | (with_reducible refine Below.setCell ?_ ?_ _) | (with_reducible refine Below.alloc ?_ ?_ _) | (with_reducible refine Below.drew ?_) | (with_reducible refine below_drewN ?_ _) | (with_reducible exact Below.refl _ _) | (show _ ≤ _; (try simp); (try omega); done) | exact Below.refl _ _ | assumption))⟩

set_option maxRecDepth 100000 in
set_option maxHeartbeats 2000000 in
theorem round_nd (an : Int) (d n q r : Nat) (w : World) (h1 : -9223372036854775808 ≤ an) (h2 : an < 9223372036854775808) (h3 : d < 9223372036854775808) (d0 : 0 < d) (HA : Hid (rightB an d = true)) (SA : Hid (n = an.natAbs)) (qn : n < 18446744073709551616) (wq : IntKind.u64.wrap ((n : Int) / (d : Int)) = (q : Int)) (wr : (n : Int) % (d : Int) = (r : Int)) (hr : r < d) (bq : q ≤ 9223372036854775808) (s1 : decide (an < 0) = true) (o1 : decide (0 < r) = true) (o1' : decide ((0 : Int) < (r : Int)) = true) (o2 : decide ((d : Int) - (r : Int) ≤ (r : Int)) = false) :
    Calls Tryd.prog 42 #[.agg #[.int .i64 an, .int .i64 d]] w fun e w' => e = .returned (.tuple #[.int .i64 (-(q : Int)), .nilIface]) ∧ Below w.heap.size w w' := by
  have E1 := wrapN d (by omega)
  have nd : ¬ d = 0 := by omega
  go_enter Tryd.func42, Tryd.ntmps42
  go_wp2_with (go_at_call 39; refine (right_any _ _ _ (by omega) (by omega) (by omega)).mono ?_; rintro e w1 ⟨he, hb_w1⟩; rw [HA.out] at he; clear HA; subst he; obtain ⟨hc_w1, hf_w1⟩ := bcell hb_w1; have hz_w1 := hb_w1.size; (try simp at hz_w1); have hB_w1 : Below w.heap.size w w1 := Below.trans (by repeat' (first | (with_reducible assumption) | (with_reducible refine Below.setCell ?_ ?_ _) | (with_reducible refine Below.alloc ?_ ?_ _) | (with_reducible refine Below.drew ?_) | (with_reducible refine below_drewN ?_ _) | (with_reducible exact Below.refl _ _) | (show _ ≤ _; (try simp); (try omega); done) | exact Below.refl _ _ | assumption)) (hb_w1.mono (by (try simp); (try omega))); have z_w1_0 : w.heap.size < w1.heap.size := (by omega))
  have c0 : w1.cell? ⟨w.heap.size, 0, none⟩ = some (.int .i64 an) := by go_simp
  have c1 : w1.cell? ⟨w.heap.size, 1, none⟩ = some (.int .i64 d) := by go_simp
  clear hc_w1 hf_w1 hb_w1 hz_w1
  have HB2 := Lib.hid hB_w1; clear hB_w1
  go_quiet ((go_at_call 53; exact size_q3 _ _ h1 h2 SA.out _ _))
  go_wp2
  go_quiet (fail)
  go_wp2
  go_ret2
  have hB := HB2.out
  exact ⟨ret_iv (by (try rw [IntKind.wrap_u64]); exact neg_back _ (by omega) (by omega)), (by repeat' (first | (with_reducible assumption) | (with_reducible refine Below.setCell ?_ ?_ _) | (with_reducible refine Below.alloc ?_ ?_ _) | (with_reducible refine Below.drew ?_) | (with_reducible refine below_drewN ?_ _) | (with_reducible exact Below.refl _ _) | (show _ ≤ _; (try simp); (try omega); done) | exact Below.refl _ _ | assumption))⟩

set_option maxRecDepth 100000 in
set_option maxHeartbeats 2000000 in
theorem round_nz (an : Int) (d n q r : Nat) (w : World) (h1 : -9223372036854775808 ≤ an) (h2 : an < 9223372036854775808) (h3 : d < 9223372036854775808) (d0 : 0 < d) (HA : Hid (rightB an d = true)) (SA : Hid (n = an.natAbs)) (qn : n < 18446744073709551616) (wq : IntKind.u64.wrap ((n : Int) / (d : Int)) = (q : Int)) (wr : (n : Int) % (d : Int) = (r : Int)) (hr : r < d) (bq : q ≤ 9223372036854775808) (s1 : decide (an < 0) = true) (o0 : r = 0) :
    Calls Tryd.prog 42 #[.agg #[.int .i64 an, .int .i64 d]] w fun e w' => e = .returned (.tuple #[.int .i64 (-(q : Int)), .nilIface]) ∧ Below w.heap.size w w' := by
  have E1 := wrapN d (by omega)
  have nd : ¬ d = 0 := by omega
  subst o0
  go_enter Tryd.func42, Tryd.ntmps42
  go_wp2_with (go_at_call 39; refine (right_any _ _ _ (by omega) (by omega) (by omega)).mono ?_; rintro e w1 ⟨he, hb_w1⟩; rw [HA.out] at he; clear HA; subst he; obtain ⟨hc_w1, hf_w1⟩ := bcell hb_w1; have hz_w1 := hb_w1.size; (try simp at hz_w1); have hB_w1 : Below w.heap.size w w1 := Below.trans (by repeat' (first | (with_reducible assumption) | (with_reducible refine Below.setCell ?_ ?_ _) | (with_reducible refine Below.alloc ?_ ?_ _) | (with_reducible refine Below.drew ?_) | (with_reducible refine below_drewN ?_ _) | (with_reducible exact Below.refl _ _) | (show _ ≤ _; (try simp); (try omega); done) | exact Below.refl _ _ | assumption)) (hb_w1.mono (by (try simp); (try omega))); have z_w1_0 : w.heap.size < w1.heap.size := (by omega))
  have c0 : w1.cell? ⟨w.heap.size, 0, none⟩ = some (.int .i64 an) := by go_simp
  have c1 : w1.cell? ⟨w.heap.size, 1, none⟩ = some (.int .i64 d) := by go_simp
  clear hc_w1 hf_w1 hb_w1 hz_w1
  have HB2 := Lib.hid hB_w1; clear hB_w1
  go_quiet ((go_at_call 53; exact size_q3 _ _ h1 h2 SA.out _ _))
  go_wp2
  go_quiet (fail)
  go_wp2
  go_ret2
  have hB := HB2.out
  exact ⟨ret_iv (by (try rw [IntKind.wrap_u64]); exact neg_back _ (by omega) (by omega)), (by repeat' (first | (with_reducible assumption) | (with_reducible refine Below.setCell ?_ ?_ _) | (with_reducible refine Below.alloc ?_ ?_ _) | (with_reducible refine Below.drew ?_) | (with_reducible refine below_drewN ?_ _) | (with_reducible exact Below.refl _ _) | (show _ ≤ _; (try simp); (try omega); done) | exact Below.refl _ _ | assumption))⟩

theorem cmp_go (an bn : Int) (ad bd : Nat) (w : World) (h1 : -9223372036854775808 ≤ an) (h2 : an < 9223372036854775808) (h3 : ad < 9223372036854775808) (h4 : -9223372036854775808 ≤ bn) (h5 : bn < 9223372036854775808) (h6 : bd < 9223372036854775808)
    (ha : rightB an ad = true) (hb : rightB bn bd = true) :
    Calls Tryd.prog 83 #[.agg #[.int .i64 an, .int .i64 ad], .agg #[.int .i64 bn, .int .i64 bd]] w fun e w' => e = .returned (.tuple #[.int .i64 (cmpC an ad bn bd), .nilIface]) ∧ Below w.heap.size w w' := by
  obtain ⟨p1, _⟩ := right_no ha
  obtain ⟨p3, _⟩ := right_no hb
  obtain ⟨a, hA⟩ : ∃ a, a = an.natAbs := ⟨_, rfl⟩
  obtain ⟨b, hB⟩ : ∃ b, b = bn.natAbs := ⟨_, rfl⟩
  obtain ⟨X, hX⟩ : ∃ X, X = a * bd := ⟨_, rfl⟩
  obtain ⟨Y, hY⟩ : ∃ Y, Y = b * ad := ⟨_, rfl⟩
  obtain ⟨h, hh⟩ : ∃ h, h = X / 18446744073709551616 := ⟨_, rfl⟩
  obtain ⟨l, hl⟩ : ∃ l, l = X % 18446744073709551616 := ⟨_, rfl⟩
  obtain ⟨i, hi⟩ : ∃ i, i = Y / 18446744073709551616 := ⟨_, rfl⟩
  obtain ⟨m, hm⟩ : ∃ m, m = Y % 18446744073709551616 := ⟨_, rfl⟩
  have HH := hh; have HL := hl; have HI := hi; have HM := hm
  rw [hX] at HH HL; rw [hY] at HI HM
  have q1 : a < 18446744073709551616 := by omega
  have q2 : b < 18446744073709551616 := by omega
  rcases (by omega : an < 0 ∨ 0 ≤ an) with n1 | n1 <;> rcases (by omega : bn < 0 ∨ 0 ≤ bn) with n2 | n2
  · have e1 : an * bd = -(X : Int) := by rw [show an = -(a : Int) by omega, hX, Int.natCast_mul, Int.neg_mul]
    have e2 : bn * ad = -(Y : Int) := by rw [show bn = -(b : Int) by omega, hY, Int.natCast_mul, Int.neg_mul]
    have ec : cmpC an ad bn bd = if X = Y then 0 else if Y < X then -1 else 1 := by
      unfold cmpC; rw [e1, e2]; split <;> split <;> (try split) <;> omega
    rw [ec]
    rcases (by omega : h < i ∨ (h = i ∧ l < m) ∨ (h = i ∧ l = m) ∨ (h = i ∧ m < l) ∨ i < h) with o | ⟨o, o'⟩ | ⟨o, o'⟩ | ⟨o, o'⟩ | o
    · rw [if_neg (by omega), if_neg (by omega)]
      exact cmp_lt_true an bn ad bd a b h l i m w h1 h2 h3 h4 h5 h6 (hidf ha) (hidf hb) (hidf hA) (hidf hB) (hidf HH) (hidf HL) (hidf HI) (hidf HM) q1 q2 (decide_eq_true n1) (decide_eq_true n2) (decide_eq_true o) (by rw [beqI]; exact beq_eq_false_iff_ne.2 (by omega)) (beq_eq_false_iff_ne.2 (by omega))
    · rw [if_neg (by omega), if_neg (by omega)]
      exact cmp_ell_true an bn ad bd a b h l i m w h1 h2 h3 h4 h5 h6 (hidf ha) (hidf hb) (hidf hA) (hidf hB) (hidf HH) (hidf HL) (hidf HI) (hidf HM) q1 q2 (decide_eq_true n1) (decide_eq_true n2) (decide_eq_false (by omega)) (by rw [beqI]; exact beq_iff_eq.2 (by omega)) (beq_iff_eq.2 (by omega)) (decide_eq_true o') (by rw [beqI]; exact beq_eq_false_iff_ne.2 (by omega)) (beq_eq_false_iff_ne.2 (by omega))
    · rw [if_pos (by omega)]
      exact cmp_eq_true an bn ad bd a b h l i m w h1 h2 h3 h4 h5 h6 (hidf ha) (hidf hb) (hidf hA) (hidf hB) (hidf HH) (hidf HL) (hidf HI) (hidf HM) q1 q2 (decide_eq_true n1) (decide_eq_true n2) (decide_eq_false (by omega)) (by rw [beqI]; exact beq_iff_eq.2 (by omega)) (beq_iff_eq.2 (by omega)) (decide_eq_false (by omega)) (by rw [beqI]; exact beq_iff_eq.2 (by omega)) (beq_iff_eq.2 (by omega))
    · rw [if_neg (by omega), if_pos (by omega)]
      exact cmp_egg_true an bn ad bd a b h l i m w h1 h2 h3 h4 h5 h6 (hidf ha) (hidf hb) (hidf hA) (hidf hB) (hidf HH) (hidf HL) (hidf HI) (hidf HM) q1 q2 (decide_eq_true n1) (decide_eq_true n2) (decide_eq_false (by omega)) (by rw [beqI]; exact beq_iff_eq.2 (by omega)) (beq_iff_eq.2 (by omega)) (decide_eq_false (by omega)) (by rw [beqI]; exact beq_eq_false_iff_ne.2 (by omega)) (beq_eq_false_iff_ne.2 (by omega))
    · rw [if_neg (by omega), if_pos (by omega)]
      exact cmp_gt_true an bn ad bd a b h l i m w h1 h2 h3 h4 h5 h6 (hidf ha) (hidf hb) (hidf hA) (hidf hB) (hidf HH) (hidf HL) (hidf HI) (hidf HM) q1 q2 (decide_eq_true n1) (decide_eq_true n2) (decide_eq_false (by omega)) (by rw [beqI]; exact beq_eq_false_iff_ne.2 (by omega)) (beq_eq_false_iff_ne.2 (by omega))
  · have e1 : an * bd < 0 := Int.mul_neg_of_neg_of_pos n1 (by omega)
    have e2 : 0 ≤ bn * ad := Int.mul_nonneg n2 (by omega)
    have ec : cmpC an ad bn bd = -1 := by unfold cmpC; rw [if_neg (by omega), if_pos (by omega)]
    rw [ec]
    exact cmp_nx an bn ad bd a b h l i m w h1 h2 h3 h4 h5 h6 (hidf ha) (hidf hb) (hidf hA) (hidf hB) (hidf HH) (hidf HL) (hidf HI) (hidf HM) q1 q2 (decide_eq_true n1) (decide_eq_false (by omega))
  · have e1 : 0 ≤ an * bd := Int.mul_nonneg n1 (by omega)
    have e2 : bn * ad < 0 := Int.mul_neg_of_neg_of_pos n2 (by omega)
    have ec : cmpC an ad bn bd = 1 := by unfold cmpC; rw [if_neg (by omega), if_neg (by omega)]
    rw [ec]
    exact cmp_xn an bn ad bd a b h l i m w h1 h2 h3 h4 h5 h6 (hidf ha) (hidf hb) (hidf hA) (hidf hB) (hidf HH) (hidf HL) (hidf HI) (hidf HM) q1 q2 (decide_eq_false (by omega)) (decide_eq_true n2)
  · have e1 : an * bd = (X : Int) := by rw [show an = (a : Int) by omega, hX, Int.natCast_mul]
    have e2 : bn * ad = (Y : Int) := by rw [show bn = (b : Int) by omega, hY, Int.natCast_mul]
    have ec : cmpC an ad bn bd = if X = Y then 0 else if X < Y then -1 else 1 := by
      unfold cmpC; rw [e1, e2]; split <;> split <;> (try split) <;> omega
    rw [ec]
    rcases (by omega : h < i ∨ (h = i ∧ l < m) ∨ (h = i ∧ l = m) ∨ (h = i ∧ m < l) ∨ i < h) with o | ⟨o, o'⟩ | ⟨o, o'⟩ | ⟨o, o'⟩ | o
    · rw [if_neg (by omega), if_pos (by omega)]
      exact cmp_lt_false an bn ad bd a b h l i m w h1 h2 h3 h4 h5 h6 (hidf ha) (hidf hb) (hidf hA) (hidf hB) (hidf HH) (hidf HL) (hidf HI) (hidf HM) q1 q2 (decide_eq_false (by omega)) (decide_eq_false (by omega)) (decide_eq_true o) (by rw [beqI]; exact beq_eq_false_iff_ne.2 (by omega)) (beq_eq_false_iff_ne.2 (by omega))
    · rw [if_neg (by omega), if_pos (by omega)]
      exact cmp_ell_false an bn ad bd a b h l i m w h1 h2 h3 h4 h5 h6 (hidf ha) (hidf hb) (hidf hA) (hidf hB) (hidf HH) (hidf HL) (hidf HI) (hidf HM) q1 q2 (decide_eq_false (by omega)) (decide_eq_false (by omega)) (decide_eq_false (by omega)) (by rw [beqI]; exact beq_iff_eq.2 (by omega)) (beq_iff_eq.2 (by omega)) (decide_eq_true o') (by rw [beqI]; exact beq_eq_false_iff_ne.2 (by omega)) (beq_eq_false_iff_ne.2 (by omega))
    · rw [if_pos (by omega)]
      exact cmp_eq_false an bn ad bd a b h l i m w h1 h2 h3 h4 h5 h6 (hidf ha) (hidf hb) (hidf hA) (hidf hB) (hidf HH) (hidf HL) (hidf HI) (hidf HM) q1 q2 (decide_eq_false (by omega)) (decide_eq_false (by omega)) (decide_eq_false (by omega)) (by rw [beqI]; exact beq_iff_eq.2 (by omega)) (beq_iff_eq.2 (by omega)) (decide_eq_false (by omega)) (by rw [beqI]; exact beq_iff_eq.2 (by omega)) (beq_iff_eq.2 (by omega))
    · rw [if_neg (by omega), if_neg (by omega)]
      exact cmp_egg_false an bn ad bd a b h l i m w h1 h2 h3 h4 h5 h6 (hidf ha) (hidf hb) (hidf hA) (hidf hB) (hidf HH) (hidf HL) (hidf HI) (hidf HM) q1 q2 (decide_eq_false (by omega)) (decide_eq_false (by omega)) (decide_eq_false (by omega)) (by rw [beqI]; exact beq_iff_eq.2 (by omega)) (beq_iff_eq.2 (by omega)) (decide_eq_false (by omega)) (by rw [beqI]; exact beq_eq_false_iff_ne.2 (by omega)) (beq_eq_false_iff_ne.2 (by omega))
    · rw [if_neg (by omega), if_neg (by omega)]
      exact cmp_gt_false an bn ad bd a b h l i m w h1 h2 h3 h4 h5 h6 (hidf ha) (hidf hb) (hidf hA) (hidf hB) (hidf HH) (hidf HL) (hidf HI) (hidf HM) q1 q2 (decide_eq_false (by omega)) (decide_eq_false (by omega)) (decide_eq_false (by omega)) (by rw [beqI]; exact beq_eq_false_iff_ne.2 (by omega)) (beq_eq_false_iff_ne.2 (by omega))
theorem cmp_val (an ad bn bd : Int) (w : World) (h1 : -9223372036854775808 ≤ an) (h2 : an < 9223372036854775808) (h3 : ad < 9223372036854775808) (h4 : -9223372036854775808 ≤ bn) (h5 : bn < 9223372036854775808) (h6 : bd < 9223372036854775808) :
    Calls Tryd.prog 83 #[.agg #[.int .i64 an, .int .i64 ad], .agg #[.int .i64 bn, .int .i64 bd]] w fun e w' => e = .returned (cmpV an ad bn bd) ∧ Below w.heap.size w w' := by
  unfold cmpV
  by_cases h : (rightB an ad && rightB bn bd) = true
  · rw [if_pos h]
    obtain ⟨ha, hb⟩ := Bool.and_eq_true_iff.1 h
    obtain ⟨p1, _⟩ := right_no ha
    obtain ⟨p3, _⟩ := right_no hb
    obtain ⟨x, rfl⟩ : ∃ x : Nat, ad = x := ⟨ad.toNat, by omega⟩
    obtain ⟨y, rfl⟩ : ∃ y : Nat, bd = y := ⟨bd.toNat, by omega⟩
    exact cmp_go an bn x y w h1 h2 (by omega) h4 h5 (by omega) ha hb
  · rw [if_neg h]
    exact cmp_wrong an ad bn bd w h1 h2 h3 h4 h5 h6 (by simpa using h)
def rndZ (n d : Int) : Int := if n < 0 then -(rndN n.natAbs d.toNat : Int) else (rndN n.natAbs d.toNat : Int)
def rndV (n d : Int) : Value := if rightB n d then .tuple #[.int .i64 (rndZ n d), .nilIface] else .tuple #[.int .i64 0, .iface 64 (.int .i64 1)]
theorem round_val (an ad : Int) (w : World) (h1 : -9223372036854775808 ≤ an) (h2 : an < 9223372036854775808) (h3 : ad < 9223372036854775808) :
    Calls Tryd.prog 42 #[.agg #[.int .i64 an, .int .i64 ad]] w fun e w' => e = .returned (rndV an ad) ∧ Below w.heap.size w w' := by
  unfold rndV
  by_cases h : rightB an ad = true
  · rw [if_pos h]
    obtain ⟨p1, _⟩ := right_no h
    obtain ⟨d, rfl⟩ : ∃ x : Nat, ad = x := ⟨ad.toNat, by omega⟩
    obtain ⟨n, hn⟩ : ∃ a, a = an.natAbs := ⟨_, rfl⟩
    obtain ⟨q, hq⟩ : ∃ q, q = n / d := ⟨_, rfl⟩
    obtain ⟨r, hr⟩ : ∃ r, r = n % d := ⟨_, rfl⟩
    have d0 : 0 < d := by omega
    have hrl : r < d := by rw [hr]; exact Nat.mod_lt _ d0
    have qn : n < 18446744073709551616 := by omega
    have wq := wquo (a := n) (g := d) (p := q) qn hq
    have wr := (wrem (a := n) (g := d) (p := r) qn d0 hr).2
    have hql : q ≤ n := by rw [hq]; exact Nat.div_le_self _ _
    have hj : d * q + r = n := by rw [hq, hr]; exact Nat.div_add_mod n d
    have q2 : r = 0 ∨ 2 * q ≤ n := by
      rcases (by omega : d = 1 ∨ 2 ≤ d) with e | e
      · subst e; left; omega
      · right; have := Nat.mul_le_mul_right q e; omega
    have er : rndZ an (d : Nat) = if an < 0 then -(rndN n d : Int) else (rndN n d : Int) := by unfold rndZ; rw [← hn, Int.toNat_natCast]
    rw [er]
    have eN : rndN n d = if 0 < r ∧ d - r ≤ r then q + 1 else q := by unfold rndN; rw [← hr, ← hq]
    rw [eN]
    rcases (by omega : an < 0 ∨ 0 ≤ an) with n1 | n1
    · rw [if_pos n1]
      rcases (by omega : r = 0 ∨ (0 < r ∧ d - r ≤ r) ∨ (0 < r ∧ r < d - r)) with o | ⟨o, o'⟩ | ⟨o, o'⟩
      · rw [if_neg (by omega)]
        exact round_nz an d n q r w h1 h2 (by omega) d0 (hidf h) (hidf hn) qn wq wr hrl (by omega) (decide_eq_true n1) o
      · rw [if_pos ⟨o, o'⟩]
        exact round_nu an d n q r w h1 h2 (by omega) d0 (hidf h) (hidf hn) qn wq wr hrl (by omega) (decide_eq_true n1) (decide_eq_true o) (decide_eq_true (by omega)) (decide_eq_true (by omega)) (by omega)
      · rw [if_neg (by omega)]
        exact round_nd an d n q r w h1 h2 (by omega) d0 (hidf h) (hidf hn) qn wq wr hrl (by omega) (decide_eq_true n1) (decide_eq_true o) (decide_eq_true (by omega)) (decide_eq_false (by omega))
    · rw [if_neg (by omega)]
      rcases (by omega : r = 0 ∨ (0 < r ∧ d - r ≤ r) ∨ (0 < r ∧ r < d - r)) with o | ⟨o, o'⟩ | ⟨o, o'⟩
      · rw [if_neg (by omega)]
        exact round_pz an d n q r w h1 h2 (by omega) d0 (hidf h) (hidf hn) qn wq wr hrl (by omega) (decide_eq_false (by omega)) o
      · rw [if_pos ⟨o, o'⟩]
        exact round_pu an d n q r w h1 h2 (by omega) d0 (hidf h) (hidf hn) qn wq wr hrl (by omega) (decide_eq_false (by omega)) (decide_eq_true o) (decide_eq_true (by omega)) (decide_eq_true (by omega)) (by omega)
      · rw [if_neg (by omega)]
        exact round_pd an d n q r w h1 h2 (by omega) d0 (hidf h) (hidf hn) qn wq wr hrl (by omega) (decide_eq_false (by omega)) (decide_eq_true o) (decide_eq_true (by omega)) (decide_eq_false (by omega))
  · rw [if_neg h]
    exact round_wrong an ad w h1 h2 h3 (hidf (by simpa using h))

end ratW
end Go.Proofs.YtllbpanfhlbbgaaDoor
