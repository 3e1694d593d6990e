/- Proves QueueOrderSaid: Ahead is an order of any three frames. No condition. -/
import Derived.Test.YtmbpnfecpioafaaRows
import Derived.Test.YtmbpnfecpioafaaFrameArg
import Derived.Test.YtmbpnfecpioafaaOrder
namespace Go.Proofs.Ytmbpnfecpioafaa.queueOrder
open Go.RowKit Go.Bus Go.Bus.orderK Go.ChangeShapes Go.WideShapes Go.ChangeAt Go.Joins
set_option linter.unusedVariables false

set_option maxRecDepth 100000 in
set_option maxHeartbeats 1000000 in
theorem works_yes (w : World) : Calls Try.prog 19 #[] w fun e w' => e = .returned (.bool true) ∧ Below w.heap.size w w' := by
  have h0 : ord 1 false < ord 2 false := by decide +kernel
  go_enter Try.func19, Try.ntmps19
  go_wp2_with fail
  refine (orderK.ahead_any _ _ _ _ _ _ _).mono ?_
  rintro e w1 ⟨rfl, hb_w1⟩
  obtain ⟨hc_w1, hf_w1⟩ := bcell hb_w1; have hz_w1 := hb_w1.size; (try simp at hz_w1); have hB_w1 : Below w.heap.size w w1 := Below.trans (by repeat (first | exact Below.refl _ _ | assumption | refine Below.drew ?_ | refine below_drewN ?_ _ | (refine Below.alloc ?_ (by (try simp); (try omega)) _) | (refine Below.setCell ?_ (by (try simp); (try omega)) _))) (hb_w1.mono (by (try simp); (try omega)))
  go_wp2
  go_ret
  exact ⟨rfl, hB_w1⟩

set_option maxRecDepth 100000 in
set_option maxHeartbeats 1000000 in
theorem walk (i j k : Int) (a b c : Bool) (u v x : Value) (w : World) (hu : ∃ A n m, u = .slice A n m) (hv : ∃ A n m, v = .slice A n m) (hx : ∃ A n m, x = .slice A n m) :
    Calls Try.prog 4 #[.agg #[.int .u32 i, .bool a, u], .agg #[.int .u32 j, .bool b, v], .agg #[.int .u32 k, .bool c, x]] w fun e w' => e = .returned (.bool true) ∧ Below w.heap.size w w' := by
  obtain ⟨A1, n1, m1, rfl⟩ := hu
  obtain ⟨A2, n2, m2, rfl⟩ := hv
  obtain ⟨A3, n3, m3, rfl⟩ := hx
  go_enter Try.func4, Try.ntmps4
  go_wp2_with fail
  refine (works_yes _).mono ?_
  rintro e w1 ⟨rfl, hb_w1⟩
  obtain ⟨hc_w1, hf_w1⟩ := bcell hb_w1; have hz_w1 := hb_w1.size; (try simp at hz_w1); have hB_w1 : Below w.heap.size w w1 := Below.trans (by repeat (first | exact Below.refl _ _ | assumption | refine Below.drew ?_ | refine below_drewN ?_ _ | (refine Below.alloc ?_ (by (try simp); (try omega)) _) | (refine Below.setCell ?_ (by (try simp); (try omega)) _))) (hb_w1.mono (by (try simp); (try omega))); have z_w1_0 : w.heap.size < w1.heap.size := (by omega); have z_w1_1 : w.heap.size + 1 < w1.heap.size := (by omega); have z_w1_2 : w.heap.size + 2 < w1.heap.size := (by omega)
  go_wp2_with fail
  refine (orderK.ahead_any _ _ _ _ _ _ _).mono ?_
  rintro e w2 ⟨rfl, hb_w2⟩
  have hz_w2 := hb_w2.size; (try simp at hz_w2); have hK_w2 : Below w1.heap.size w1 w2 := Below.trans (b := _) (by repeat (first | exact Below.refl _ _ | assumption | refine Below.drew ?_ | refine below_drewN ?_ _ | (refine Below.alloc ?_ (by (try simp); (try omega)) _) | (refine Below.setCell ?_ (by (try simp); (try omega)) _))) (hb_w2.mono (by (try simp); (try omega))); have hB_w2 : Below w.heap.size w w2 := Below.trans hB_w1 (hK_w2.mono (by omega)); have hzK_w2 := hK_w2.size; obtain ⟨hc_w2, hf_w2⟩ := bcell hK_w2; have z_w2_0 : w.heap.size < w2.heap.size := (by omega); have z_w2_1 : w.heap.size + 1 < w2.heap.size := (by omega); have z_w2_2 : w.heap.size + 2 < w2.heap.size := (by omega)
  go_wp2_with fail
  refine (orderK.ahead_any _ _ _ _ _ _ _).mono ?_
  rintro e w3 ⟨rfl, hb_w3⟩
  have hz_w3 := hb_w3.size; (try simp at hz_w3); have hK_w3 : Below w1.heap.size w1 w3 := Below.trans (b := _) (by repeat (first | exact Below.refl _ _ | assumption | refine Below.drew ?_ | refine below_drewN ?_ _ | (refine Below.alloc ?_ (by (try simp); (try omega)) _) | (refine Below.setCell ?_ (by (try simp); (try omega)) _))) (hb_w3.mono (by (try simp); (try omega))); have hB_w3 : Below w.heap.size w w3 := Below.trans hB_w1 (hK_w3.mono (by omega)); have hzK_w3 := hK_w3.size; obtain ⟨hc_w3, hf_w3⟩ := bcell hK_w3; have z_w3_0 : w.heap.size < w3.heap.size := (by omega); have z_w3_1 : w.heap.size + 1 < w3.heap.size := (by omega); have z_w3_2 : w.heap.size + 2 < w3.heap.size := (by omega); clear hb_w2 hz_w2 hK_w2 hzK_w2 hc_w2 hf_w2 hB_w2 z_w2_0 z_w2_1 z_w2_2
  go_wp2_with fail
  refine (orderK.ahead_any _ _ _ _ _ _ _).mono ?_
  rintro e w4 ⟨rfl, hb_w4⟩
  have hz_w4 := hb_w4.size; (try simp at hz_w4); have hK_w4 : Below w1.heap.size w1 w4 := Below.trans (b := _) (by repeat (first | exact Below.refl _ _ | assumption | refine Below.drew ?_ | refine below_drewN ?_ _ | (refine Below.alloc ?_ (by (try simp); (try omega)) _) | (refine Below.setCell ?_ (by (try simp); (try omega)) _))) (hb_w4.mono (by (try simp); (try omega))); have hB_w4 : Below w.heap.size w w4 := Below.trans hB_w1 (hK_w4.mono (by omega)); have hzK_w4 := hK_w4.size; obtain ⟨hc_w4, hf_w4⟩ := bcell hK_w4; have z_w4_0 : w.heap.size < w4.heap.size := (by omega); have z_w4_1 : w.heap.size + 1 < w4.heap.size := (by omega); have z_w4_2 : w.heap.size + 2 < w4.heap.size := (by omega); clear hb_w3 hz_w3 hK_w3 hzK_w3 hc_w3 hf_w3 hB_w3 z_w3_0 z_w3_1 z_w3_2
  go_wp2_with fail
  refine (orderK.ahead_any _ _ _ _ _ _ _).mono ?_
  rintro e w5 ⟨rfl, hb_w5⟩
  have hz_w5 := hb_w5.size; (try simp at hz_w5); have hK_w5 : Below w1.heap.size w1 w5 := Below.trans (b := _) (by repeat (first | exact Below.refl _ _ | assumption | refine Below.drew ?_ | refine below_drewN ?_ _ | (refine Below.alloc ?_ (by (try simp); (try omega)) _) | (refine Below.setCell ?_ (by (try simp); (try omega)) _))) (hb_w5.mono (by (try simp); (try omega))); have hB_w5 : Below w.heap.size w w5 := Below.trans hB_w1 (hK_w5.mono (by omega)); have hzK_w5 := hK_w5.size; obtain ⟨hc_w5, hf_w5⟩ := bcell hK_w5; have z_w5_0 : w.heap.size < w5.heap.size := (by omega); have z_w5_1 : w.heap.size + 1 < w5.heap.size := (by omega); have z_w5_2 : w.heap.size + 2 < w5.heap.size := (by omega); clear hb_w4 hz_w4 hK_w4 hzK_w4 hc_w4 hf_w4 hB_w4 z_w4_0 z_w4_1 z_w4_2
  go_wp2_with fail
  refine (orderK.ahead_any _ _ _ _ _ _ _).mono ?_
  rintro e w6 ⟨rfl, hb_w6⟩
  have hz_w6 := hb_w6.size; (try simp at hz_w6); have hK_w6 : Below w1.heap.size w1 w6 := Below.trans (b := _) (by repeat (first | exact Below.refl _ _ | assumption | refine Below.drew ?_ | refine below_drewN ?_ _ | (refine Below.alloc ?_ (by (try simp); (try omega)) _) | (refine Below.setCell ?_ (by (try simp); (try omega)) _))) (hb_w6.mono (by (try simp); (try omega))); have hB_w6 : Below w.heap.size w w6 := Below.trans hB_w1 (hK_w6.mono (by omega)); have hzK_w6 := hK_w6.size; obtain ⟨hc_w6, hf_w6⟩ := bcell hK_w6; have z_w6_0 : w.heap.size < w6.heap.size := (by omega); have z_w6_1 : w.heap.size + 1 < w6.heap.size := (by omega); have z_w6_2 : w.heap.size + 2 < w6.heap.size := (by omega); clear hb_w5 hz_w5 hK_w5 hzK_w5 hc_w5 hf_w5 hB_w5 z_w5_0 z_w5_1 z_w5_2
  go_wp2_with fail
  refine (orderK.ahead_any _ _ _ _ _ _ _).mono ?_
  rintro e w7 ⟨rfl, hb_w7⟩
  have hz_w7 := hb_w7.size; (try simp at hz_w7); have hK_w7 : Below w1.heap.size w1 w7 := Below.trans (b := _) (by repeat (first | exact Below.refl _ _ | assumption | refine Below.drew ?_ | refine below_drewN ?_ _ | (refine Below.alloc ?_ (by (try simp); (try omega)) _) | (refine Below.setCell ?_ (by (try simp); (try omega)) _))) (hb_w7.mono (by (try simp); (try omega))); have hB_w7 : Below w.heap.size w w7 := Below.trans hB_w1 (hK_w7.mono (by omega)); have hzK_w7 := hK_w7.size; obtain ⟨hc_w7, hf_w7⟩ := bcell hK_w7; have z_w7_0 : w.heap.size < w7.heap.size := (by omega); have z_w7_1 : w.heap.size + 1 < w7.heap.size := (by omega); have z_w7_2 : w.heap.size + 2 < w7.heap.size := (by omega); clear hb_w6 hz_w6 hK_w6 hzK_w6 hc_w6 hf_w6 hB_w6 z_w6_0 z_w6_1 z_w6_2
  go_wp2_with fail
  refine (orderK.ahead_any _ _ _ _ _ _ _).mono ?_
  rintro e w8 ⟨rfl, hb_w8⟩
  have hz_w8 := hb_w8.size; (try simp at hz_w8); have hK_w8 : Below w1.heap.size w1 w8 := Below.trans (b := _) (by repeat (first | exact Below.refl _ _ | assumption | refine Below.drew ?_ | refine below_drewN ?_ _ | (refine Below.alloc ?_ (by (try simp); (try omega)) _) | (refine Below.setCell ?_ (by (try simp); (try omega)) _))) (hb_w8.mono (by (try simp); (try omega))); have hB_w8 : Below w.heap.size w w8 := Below.trans hB_w1 (hK_w8.mono (by omega)); have hzK_w8 := hK_w8.size; obtain ⟨hc_w8, hf_w8⟩ := bcell hK_w8; have z_w8_0 : w.heap.size < w8.heap.size := (by omega); have z_w8_1 : w.heap.size + 1 < w8.heap.size := (by omega); have z_w8_2 : w.heap.size + 2 < w8.heap.size := (by omega); clear hb_w7 hz_w7 hK_w7 hzK_w7 hc_w7 hf_w7 hB_w7 z_w7_0 z_w7_1 z_w7_2
  generalize ord i a = X
  generalize ord j b = Y
  generalize ord k c = Z
  generalize q1 : decide (X < Y) = b1
  generalize q2 : decide (Y < X) = b2
  generalize q3 : decide (Y < Z) = b3
  generalize q4 : decide (Z < Y) = b4
  generalize q5 : decide (X < Z) = b5
  generalize q6 : decide (Z < X) = b6
  rw [show decide (X < X) = false from by simp]
  cases b1 <;> cases b2 <;> cases b3 <;> cases b4 <;> cases b5 <;> cases b6 <;> first | (exfalso; simp only [decide_eq_true_eq, decide_eq_false_iff_not] at q1 q2 q3 q4 q5 q6; omega) | skip
  all_goals
    clear q1 q2 q3 q4 q5 q6
    go_wp2
    go_ret
    exact ⟨rfl, hB_w8⟩

/-! The row's step. -/
theorem own : ownKnob Try.prog.godebug = none := by kernel_rfl
theorem laidOut : laidOutB Try.prog = true := by kernel_rfl

set_option maxRecDepth 100000 in
theorem lifted (os : Os) (started : os.Started) (H : Type) (enc : TypeId × Value → H) :
    ReturnsInHanded {} Try.checked os 4 .any (Rows.queueOrderSpec.pre6 enc Try.prog Try.f4 Rows.queueOrderRow.domain false) (Rows.queueOrderSpec.post enc Try.prog Try.f4 false true false false) := by
  refine returnsInHanded_of_change_sized (C := Try.checked) own started (by kernel_rfl) Try.func4
    (ChangeSpec.witness6 (enc := enc) (C := Try.checked) false ⟨#[], #[.agg #[.int .u32 0, .bool false, .slice none 0 0], .agg #[.int .u32 0, .bool false, .slice none 0 0], .agg #[.int .u32 0, .bool false, .slice none 0 0]], []⟩ 8 (by kernel_rfl) (by kernel_rfl) (by kernel_rfl) (by kernel_rfl)) ?_
  intro W base args ds gs before hval0 hW hcnd hsz0 _
  have hval : ∀ (j : Nat) t v, Try.f4.params[j]? = some t → args[j]? = some v → Value.okWide Try.prog W .any base t v := hval0
  have hsz : (DataW.weightsEach Try.prog (Try.f4.params.toList ++ Rows.queueOrderSpec.plain.varTypes Try.prog) (ds ++ gs)).all (· ≤ reachBytes) = true := hsz0
  have hW' := hW
  obtain ⟨p, q, hA0, hV, rfl, hfz, hnd⟩ := hW
  have hA : DataW.TrodAll enc Try.prog W 0 (fun _ => true) true Try.f4.params.toList args.toList ds p := hA0
  rw [Try.params4] at hA hval hsz
  obtain ⟨v0, vs0, d0, ds0, p0, q0, hargs, rfl, rfl, h0, r0⟩ := trodAll_cons hA
  obtain ⟨v1, vs1, d1, ds1, p1, q1, rfl, rfl, rfl, h1, r1⟩ := trodAll_cons r0
  obtain ⟨v2, vs2, d2, ds2, p2, q2, rfl, rfl, rfl, h2, r2⟩ := trodAll_cons r1
  obtain ⟨rfl, rfl, rfl⟩ := trodAll_nil r2
  obtain rfl : args = #[v0, v1, v2] := by cases args; simp_all
  obtain ⟨rfl, rfl⟩ := trodVars_none hV
  have k0 := h0
  have lt0 : ∀ x ∈ p0, x.block < W.heap.size := by obtain ⟨m, hm⟩ := h0; exact DataW.trod_lt m _ _ _ hm
  have wt0 : ∀ m ∈ d0.weights Try.prog 25, m ≤ reachBytes := fun m hm => by
    simpa using List.all_eq_true.1 hsz m (DataW.weights_mem_each (j := 0) rfl rfl m hm)
  have k1 := h1
  have lt1 : ∀ x ∈ p1, x.block < W.heap.size := by obtain ⟨m, hm⟩ := h1; exact DataW.trod_lt m _ _ _ hm
  have wt1 : ∀ m ∈ d1.weights Try.prog 25, m ≤ reachBytes := fun m hm => by
    simpa using List.all_eq_true.1 hsz m (DataW.weights_mem_each (j := 1) rfl rfl m hm)
  have k2 := h2
  have lt2 : ∀ x ∈ p2, x.block < W.heap.size := by obtain ⟨m, hm⟩ := h2; exact DataW.trod_lt m _ _ _ hm
  have wt2 : ∀ m ∈ d2.weights Try.prog 25, m ≤ reachBytes := fun m hm => by
    simpa using List.all_eq_true.1 hsz m (DataW.weights_mem_each (j := 2) rfl rfl m hm)
  obtain ⟨id0, wd0, sv0, l0, rfl, fa0, fb0, fc0, fd0, fe0⟩ := frameA.open_frame (hval 0 25 v0 rfl rfl) h0 wt0
  obtain ⟨id1, wd1, sv1, l1, rfl, fa1, fb1, fc1, fd1, fe1⟩ := frameA.open_frame (hval 1 25 v1 rfl rfl) h1 wt1
  obtain ⟨id2, wd2, sv2, l2, rfl, fa2, fb2, fc2, fd2, fe2⟩ := frameA.open_frame (hval 2 25 v2 rfl rfl) h2 wt2
  clear hA0 hval0 hsz0
  refine (walk id0 id1 id2 wd0 wd1 wd2 sv0 sv1 sv2 W ((fc0.form).elim fun A h => h.elim fun m h => ⟨A, _, m, h.1⟩) ((fc1.form).elim fun A h => h.elim fun m h => ⟨A, _, m, h.1⟩) ((fc2.form).elim fun A h => h.elim fun m h => ⟨A, _, m, h.1⟩)).mono fun e W' ⟨he, bel⟩ => ?_
  subst he
  exact ⟨_, rfl, _, _, _, [], _, [], hW', trodAll_mk1 (shut_bool Try.underlying4 _), (trodAll_cons_mk (Below.trod laidOut (by kernel_rfl) (of_decide_eq_true (by kernel_rfl)) k0 bel lt0) (trodAll_cons_mk (Below.trod laidOut (by kernel_rfl) (of_decide_eq_true (by kernel_rfl)) k1 bel lt1) (trodAll_cons_mk (Below.trod laidOut (by kernel_rfl) (of_decide_eq_true (by kernel_rfl)) k2 bel lt2) trodAll_mk0))), rfl, bel.frame _, fun h => by cases h⟩

theorem over : Rows.queueOrderRow.holds Try.pinned (OpenSpec.ofChange Rows.queueOrderSpec) :=
  OpenClaim.holds_of_wide 4 Try.f4 rfl rfl rfl rfl rfl rfl rfl ⟨rfl, rfl, rfl, rfl, rfl⟩ rfl rfl rfl rfl rfl (by kernel_rfl) Try.func4 (by kernel_rfl)
    (of_decide_eq_true (by kernel_rfl)) (by unfold Func.isWrapper; first | (rw [if_pos (by decide +kernel)]; kernel_rfl) | (rw [if_neg (by decide +kernel)]; exact ⟨rfl, rfl⟩))
    (fun os started H enc _ => lifted os started H enc)

theorem proved : Rows.QueueOrderSaid := over
#print axioms proved
end Go.Proofs.Ytmbpnfecpioafaa.queueOrder
