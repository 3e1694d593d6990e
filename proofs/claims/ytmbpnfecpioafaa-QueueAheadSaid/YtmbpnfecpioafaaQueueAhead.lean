/- Proves QueueAheadSaid: of any two frames queue.Ahead answers as the document's order does, and what is handed in stays. No condition. -/
import Derived.Test.YtmbpnfecpioafaaRows
import Derived.Test.YtmbpnfecpioafaaFrameArg
import Derived.Test.YtmbpnfecpioafaaOrder
namespace Go.Proofs.Ytmbpnfecpioafaa.queueAhead
open Go.RowKit Go.Bus Go.Bus.orderK Go.ChangeShapes Go.WideShapes Go.ChangeAt Go.Joins
set_option linter.unusedVariables false

theorem own : ownKnob Try.prog.godebug = none := by kernel_rfl
theorem laidOut : laidOutB Try.prog = true := by kernel_rfl

set_option maxRecDepth 100000 in
set_option maxHeartbeats 1000000 in
theorem walk (i j : Int) (a b : Bool) (u v : Value) (l m : List Int) (w : World) (hi : 0 ≤ i) (hi' : i < 4294967296) (hj : 0 ≤ j) (hj' : j < 4294967296)
    (hu : Sl w w.heap.size (Value.int .u8) u l) (hv : Sl w w.heap.size (Value.int .u8) v m) (hl : l.length ≤ 140737488351232) (hm : m.length ≤ 140737488351232) :
    Calls Try.prog 3 #[.agg #[.int .u32 i, .bool a, u], .agg #[.int .u32 j, .bool b, v]] w fun e w' => e = .returned (.bool true) ∧ Below w.heap.size w w' := by
  obtain ⟨A1, c1, rfl, _, _⟩ := hu.form
  obtain ⟨A2, c2, rfl, _, _⟩ := hv.form
  have HU := Lib.hid hu; clear hu
  have HV := Lib.hid hv; clear hv
  have hE : (decide (ord i a < ord j b) == rahead i a j b) = true := by rw [ord_eq i j a b hi hi' hj hj']; simp
  have HE := Lib.hid hE; clear hE
  go_enter Try.func3, Try.ntmps3
  go_wp2_with fail
  refine (frameA.lentframe_any _ _ _ l _ (HU.out.at_below (by repeat (first | exact Below.refl _ _ | assumption | refine Below.drew ?_ | refine below_drewN ?_ _ | (refine Below.alloc ?_ (by (try simp); (try omega)) _) | (refine Below.setCell ?_ (by (try simp); (try omega)) _)))) hl).mono ?_
  rintro e w1 ⟨x, rfl, hx, hb_w1⟩
  obtain ⟨g, c, rfl, hr⟩ := hx
  have HX : Hid (Lent w1 0 _ _ _ _ _) := ⟨g, c, rfl, hr.1, own_base hr.2 (Nat.zero_le _)⟩
  clear hr
  obtain ⟨hc_w1, hf_w1⟩ := bcell hb_w1; have hz_w1 := hb_w1.size; (try simp at hz_w1); have hB_w1 : Below w.heap.size w w1 := Below.trans (by repeat (first | exact Below.refl _ _ | assumption | refine Below.drew ?_ | refine below_drewN ?_ _ | (refine Below.alloc ?_ (by (try simp); (try omega)) _) | (refine Below.setCell ?_ (by (try simp); (try omega)) _))) (hb_w1.mono (by (try simp); (try omega))); have z_w1_0 : w.heap.size < w1.heap.size := (by omega); have z_w1_1 : w.heap.size + 1 < w1.heap.size := (by omega)
  go_wp2_with fail
  refine (frameA.lentframe_any _ _ _ m _ (HV.out.at_below (by repeat (first | exact Below.refl _ _ | assumption | refine Below.drew ?_ | refine below_drewN ?_ _ | (refine Below.alloc ?_ (by (try simp); (try omega)) _) | (refine Below.setCell ?_ (by (try simp); (try omega)) _)))) hm).mono ?_
  rintro e w2 ⟨x, rfl, hx, hb_w2⟩
  obtain ⟨g', c', rfl, hr⟩ := hx
  have HY : Hid (Lent w2 0 _ _ _ _ _) := ⟨g', c', rfl, hr.1, own_base hr.2 (Nat.zero_le _)⟩
  clear hr
  have HX2 : Hid (Lent w2 0 _ _ _ _ _) := (HX.out.below (w' := w2) (Below.trans (b := _) (by repeat (first | exact Below.refl _ _ | assumption | refine Below.drew ?_ | refine below_drewN ?_ _ | (refine Below.alloc ?_ (by (try simp); (try omega)) _) | (refine Below.setCell ?_ (by (try simp); (try omega)) _))) (hb_w2.mono (by (try simp); (try omega)))))
  obtain ⟨hc_w2, hf_w2⟩ := bcell hb_w2; have hz_w2 := hb_w2.size; (try simp at hz_w2); have hB_w2 : Below w.heap.size w w2 := Below.trans (by repeat (first | exact Below.refl _ _ | assumption | refine Below.drew ?_ | refine below_drewN ?_ _ | (refine Below.alloc ?_ (by (try simp); (try omega)) _) | (refine Below.setCell ?_ (by (try simp); (try omega)) _))) (hb_w2.mono (by (try simp); (try omega))); have z_w2_0 : w.heap.size < w2.heap.size := (by omega); have z_w2_1 : w.heap.size + 1 < w2.heap.size := (by omega); have z_w2_2 : w1.heap.size < w2.heap.size := (by omega)
  go_wp2_with fail
  refine (orderK.ahead_any _ _ _ _ _ _ _).mono ?_
  rintro e w3 ⟨rfl, hb_w3⟩
  obtain ⟨hc_w3, hf_w3⟩ := bcell hb_w3; have hz_w3 := hb_w3.size; (try simp at hz_w3); have hB_w3 : Below w.heap.size w w3 := Below.trans (by repeat (first | exact Below.refl _ _ | assumption | refine Below.drew ?_ | refine below_drewN ?_ _ | (refine Below.alloc ?_ (by (try simp); (try omega)) _) | (refine Below.setCell ?_ (by (try simp); (try omega)) _))) (hb_w3.mono (by (try simp); (try omega))); have z_w3_0 : w.heap.size < w3.heap.size := (by omega); have z_w3_1 : w.heap.size + 1 < w3.heap.size := (by omega); have z_w3_2 : w1.heap.size < w3.heap.size := (by omega); have z_w3_3 : w2.heap.size < w3.heap.size := (by omega)
  go_wp2_with fail
  refine (orderK.refahead_any _ _ _ _ _ _ _ (by assumption) (by assumption)).mono ?_
  rintro e w4 ⟨rfl, hb_w4⟩
  obtain ⟨hc_w4, hf_w4⟩ := bcell hb_w4; have hz_w4 := hb_w4.size; (try simp at hz_w4); have hB_w4 : Below w.heap.size w w4 := Below.trans (by repeat (first | exact Below.refl _ _ | assumption | refine Below.drew ?_ | refine below_drewN ?_ _ | (refine Below.alloc ?_ (by (try simp); (try omega)) _) | (refine Below.setCell ?_ (by (try simp); (try omega)) _))) (hb_w4.mono (by (try simp); (try omega))); have z_w4_0 : w.heap.size < w4.heap.size := (by omega); have z_w4_1 : w.heap.size + 1 < w4.heap.size := (by omega); have z_w4_2 : w1.heap.size < w4.heap.size := (by omega); have z_w4_3 : w2.heap.size < w4.heap.size := (by omega)
  have hE := HE.out
  have HX4 : Hid (Lent w4 0 _ _ _ _ _) := (HX2.out.below (w' := w4) (Below.trans (Below.trans (b := _) (by repeat (first | exact Below.refl _ _ | assumption | refine Below.drew ?_ | refine below_drewN ?_ _ | (refine Below.alloc ?_ (by (try simp); (try omega)) _) | (refine Below.setCell ?_ (by (try simp); (try omega)) _))) (hb_w3.mono (by (try simp); (try omega)))) (hb_w4.mono (by omega))))
  have HY4 : Hid (Lent w4 0 _ _ _ _ _) := (HY.out.below (w' := w4) (Below.trans (Below.trans (b := _) (by repeat (first | exact Below.refl _ _ | assumption | refine Below.drew ?_ | refine below_drewN ?_ _ | (refine Below.alloc ?_ (by (try simp); (try omega)) _) | (refine Below.setCell ?_ (by (try simp); (try omega)) _))) (hb_w3.mono (by (try simp); (try omega)))) (hb_w4.mono (by omega))))
  have HU4 : Hid (Sl w4 w4.heap.size (Value.int .u8) (Value.slice A1 l.length c1) l) := (HU.out.at_below hB_w4)
  have HV4 : Hid (Sl w4 w4.heap.size (Value.int .u8) (Value.slice A2 m.length c2) m) := (HV.out.at_below hB_w4)
  go_wp2_with fail
  refine (frameA.keptframe_yes _ _ _ _ _ _ _ HX4.out HU4.out hl).mono ?_
  rintro e w5 ⟨rfl, hb_w5⟩
  obtain ⟨hc_w5, hf_w5⟩ := bcell hb_w5; have hz_w5 := hb_w5.size; (try simp at hz_w5); have hB_w5 : Below w.heap.size w w5 := Below.trans (by repeat (first | exact Below.refl _ _ | assumption | refine Below.drew ?_ | refine below_drewN ?_ _ | (refine Below.alloc ?_ (by (try simp); (try omega)) _) | (refine Below.setCell ?_ (by (try simp); (try omega)) _))) (hb_w5.mono (by (try simp); (try omega))); have z_w5_0 : w.heap.size < w5.heap.size := (by omega); have z_w5_1 : w.heap.size + 1 < w5.heap.size := (by omega); have z_w5_2 : w1.heap.size < w5.heap.size := (by omega); have z_w5_3 : w2.heap.size < w5.heap.size := (by omega)
  have HY5 : Hid (Lent w5 0 _ _ _ _ _) := (HY4.out.below hb_w5)
  have HV5 : Hid (Sl w5 w5.heap.size (Value.int .u8) (Value.slice A2 m.length c2) m) := (HV.out.at_below hB_w5)
  go_wp2_with fail
  refine (frameA.keptframe_yes _ _ _ _ _ _ _ HY5.out HV5.out hm).mono ?_
  rintro e w6 ⟨rfl, hb_w6⟩
  obtain ⟨hc_w6, hf_w6⟩ := bcell hb_w6; have hz_w6 := hb_w6.size; (try simp at hz_w6); have hB_w6 : Below w.heap.size w w6 := Below.trans (by repeat (first | exact Below.refl _ _ | assumption | refine Below.drew ?_ | refine below_drewN ?_ _ | (refine Below.alloc ?_ (by (try simp); (try omega)) _) | (refine Below.setCell ?_ (by (try simp); (try omega)) _))) (hb_w6.mono (by (try simp); (try omega))); have z_w6_0 : w.heap.size < w6.heap.size := (by omega)
  go_wp2
  go_ret
  exact ⟨rfl, hB_w6⟩

/-! The row's step. -/
set_option maxRecDepth 100000 in
theorem lifted (os : Os) (started : os.Started) (H : Type) (enc : TypeId × Value → H) :
    ReturnsInHanded {} Try.checked os 3 .any (Rows.queueAheadSpec.pre6 enc Try.prog Try.f3 Rows.queueAheadRow.domain false) (Rows.queueAheadSpec.post enc Try.prog Try.f3 false true false false) := by
  refine returnsInHanded_of_change_sized (C := Try.checked) own started (by kernel_rfl) Try.func3
    (ChangeSpec.witness6 (enc := enc) (C := Try.checked) false ⟨#[], #[.agg #[.int .u32 0, .bool false, .slice none 0 0], .agg #[.int .u32 0, .bool false, .slice none 0 0]], []⟩ 8 (by kernel_rfl) (by kernel_rfl) (by kernel_rfl) (by kernel_rfl)) ?_
  intro W base args ds gs before hval0 hW hcnd hsz0 _
  have hval : ∀ (j : Nat) t v, Try.f3.params[j]? = some t → args[j]? = some v → Value.okWide Try.prog W .any base t v := hval0
  have hsz : (DataW.weightsEach Try.prog (Try.f3.params.toList ++ Rows.queueAheadSpec.plain.varTypes Try.prog) (ds ++ gs)).all (· ≤ reachBytes) = true := hsz0
  have hW' := hW
  obtain ⟨p, q, hA0, hV, rfl, hfz, hnd⟩ := hW
  have hA : DataW.TrodAll enc Try.prog W 0 (fun _ => true) true Try.f3.params.toList args.toList ds p := hA0
  rw [Try.params3] at hA hval hsz
  obtain ⟨v0, vs0, d0, ds0, p0, q0, hargs, rfl, rfl, h0, r0⟩ := trodAll_cons hA
  obtain ⟨v1, vs1, d1, ds1, p1, q1, rfl, rfl, rfl, h1, r1⟩ := trodAll_cons r0
  obtain ⟨rfl, rfl, rfl⟩ := trodAll_nil r1
  obtain rfl : args = #[v0, v1] := by cases args; simp_all
  obtain ⟨rfl, rfl⟩ := trodVars_none hV
  have lt0 : ∀ x ∈ p0, x.block < W.heap.size := by obtain ⟨m, hm⟩ := h0; exact DataW.trod_lt m _ _ _ hm
  have lt1 : ∀ x ∈ p1, x.block < W.heap.size := by obtain ⟨m, hm⟩ := h1; exact DataW.trod_lt m _ _ _ hm
  have wt0 : ∀ m ∈ d0.weights Try.prog 25, m ≤ reachBytes := fun m hm => by
    simpa using List.all_eq_true.1 hsz m (DataW.weights_mem_each (j := 0) rfl rfl m hm)
  have wt1 : ∀ m ∈ d1.weights Try.prog 25, m ≤ reachBytes := fun m hm => by
    simpa using List.all_eq_true.1 hsz m (DataW.weights_mem_each (j := 1) rfl rfl m hm)
  have k0 := h0
  have k1 := h1
  obtain ⟨i, a, u, l, rfl, a1, a2, a3, _, a4⟩ := frameA.open_frame (hval 0 25 v0 rfl rfl) h0 wt0
  obtain ⟨j, b, v, m, rfl, b1, b2, b3, _, b4⟩ := frameA.open_frame (hval 1 25 v1 rfl rfl) h1 wt1
  clear hA0 hval0 hsz0
  refine (walk i j a b u v l m W a1 a2 b1 b2 a3 b3 a4 b4).mono fun e W' ⟨he, bel⟩ => ?_
  subst he
  exact ⟨_, rfl, _, _, _, [], _, [], hW', trodAll_mk1 (shut_bool Try.underlying4 _), (trodAll_cons_mk (Below.trod laidOut (by kernel_rfl) (of_decide_eq_true (by kernel_rfl)) k0 bel lt0) (trodAll_cons_mk (Below.trod laidOut (by kernel_rfl) (of_decide_eq_true (by kernel_rfl)) k1 bel lt1) trodAll_mk0)), rfl, bel.frame _, fun h => by cases h⟩

theorem over : Rows.queueAheadRow.holds Try.pinned (OpenSpec.ofChange Rows.queueAheadSpec) :=
  OpenClaim.holds_of_wide 3 Try.f3 rfl rfl rfl rfl rfl rfl rfl ⟨rfl, rfl, rfl, rfl, rfl⟩ rfl rfl rfl rfl rfl (by kernel_rfl) Try.func3 (by kernel_rfl)
    (of_decide_eq_true (by kernel_rfl)) (by unfold Func.isWrapper; first | (rw [if_pos (by decide +kernel)]; kernel_rfl) | (rw [if_neg (by decide +kernel)]; exact ⟨rfl, rfl⟩))
    (fun os started H enc _ => lifted os started H enc)

theorem proved : Rows.QueueAheadSaid := over
#print axioms proved
end Go.Proofs.Ytmbpnfecpioafaa.queueAhead
