/- Walks of phys.right, below, in, has. No condition. -/
import Derived.Test.YtllbpanfhlbbgaaDoorPhysLaw
import Derived.Test.YtllbpanfhlbbgaaDoorRawFit
namespace Go.Proofs.YtllbpanfhlbbgaaDoor
open Go.RowKit Go.Bus Go.Rt Go.Bus.dbK Go.Bus.rawK
set_option linter.unusedVariables false
namespace physW
open ratW
def ercV (k : Int) : Value := if k = 0 then .nilIface else .iface 64 (.int .i64 k)
def sigV (s : Sig) (v : Value) : Value := .agg #[.int .i64 s.line, .int .i64 s.col, .string s.name, .int .i64 s.role, .int .u64 s.branch, .int .i64 s.start, .int .i64 s.size, .bool s.mot, .bool s.sgn, .int .i64 s.sn, .int .i64 s.sd, .int .i64 s.on, .int .i64 s.od, .int .i64 s.mn, .int .i64 s.md, .int .i64 s.xn, .int .i64 s.xd, .string s.unit, v]
/- the four fractions' first faulty one -/
def rgt (s : Sig) : Nat → Bool
  | 0 => rightB s.sn s.sd
  | 1 => rightB s.on s.od
  | 2 => rightB s.mn s.md
  | _ => rightB s.xn s.xd
theorem sgR_of {s : Sig} (h : ∀ j < 4, rgt s j = true) : sgR s = true := by
  have h0 : rightB s.sn s.sd = true := h 0 (by omega)
  have h1 : rightB s.on s.od = true := h 1 (by omega)
  have h2 : rightB s.mn s.md = true := h 2 (by omega)
  have h3 : rightB s.xn s.xd = true := h 3 (by omega)
  unfold sgR; simp only [h0, h1, h2, h3, Bool.and_self]
theorem sgR_not {s : Sig} {j : Nat} (hj : j < 4) (h : rgt s j = false) : sgR s = false := by
  unfold sgR
  rcases (by omega : j = 0 ∨ j = 1 ∨ j = 2 ∨ j = 3) with rfl | rfl | rfl | rfl
  all_goals
    first
    | (have e : rightB s.sn s.sd = false := h; rw [e]; simp; done)
    | (have e : rightB s.on s.od = false := h; rw [e]; simp; done)
    | (have e : rightB s.mn s.md = false := h; rw [e]; simp; done)
    | (have e : rightB s.xn s.xd = false := h; rw [e]; simp; done)
theorem er1 {s : Sig} (h : sgR s = false) : Ending.returned (.iface 64 (.int .i64 1)) = Ending.returned (ercV (rgE s)) := by
  have : rgE s = 1 := by unfold rgE; rw [h]; rfl
  rw [this]; rfl
theorem er10 {s : Sig} (h : sgR s = true) (h0 : s.sn = 0) : Ending.returned (.iface 64 (.int .i64 10)) = Ending.returned (ercV (rgE s)) := by
  have : rgE s = 10 := by unfold rgE; rw [h, if_pos rfl, if_pos h0]
  rw [this]; rfl
theorem er0 {s : Sig} (h : sgR s = true) (h0 : s.sn ≠ 0) : Ending.returned .nilIface = Ending.returned (ercV (rgE s)) := by
  have : rgE s = 0 := by unfold rgE; rw [h, if_pos rfl, if_neg h0]
  rw [this]; rfl
theorem rgt_next {s : Sig} {k : Nat} (h : ∀ j < k, rgt s j = true) (hk : rgt s k = true) : ∀ j < k + 1, rgt s j = true := by
  intro j hj
  rcases (by omega : j < k ∨ j = k) with h1 | rfl
  · exact h j h1
  · exact hk
structure RatsOk (s : Sig) : Prop where
  sn : -9223372036854775808 ≤ s.sn ∧ s.sn < 9223372036854775808
  sd : s.sd < 9223372036854775808
  on : -9223372036854775808 ≤ s.on ∧ s.on < 9223372036854775808
  od : s.od < 9223372036854775808
  mn : -9223372036854775808 ≤ s.mn ∧ s.mn < 9223372036854775808
  md : s.md < 9223372036854775808
  xn : -9223372036854775808 ≤ s.xn ∧ s.xn < 9223372036854775808
  xd : s.xd < 9223372036854775808

theorem idx_0 (a b c d e f g h : Int) (w : World) : (Instr.index 90 (.agg #[Value.int IntKind.i64 a, Value.int IntKind.i64 b, Value.int IntKind.i64 c, Value.int IntKind.i64 d, Value.int IntKind.i64 e, Value.int IntKind.i64 f, Value.int IntKind.i64 g, Value.int IntKind.i64 h]) (.int .i64 0)).run Tryd.prog w = .ok (.agg #[.int .i64 a, .int .i64 b]) w := by kernel_rfl
theorem idx_1 (a b c d e f g h : Int) (w : World) : (Instr.index 90 (.agg #[Value.int IntKind.i64 a, Value.int IntKind.i64 b, Value.int IntKind.i64 c, Value.int IntKind.i64 d, Value.int IntKind.i64 e, Value.int IntKind.i64 f, Value.int IntKind.i64 g, Value.int IntKind.i64 h]) (.int .i64 1)).run Tryd.prog w = .ok (.agg #[.int .i64 c, .int .i64 d]) w := by kernel_rfl
theorem idx_2 (a b c d e f g h : Int) (w : World) : (Instr.index 90 (.agg #[Value.int IntKind.i64 a, Value.int IntKind.i64 b, Value.int IntKind.i64 c, Value.int IntKind.i64 d, Value.int IntKind.i64 e, Value.int IntKind.i64 f, Value.int IntKind.i64 g, Value.int IntKind.i64 h]) (.int .i64 2)).run Tryd.prog w = .ok (.agg #[.int .i64 e, .int .i64 f]) w := by kernel_rfl
theorem idx_3 (a b c d e f g h : Int) (w : World) : (Instr.index 90 (.agg #[Value.int IntKind.i64 a, Value.int IntKind.i64 b, Value.int IntKind.i64 c, Value.int IntKind.i64 d, Value.int IntKind.i64 e, Value.int IntKind.i64 f, Value.int IntKind.i64 g, Value.int IntKind.i64 h]) (.int .i64 3)).run Tryd.prog w = .ok (.agg #[.int .i64 g, .int .i64 h]) w := by kernel_rfl

set_option maxRecDepth 100000 in
set_option maxHeartbeats 2000000 in
theorem right_sig (s : Sig) (v : Value) (w : World) (ok : RatsOk s) :
    Calls Tryd.prog 27 #[sigV s v] w fun e w' => e = .returned (ercV (rgE s)) ∧ Below w.heap.size w w' := by
  obtain ⟨o1, o2, o3, o4, o5, o6, o7, o8⟩ := ok
  unfold sigV
  go_enter Tryd.func27, Tryd.ntmps27
  go_wp2
  go_loopw [14] (fun i wr => ∃ k : Int, 0 ≤ k ∧ k ≤ 4 ∧ i = .int .i64 k ∧ Hid (∀ j < k.toNat, rgt s j = true) ∧ wr.cell? ⟨w.heap.size, 9, none⟩ = some (.int .i64 s.sn) ∧ w.heap.size < wr.heap.size ∧ Below w.heap.size w wr) (fun i _ => 4 - (intOf i).toNat)
  case atStart => exact ⟨0, by omega, by omega, rfl, Lib.hid (fun j hj => absurd hj (Nat.not_lt_zero j)), by go_simp, by simp, (by repeat' (first | (with_reducible assumption) | (with_reducible refine Below.setCell ?_ ?_ _) | (with_reducible refine Below.alloc ?_ ?_ _) | (with_reducible refine Below.drew ?_) | (with_reducible refine below_drewN ?_ _) | (with_reducible exact Below.refl _ _) | (show _ ≤ _; (try simp); (try omega); done) | exact Below.refl _ _ | assumption))⟩
  case round =>
    obtain ⟨k, hk0, hk, rfl, hr, hc9, hlt, hbel⟩ := hrel
    rcases (by omega : k = 0 ∨ k = 1 ∨ k = 2 ∨ k = 3 ∨ k = 4) with rfl | rfl | rfl | rfl | rfl
    · cases hb0 : rightB s.sn s.sd
      · have HB := Lib.hid hb0; clear hb0
        go_wp2_with (first | simp only [idx_0] | (go_at_call 39; refine (right_any _ _ _ o1.1 o1.2 o2).mono ?_; rintro e w1 ⟨he, hb⟩; rw [HB.out] at he; subst he; obtain ⟨hc, hf⟩ := bcell hb; have hz := hb.size; (try simp at hz); have hB : Below w.heap.size w w1 := Below.trans (by repeat' (first | (with_reducible assumption) | (with_reducible refine Below.setCell ?_ ?_ _) | (with_reducible refine Below.alloc ?_ ?_ _) | (with_reducible refine Below.drew ?_) | (with_reducible refine below_drewN ?_ _) | (with_reducible exact Below.refl _ _) | (show _ ≤ _; (try simp); (try omega); done) | exact Below.refl _ _ | assumption)) (hb.mono (by (try simp); (try omega)))))
        go_ret
        exact ⟨er1 (sgR_not (j := 0) (by omega) HB.out), (by repeat' (first | (with_reducible assumption) | (with_reducible refine Below.setCell ?_ ?_ _) | (with_reducible refine Below.alloc ?_ ?_ _) | (with_reducible refine Below.drew ?_) | (with_reducible refine below_drewN ?_ _) | (with_reducible exact Below.refl _ _) | (show _ ≤ _; (try simp); (try omega); done) | exact Below.refl _ _ | assumption))⟩
      · have HB := Lib.hid hb0; clear hb0
        go_wp2_with (first | simp only [idx_0] | (go_at_call 39; refine (right_any _ _ _ o1.1 o1.2 o2).mono ?_; rintro e w1 ⟨he, hb⟩; rw [HB.out] at he; subst he; obtain ⟨hc, hf⟩ := bcell hb; have hz := hb.size; (try simp at hz); have hB : Below w.heap.size w w1 := Below.trans (by repeat' (first | (with_reducible assumption) | (with_reducible refine Below.setCell ?_ ?_ _) | (with_reducible refine Below.alloc ?_ ?_ _) | (with_reducible refine Below.drew ?_) | (with_reducible refine below_drewN ?_ _) | (with_reducible exact Below.refl _ _) | (show _ ≤ _; (try simp); (try omega); done) | exact Below.refl _ _ | assumption)) (hb.mono (by (try simp); (try omega)))))
        go_roundw
        case rel => exact ⟨1, by omega, by omega, rfl, Lib.hid (rgt_next (k := 0) hr.out HB.out), (hc _ _ (by simp; omega)).trans (by go_simp), by omega, hB⟩
        case measure => simp [intOf]
    · cases hb0 : rightB s.on s.od
      · have HB := Lib.hid hb0; clear hb0
        go_wp2_with (first | simp only [idx_1] | (go_at_call 39; refine (right_any _ _ _ o3.1 o3.2 o4).mono ?_; rintro e w1 ⟨he, hb⟩; rw [HB.out] at he; subst he; obtain ⟨hc, hf⟩ := bcell hb; have hz := hb.size; (try simp at hz); have hB : Below w.heap.size w w1 := Below.trans (by repeat' (first | (with_reducible assumption) | (with_reducible refine Below.setCell ?_ ?_ _) | (with_reducible refine Below.alloc ?_ ?_ _) | (with_reducible refine Below.drew ?_) | (with_reducible refine below_drewN ?_ _) | (with_reducible exact Below.refl _ _) | (show _ ≤ _; (try simp); (try omega); done) | exact Below.refl _ _ | assumption)) (hb.mono (by (try simp); (try omega)))))
        go_ret
        exact ⟨er1 (sgR_not (j := 1) (by omega) HB.out), (by repeat' (first | (with_reducible assumption) | (with_reducible refine Below.setCell ?_ ?_ _) | (with_reducible refine Below.alloc ?_ ?_ _) | (with_reducible refine Below.drew ?_) | (with_reducible refine below_drewN ?_ _) | (with_reducible exact Below.refl _ _) | (show _ ≤ _; (try simp); (try omega); done) | exact Below.refl _ _ | assumption))⟩
      · have HB := Lib.hid hb0; clear hb0
        go_wp2_with (first | simp only [idx_1] | (go_at_call 39; refine (right_any _ _ _ o3.1 o3.2 o4).mono ?_; rintro e w1 ⟨he, hb⟩; rw [HB.out] at he; subst he; obtain ⟨hc, hf⟩ := bcell hb; have hz := hb.size; (try simp at hz); have hB : Below w.heap.size w w1 := Below.trans (by repeat' (first | (with_reducible assumption) | (with_reducible refine Below.setCell ?_ ?_ _) | (with_reducible refine Below.alloc ?_ ?_ _) | (with_reducible refine Below.drew ?_) | (with_reducible refine below_drewN ?_ _) | (with_reducible exact Below.refl _ _) | (show _ ≤ _; (try simp); (try omega); done) | exact Below.refl _ _ | assumption)) (hb.mono (by (try simp); (try omega)))))
        go_roundw
        case rel => exact ⟨2, by omega, by omega, rfl, Lib.hid (rgt_next (k := 1) hr.out HB.out), (hc _ _ (by simp; omega)).trans (by go_simp), by omega, hB⟩
        case measure => simp [intOf]
    · cases hb0 : rightB s.mn s.md
      · have HB := Lib.hid hb0; clear hb0
        go_wp2_with (first | simp only [idx_2] | (go_at_call 39; refine (right_any _ _ _ o5.1 o5.2 o6).mono ?_; rintro e w1 ⟨he, hb⟩; rw [HB.out] at he; subst he; obtain ⟨hc, hf⟩ := bcell hb; have hz := hb.size; (try simp at hz); have hB : Below w.heap.size w w1 := Below.trans (by repeat' (first | (with_reducible assumption) | (with_reducible refine Below.setCell ?_ ?_ _) | (with_reducible refine Below.alloc ?_ ?_ _) | (with_reducible refine Below.drew ?_) | (with_reducible refine below_drewN ?_ _) | (with_reducible exact Below.refl _ _) | (show _ ≤ _; (try simp); (try omega); done) | exact Below.refl _ _ | assumption)) (hb.mono (by (try simp); (try omega)))))
        go_ret
        exact ⟨er1 (sgR_not (j := 2) (by omega) HB.out), (by repeat' (first | (with_reducible assumption) | (with_reducible refine Below.setCell ?_ ?_ _) | (with_reducible refine Below.alloc ?_ ?_ _) | (with_reducible refine Below.drew ?_) | (with_reducible refine below_drewN ?_ _) | (with_reducible exact Below.refl _ _) | (show _ ≤ _; (try simp); (try omega); done) | exact Below.refl _ _ | assumption))⟩
      · have HB := Lib.hid hb0; clear hb0
        go_wp2_with (first | simp only [idx_2] | (go_at_call 39; refine (right_any _ _ _ o5.1 o5.2 o6).mono ?_; rintro e w1 ⟨he, hb⟩; rw [HB.out] at he; subst he; obtain ⟨hc, hf⟩ := bcell hb; have hz := hb.size; (try simp at hz); have hB : Below w.heap.size w w1 := Below.trans (by repeat' (first | (with_reducible assumption) | (with_reducible refine Below.setCell ?_ ?_ _) | (with_reducible refine Below.alloc ?_ ?_ _) | (with_reducible refine Below.drew ?_) | (with_reducible refine below_drewN ?_ _) | (with_reducible exact Below.refl _ _) | (show _ ≤ _; (try simp); (try omega); done) | exact Below.refl _ _ | assumption)) (hb.mono (by (try simp); (try omega)))))
        go_roundw
        case rel => exact ⟨3, by omega, by omega, rfl, Lib.hid (rgt_next (k := 2) hr.out HB.out), (hc _ _ (by simp; omega)).trans (by go_simp), by omega, hB⟩
        case measure => simp [intOf]
    · cases hb0 : rightB s.xn s.xd
      · have HB := Lib.hid hb0; clear hb0
        go_wp2_with (first | simp only [idx_3] | (go_at_call 39; refine (right_any _ _ _ o7.1 o7.2 o8).mono ?_; rintro e w1 ⟨he, hb⟩; rw [HB.out] at he; subst he; obtain ⟨hc, hf⟩ := bcell hb; have hz := hb.size; (try simp at hz); have hB : Below w.heap.size w w1 := Below.trans (by repeat' (first | (with_reducible assumption) | (with_reducible refine Below.setCell ?_ ?_ _) | (with_reducible refine Below.alloc ?_ ?_ _) | (with_reducible refine Below.drew ?_) | (with_reducible refine below_drewN ?_ _) | (with_reducible exact Below.refl _ _) | (show _ ≤ _; (try simp); (try omega); done) | exact Below.refl _ _ | assumption)) (hb.mono (by (try simp); (try omega)))))
        go_ret
        exact ⟨er1 (sgR_not (j := 3) (by omega) HB.out), (by repeat' (first | (with_reducible assumption) | (with_reducible refine Below.setCell ?_ ?_ _) | (with_reducible refine Below.alloc ?_ ?_ _) | (with_reducible refine Below.drew ?_) | (with_reducible refine below_drewN ?_ _) | (with_reducible exact Below.refl _ _) | (show _ ≤ _; (try simp); (try omega); done) | exact Below.refl _ _ | assumption))⟩
      · have HB := Lib.hid hb0; clear hb0
        go_wp2_with (first | simp only [idx_3] | (go_at_call 39; refine (right_any _ _ _ o7.1 o7.2 o8).mono ?_; rintro e w1 ⟨he, hb⟩; rw [HB.out] at he; subst he; obtain ⟨hc, hf⟩ := bcell hb; have hz := hb.size; (try simp at hz); have hB : Below w.heap.size w w1 := Below.trans (by repeat' (first | (with_reducible assumption) | (with_reducible refine Below.setCell ?_ ?_ _) | (with_reducible refine Below.alloc ?_ ?_ _) | (with_reducible refine Below.drew ?_) | (with_reducible refine below_drewN ?_ _) | (with_reducible exact Below.refl _ _) | (show _ ≤ _; (try simp); (try omega); done) | exact Below.refl _ _ | assumption)) (hb.mono (by (try simp); (try omega)))))
        go_roundw
        case rel => exact ⟨4, by omega, by omega, rfl, Lib.hid (rgt_next (k := 3) hr.out HB.out), (hc _ _ (by simp; omega)).trans (by go_simp), by omega, hB⟩
        case measure => simp [intOf]
    · by_cases h0 : s.sn = 0
      · have e0 : (s.sn == 0) = true := by simpa using h0
        have HE := Lib.hid h0; clear h0
        go_wp2
        go_ret
        exact ⟨er10 (sgR_of hr.out) HE.out, (by repeat' (first | (with_reducible assumption) | (with_reducible refine Below.setCell ?_ ?_ _) | (with_reducible refine Below.alloc ?_ ?_ _) | (with_reducible refine Below.drew ?_) | (with_reducible refine below_drewN ?_ _) | (with_reducible exact Below.refl _ _) | (show _ ≤ _; (try simp); (try omega); done) | exact Below.refl _ _ | assumption))⟩
      · have e0 : (s.sn == 0) = false := by simpa using h0
        have HE := Lib.hid h0; clear h0
        go_wp2
        go_ret
        exact ⟨er0 (sgR_of hr.out) HE.out, (by repeat' (first | (with_reducible assumption) | (with_reducible refine Below.setCell ?_ ?_ _) | (with_reducible refine Below.alloc ?_ ?_ _) | (with_reducible refine Below.drew ?_) | (with_reducible refine below_drewN ?_ _) | (with_reducible exact Below.refl _ _) | (show _ ≤ _; (try simp); (try omega); done) | exact Below.refl _ _ | assumption))⟩

set_option maxRecDepth 100000 in
set_option maxHeartbeats 2000000 in
theorem below_any (an ad bn bd : Int) (w : World) (h1 : -9223372036854775808 ≤ an) (h2 : an < 9223372036854775808) (h3 : ad < 9223372036854775808) (h4 : -9223372036854775808 ≤ bn) (h5 : bn < 9223372036854775808) (h6 : bd < 9223372036854775808) :
    Calls Tryd.prog 55 #[.agg #[.int .i64 an, .int .i64 ad], .agg #[.int .i64 bn, .int .i64 bd]] w fun e w' => e = .returned (.bool (lowB an ad bn bd)) ∧ Below w.heap.size w w' := by
  have HC := Lib.hid (fun w => cmp_val an ad bn bd w h1 h2 h3 h4 h5 h6)
  cases hb : (rightB an ad && rightB bn bd)
  · have hv : cmpV an ad bn bd = .tuple #[.int .i64 0, .iface 64 (.int .i64 1)] := by unfold cmpV; rw [hb]; rfl
    have hl : lowB an ad bn bd = false := by unfold lowB; rw [hb]; rfl
    rw [hv] at HC; rw [hl]
    clear hv hl hb
    go_enter Tryd.func55, Tryd.ntmps55
    go_wp2_with (go_at_call 83; refine (HC.out _).mono ?_; rintro e w1 ⟨rfl, hb⟩; obtain ⟨hc, hf⟩ := bcell hb; have hz := hb.size; (try simp at hz); have hB : Below w.heap.size w w1 := Below.trans (by repeat' (first | (with_reducible assumption) | (with_reducible refine Below.setCell ?_ ?_ _) | (with_reducible refine Below.alloc ?_ ?_ _) | (with_reducible refine Below.drew ?_) | (with_reducible refine below_drewN ?_ _) | (with_reducible exact Below.refl _ _) | (show _ ≤ _; (try simp); (try omega); done) | exact Below.refl _ _ | assumption)) (hb.mono (by (try simp); (try omega))))
    go_ret
    exact ⟨rfl, (by repeat' (first | (with_reducible assumption) | (with_reducible refine Below.setCell ?_ ?_ _) | (with_reducible refine Below.alloc ?_ ?_ _) | (with_reducible refine Below.drew ?_) | (with_reducible refine below_drewN ?_ _) | (with_reducible exact Below.refl _ _) | (show _ ≤ _; (try simp); (try omega); done) | exact Below.refl _ _ | assumption))⟩
  · obtain ⟨c, hcc⟩ : ∃ c, c = cmpC an ad bn bd := ⟨_, rfl⟩
    have hv : cmpV an ad bn bd = .tuple #[.int .i64 c, .nilIface] := by unfold cmpV; rw [hb, hcc]; rfl
    have hl : lowB an ad bn bd = decide (c < 0) := by
      unfold lowB; rw [hb, hcc, Bool.true_and]; unfold cmpC
      rw [Bool.eq_iff_iff, decide_eq_true_eq, decide_eq_true_eq]
      split
      · omega
      · split <;> omega
    rw [hv] at HC; rw [hl]
    clear hv hl hb hcc
    go_enter Tryd.func55, Tryd.ntmps55
    go_wp2_with (go_at_call 83; refine (HC.out _).mono ?_; rintro e w1 ⟨rfl, hb⟩; obtain ⟨hc, hf⟩ := bcell hb; have hz := hb.size; (try simp at hz); have hB : Below w.heap.size w w1 := Below.trans (by repeat' (first | (with_reducible assumption) | (with_reducible refine Below.setCell ?_ ?_ _) | (with_reducible refine Below.alloc ?_ ?_ _) | (with_reducible refine Below.drew ?_) | (with_reducible refine below_drewN ?_ _) | (with_reducible exact Below.refl _ _) | (show _ ≤ _; (try simp); (try omega); done) | exact Below.refl _ _ | assumption)) (hb.mono (by (try simp); (try omega))))
    go_ret
    exact ⟨rfl, (by repeat' (first | (with_reducible assumption) | (with_reducible refine Below.setCell ?_ ?_ _) | (with_reducible refine Below.alloc ?_ ?_ _) | (with_reducible refine Below.drew ?_) | (with_reducible refine below_drewN ?_ _) | (with_reducible exact Below.refl _ _) | (show _ ≤ _; (try simp); (try omega); done) | exact Below.refl _ _ | assumption))⟩

set_option maxRecDepth 100000 in
set_option maxHeartbeats 2000000 in
theorem in_far (s : Sig) (v : Value) (n d : Int) (w : World) (ok : RatsOk s) (h1 : -9223372036854775808 ≤ n) (h2 : n < 9223372036854775808) (h3 : d < 9223372036854775808)
    (hz : ((s.mn == 0) && (s.xn == 0)) = false) (hi : inB s n d = (!lowB n d s.mn s.md && !lowB s.xn s.xd n d)) :
    Calls Tryd.prog 31 #[sigV s v, .agg #[.int .i64 n, .int .i64 d]] w fun e w' => e = .returned (.bool (inB s n d)) ∧ Below w.heap.size w w' := by
  obtain ⟨o1, o2, o3, o4, o5, o6, o7, o8⟩ := ok
  unfold sigV
  have HA : Hid (∀ w, Calls Tryd.prog 55 #[.agg #[.int .i64 n, .int .i64 d], .agg #[.int .i64 s.mn, .int .i64 s.md]] w fun e w' => e = .returned (.bool (lowB n d s.mn s.md)) ∧ Below w.heap.size w w') := Lib.hid fun w => below_any n d s.mn s.md w h1 h2 h3 o5.1 o5.2 o6
  have HB : Hid (∀ w, Calls Tryd.prog 55 #[.agg #[.int .i64 s.xn, .int .i64 s.xd], .agg #[.int .i64 n, .int .i64 d]] w fun e w' => e = .returned (.bool (lowB s.xn s.xd n d)) ∧ Below w.heap.size w w') := Lib.hid fun w => below_any s.xn s.xd n d w o7.1 o7.2 o8 h1 h2 h3
  rw [hi]
  clear hi
  generalize lowB n d s.mn s.md = A at *
  generalize lowB s.xn s.xd n d = B at *
  cases e0 : (s.mn == 0)
  · clear hz
    go_enter Tryd.func31, Tryd.ntmps31
    cases A
    · go_wp2_with (go_at_call 55; first
        | (with_reducible refine (HA.out _).mono ?_; rintro e w1 ⟨rfl, hb_w1⟩; obtain ⟨hc_w1, hf_w1⟩ := bcell hb_w1; have hz_w1 := hb_w1.size; (try simp at hz_w1); have hB_w1 : Below w.heap.size w w1 := Below.trans (by repeat' (first | (with_reducible assumption) | (with_reducible refine Below.setCell ?_ ?_ _) | (with_reducible refine Below.alloc ?_ ?_ _) | (with_reducible refine Below.drew ?_) | (with_reducible refine below_drewN ?_ _) | (with_reducible exact Below.refl _ _) | (show _ ≤ _; (try simp); (try omega); done) | exact Below.refl _ _ | assumption)) (hb_w1.mono (by (try simp); (try omega))); have z_w1_0 : w.heap.size < w1.heap.size := (by omega); have z_w1_1 : w.heap.size + 1 < w1.heap.size := (by omega))
        | (with_reducible refine (HB.out _).mono ?_; rintro e w2 ⟨rfl, hb_w2⟩; obtain ⟨hc_w2, hf_w2⟩ := bcell hb_w2; have hz_w2 := hb_w2.size; (try simp at hz_w2); have hB_w2 : Below w.heap.size w w2 := Below.trans (by repeat' (first | (with_reducible assumption) | (with_reducible refine Below.setCell ?_ ?_ _) | (with_reducible refine Below.alloc ?_ ?_ _) | (with_reducible refine Below.drew ?_) | (with_reducible refine below_drewN ?_ _) | (with_reducible exact Below.refl _ _) | (show _ ≤ _; (try simp); (try omega); done) | exact Below.refl _ _ | assumption)) (hb_w2.mono (by (try simp); (try omega))); have z_w2_0 : w.heap.size < w2.heap.size := (by omega); have z_w2_1 : w.heap.size + 1 < w2.heap.size := (by omega)))
      go_ret
      exact ⟨rfl, (by repeat' (first | (with_reducible assumption) | (with_reducible refine Below.setCell ?_ ?_ _) | (with_reducible refine Below.alloc ?_ ?_ _) | (with_reducible refine Below.drew ?_) | (with_reducible refine below_drewN ?_ _) | (with_reducible exact Below.refl _ _) | (show _ ≤ _; (try simp); (try omega); done) | exact Below.refl _ _ | assumption))⟩
    · go_wp2_with (go_at_call 55; refine (HA.out _).mono ?_; rintro e w1 ⟨rfl, hb_w1⟩; obtain ⟨hc_w1, hf_w1⟩ := bcell hb_w1; have hz_w1 := hb_w1.size; (try simp at hz_w1); have hB_w1 : Below w.heap.size w w1 := Below.trans (by repeat' (first | (with_reducible assumption) | (with_reducible refine Below.setCell ?_ ?_ _) | (with_reducible refine Below.alloc ?_ ?_ _) | (with_reducible refine Below.drew ?_) | (with_reducible refine below_drewN ?_ _) | (with_reducible exact Below.refl _ _) | (show _ ≤ _; (try simp); (try omega); done) | exact Below.refl _ _ | assumption)) (hb_w1.mono (by (try simp); (try omega))); have z_w1_0 : w.heap.size < w1.heap.size := (by omega); have z_w1_1 : w.heap.size + 1 < w1.heap.size := (by omega))
      go_ret
      exact ⟨rfl, (by repeat' (first | (with_reducible assumption) | (with_reducible refine Below.setCell ?_ ?_ _) | (with_reducible refine Below.alloc ?_ ?_ _) | (with_reducible refine Below.drew ?_) | (with_reducible refine below_drewN ?_ _) | (with_reducible exact Below.refl _ _) | (show _ ≤ _; (try simp); (try omega); done) | exact Below.refl _ _ | assumption))⟩
  · have e9 : (s.xn == 0) = false := by rw [e0] at hz; exact hz
    clear hz
    go_enter Tryd.func31, Tryd.ntmps31
    cases A
    · go_wp2_with (go_at_call 55; first
        | (with_reducible refine (HA.out _).mono ?_; rintro e w1 ⟨rfl, hb_w1⟩; obtain ⟨hc_w1, hf_w1⟩ := bcell hb_w1; have hz_w1 := hb_w1.size; (try simp at hz_w1); have hB_w1 : Below w.heap.size w w1 := Below.trans (by repeat' (first | (with_reducible assumption) | (with_reducible refine Below.setCell ?_ ?_ _) | (with_reducible refine Below.alloc ?_ ?_ _) | (with_reducible refine Below.drew ?_) | (with_reducible refine below_drewN ?_ _) | (with_reducible exact Below.refl _ _) | (show _ ≤ _; (try simp); (try omega); done) | exact Below.refl _ _ | assumption)) (hb_w1.mono (by (try simp); (try omega))); have z_w1_0 : w.heap.size < w1.heap.size := (by omega); have z_w1_1 : w.heap.size + 1 < w1.heap.size := (by omega))
        | (with_reducible refine (HB.out _).mono ?_; rintro e w2 ⟨rfl, hb_w2⟩; obtain ⟨hc_w2, hf_w2⟩ := bcell hb_w2; have hz_w2 := hb_w2.size; (try simp at hz_w2); have hB_w2 : Below w.heap.size w w2 := Below.trans (by repeat' (first | (with_reducible assumption) | (with_reducible refine Below.setCell ?_ ?_ _) | (with_reducible refine Below.alloc ?_ ?_ _) | (with_reducible refine Below.drew ?_) | (with_reducible refine below_drewN ?_ _) | (with_reducible exact Below.refl _ _) | (show _ ≤ _; (try simp); (try omega); done) | exact Below.refl _ _ | assumption)) (hb_w2.mono (by (try simp); (try omega))); have z_w2_0 : w.heap.size < w2.heap.size := (by omega); have z_w2_1 : w.heap.size + 1 < w2.heap.size := (by omega)))
      go_ret
      exact ⟨rfl, (by repeat' (first | (with_reducible assumption) | (with_reducible refine Below.setCell ?_ ?_ _) | (with_reducible refine Below.alloc ?_ ?_ _) | (with_reducible refine Below.drew ?_) | (with_reducible refine below_drewN ?_ _) | (with_reducible exact Below.refl _ _) | (show _ ≤ _; (try simp); (try omega); done) | exact Below.refl _ _ | assumption))⟩
    · go_wp2_with (go_at_call 55; refine (HA.out _).mono ?_; rintro e w1 ⟨rfl, hb_w1⟩; obtain ⟨hc_w1, hf_w1⟩ := bcell hb_w1; have hz_w1 := hb_w1.size; (try simp at hz_w1); have hB_w1 : Below w.heap.size w w1 := Below.trans (by repeat' (first | (with_reducible assumption) | (with_reducible refine Below.setCell ?_ ?_ _) | (with_reducible refine Below.alloc ?_ ?_ _) | (with_reducible refine Below.drew ?_) | (with_reducible refine below_drewN ?_ _) | (with_reducible exact Below.refl _ _) | (show _ ≤ _; (try simp); (try omega); done) | exact Below.refl _ _ | assumption)) (hb_w1.mono (by (try simp); (try omega))); have z_w1_0 : w.heap.size < w1.heap.size := (by omega); have z_w1_1 : w.heap.size + 1 < w1.heap.size := (by omega))
      go_ret
      exact ⟨rfl, (by repeat' (first | (with_reducible assumption) | (with_reducible refine Below.setCell ?_ ?_ _) | (with_reducible refine Below.alloc ?_ ?_ _) | (with_reducible refine Below.drew ?_) | (with_reducible refine below_drewN ?_ _) | (with_reducible exact Below.refl _ _) | (show _ ≤ _; (try simp); (try omega); done) | exact Below.refl _ _ | assumption))⟩

set_option maxRecDepth 100000 in
set_option maxHeartbeats 2000000 in
theorem in_any (s : Sig) (v : Value) (n d : Int) (w : World) (ok : RatsOk s) (h1 : -9223372036854775808 ≤ n) (h2 : n < 9223372036854775808) (h3 : d < 9223372036854775808) :
    Calls Tryd.prog 31 #[sigV s v, .agg #[.int .i64 n, .int .i64 d]] w fun e w' => e = .returned (.bool (inB s n d)) ∧ Below w.heap.size w w' := by
  obtain ⟨o1, o2, o3, o4, o5, o6, o7, o8⟩ := ok
  unfold sigV
  by_cases h0 : s.mn = 0
  · have e0 : (s.mn == 0) = true := by simpa using h0
    by_cases h9 : s.xn = 0
    · have e9 : (s.xn == 0) = true := by simpa using h9
      have hi : inB s n d = true := by unfold inB; rw [if_pos ⟨h0, h9⟩]
      rw [hi]; clear hi h0 h9
      go_enter Tryd.func31, Tryd.ntmps31
      go_wp2
      go_ret
      exact ⟨rfl, (by repeat' (first | (with_reducible assumption) | (with_reducible refine Below.setCell ?_ ?_ _) | (with_reducible refine Below.alloc ?_ ?_ _) | (with_reducible refine Below.drew ?_) | (with_reducible refine below_drewN ?_ _) | (with_reducible exact Below.refl _ _) | (show _ ≤ _; (try simp); (try omega); done) | exact Below.refl _ _ | assumption))⟩
    · have e9 : (s.xn == 0) = false := by simpa using h9
      have hi : inB s n d = (!lowB n d s.mn s.md && !lowB s.xn s.xd n d) := by unfold inB; rw [if_neg (fun h => h9 h.2)]
      clear h0 h9
      exact in_far s v n d w ⟨o1, o2, o3, o4, o5, o6, o7, o8⟩ h1 h2 h3 (by rw [e0, e9]; rfl) hi
  · have e0 : (s.mn == 0) = false := by simpa using h0
    have hi : inB s n d = (!lowB n d s.mn s.md && !lowB s.xn s.xd n d) := by unfold inB; rw [if_neg (fun h => h0 h.1)]
    exact in_far s v n d w ⟨o1, o2, o3, o4, o5, o6, o7, o8⟩ h1 h2 h3 (by rw [e0]; rfl) hi

set_option maxRecDepth 100000 in
set_option maxHeartbeats 2000000 in
theorem has_any (s : Sig) (v : Value) (n : Int) (w : World) (h1 : -9223372036854775808 ≤ n) (h2 : n < 9223372036854775808) :
    Calls Tryd.prog 43 #[sigV s v, .int .i64 n] w fun e w' => e = .returned (.bool (hasB s n)) ∧ Below w.heap.size w w' := by
  have HF : Hid (∀ w, Calls Tryd.prog 28 #[.int .u64 (n % 18446744073709551616), .int .i64 s.size, .bool s.sgn] w fun e w' => e = .returned (.bool (fitsB (n % 18446744073709551616) s.size s.sgn)) ∧ w = w') := Lib.hid fun w => rawW.fits_any _ _ _ w (by omega) (by omega)
  have E1 : IntKind.u64.wrap n = n % 18446744073709551616 := by rw [IntKind.wrap_u64]
  unfold sigV hasB
  generalize hF : fitsB (n % 18446744073709551616) s.size s.sgn = F at *
  clear hF
  cases hg : s.sgn
  · rw [hg] at HF
    cases hn : decide (0 ≤ n)
    · go_enter Tryd.func43, Tryd.ntmps43
      go_wp2
      go_ret
      exact ⟨rfl, (by repeat' (first | (with_reducible assumption) | (with_reducible refine Below.setCell ?_ ?_ _) | (with_reducible refine Below.alloc ?_ ?_ _) | (with_reducible refine Below.drew ?_) | (with_reducible refine below_drewN ?_ _) | (with_reducible exact Below.refl _ _) | (show _ ≤ _; (try simp); (try omega); done) | exact Below.refl _ _ | assumption))⟩
    · go_enter Tryd.func43, Tryd.ntmps43
      go_wp2_with (go_at_call 28; refine (HF.out _).mono ?_; rintro e w1 ⟨rfl, rfl⟩)
      go_ret
      exact ⟨rfl, (by repeat' (first | (with_reducible assumption) | (with_reducible refine Below.setCell ?_ ?_ _) | (with_reducible refine Below.alloc ?_ ?_ _) | (with_reducible refine Below.drew ?_) | (with_reducible refine below_drewN ?_ _) | (with_reducible exact Below.refl _ _) | (show _ ≤ _; (try simp); (try omega); done) | exact Below.refl _ _ | assumption))⟩
  · rw [hg] at HF
    go_enter Tryd.func43, Tryd.ntmps43
    go_wp2_with (go_at_call 28; refine (HF.out _).mono ?_; rintro e w1 ⟨rfl, rfl⟩)
    go_ret
    exact ⟨rfl, (by repeat' (first | (with_reducible assumption) | (with_reducible refine Below.setCell ?_ ?_ _) | (with_reducible refine Below.alloc ?_ ?_ _) | (with_reducible refine Below.drew ?_) | (with_reducible refine below_drewN ?_ _) | (with_reducible exact Below.refl _ _) | (show _ ≤ _; (try simp); (try omega); done) | exact Below.refl _ _ | assumption))⟩
end physW
end Go.Proofs.YtllbpanfhlbbgaaDoor
