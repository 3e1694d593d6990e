/- errors.Is and busbarkit.Num at a Fault (it wraps its number) and at none. No condition. -/
import Derived.Test.YtllbpanfhlbbgaaDoorIs
import Derived.Test.YtllbpanfhlbbgaaDoorNum
import Derived.Test.YtllbpanfhlbbgaaDoorBase
namespace Go.Proofs.YtllbpanfhlbbgaaDoor
open Go.RowKit Go.Bus Go.Extern.Stop Go.Stop Go.Extern
set_option linter.unusedVariables false
namespace isK
theorem noIsF (v : Value) (xT : TypeId) (w : World) : (Instr.typeAssert (.iface 67 v) xT 142 true).run Tryd.prog w = .ok (.tuple #[.nilIface, .bool false]) w := run_typeAssert_lacksB Tryd.underlying142 (by kernel_rfl) (by kernel_rfl) v xT w
theorem hasUnwrapF (v : Value) (xT : TypeId) (w : World) : (Instr.typeAssert (.iface 67 v) xT 135 true).run Tryd.prog w = .ok (.tuple #[.iface 67 v, .bool true]) w := run_typeAssert_hasB Tryd.underlying135 (by kernel_rfl) v xT w
theorem methodUnwrapF (n : Nat) (v : Value) (w : World) : (Go.method (n + 1) 67 v "Unwrap").run Tryd.prog w = .ok (111, v) w := by kernel_rfl

set_option maxRecDepth 100000 in
set_option maxHeartbeats 1000000 in
theorem is_fault (a l c b : Int) (w : World) :
    Calls Tryd.prog 56 #[.iface 67 (.agg #[.int .i64 a, .int .i64 l, .int .i64 c]), .iface 64 (.int .i64 b)] w fun e w' => e = .returned (.bool (a == b)) ∧ Below w.heap.size w w' := by
  have h8 := @run_callFunc_extern Tryd.prog 84 _ Extern.ReflectliteType.typeOf Tryd.func84 (by kernel_rfl) (by kernel_rfl) (by kernel_rfl) (by kernel_rfl)
  have h32 := callComparable
  have tT := isTypeOf
  have mR := isMethodComparable
  have nE := noIsE
  have uE := noUnwrapE
  have vE := noUnwrapsE
  have nF := noIsF
  have uF := hasUnwrapF
  have mF := methodUnwrapF
  have hty := run_eql_iface_types (P := Tryd.prog) 67 64 (.agg #[.int .i64 a, .int .i64 l, .int .i64 c]) (.int .i64 b) Tryd.underlying34 (by decide) w
  have heq := fun W => Lib.run_eql_iface_int (P := Tryd.prog) (k := .i64) W a b Tryd.underlying34 isComp Tryd.underlying64
  by_cases hab : a = b
  · have d0 : (a == b) = true := by simp [hab]
    simp only [d0] at heq
    have HD := Lib.hid d0
    clear hab d0
    go_enter Tryd.func56, Tryd.ntmps56
    go_wp2
    refine wp_loop_rounds 2 ?_
    rw [rounds_succ]
    go_wp2
    rw [rounds_succ]
    go_wp2
    go_ret
    exact ⟨by rw [HD.out]; rfl, (by repeat' (first | (with_reducible assumption) | (with_reducible refine Below.setCell ?_ ?_ _) | (with_reducible refine Below.alloc ?_ ?_ _) | (with_reducible refine Below.drew ?_) | (with_reducible refine below_drewN ?_ _) | (with_reducible exact Below.refl _ _) | (show _ ≤ _; (try simp); (try omega); done) | exact Below.refl _ _ | assumption))⟩
  · have d0 : (a == b) = false := by simp [hab]
    simp only [d0] at heq
    have HD := Lib.hid d0
    clear hab d0
    go_enter Tryd.func56, Tryd.ntmps56
    go_wp2
    refine wp_loop_rounds 2 ?_
    rw [rounds_succ]
    go_wp2
    rw [rounds_succ]
    go_wp2
    go_ret
    exact ⟨by rw [HD.out]; rfl, (by repeat' (first | (with_reducible assumption) | (with_reducible refine Below.setCell ?_ ?_ _) | (with_reducible refine Below.alloc ?_ ?_ _) | (with_reducible refine Below.drew ?_) | (with_reducible refine below_drewN ?_ _) | (with_reducible exact Below.refl _ _) | (show _ ≤ _; (try simp); (try omega); done) | exact Below.refl _ _ | assumption))⟩

set_option maxRecDepth 100000 in
set_option maxHeartbeats 1000000 in
theorem num_fault (a l c : Int) (w : World) (h1 : 1 ≤ a) (h2 : a ≤ 26) :
    Calls Tryd.prog 32 #[.iface 67 (.agg #[.int .i64 a, .int .i64 l, .int .i64 c])] w fun e w' => e = .returned (.int .i64 a) ∧ Below w.heap.size w w' := by
  go_enter Tryd.func32, Tryd.ntmps32
  go_wp2
  go_loopw [3, 4] (fun o i wr => ∃ k : Nat, 1 ≤ k ∧ k ≤ 27 ∧ i = .int .i64 k ∧ o = .int .i64 (if a < (k : Int) then a else 0) ∧ Below w.heap.size w wr) (fun _ i _ => 27 - (intOf i).toNat)
  case atStart => exact ⟨1, by omega, by omega, rfl, by rw [if_neg (by omega)], Below.refl _ _⟩
  case round =>
    obtain ⟨k, hk, hk', rfl, rfl, hB⟩ := hrel
    have HB := Lib.hid hB; clear hB
    by_cases hlt : k < 27
    · by_cases he : a = (k : Int)
      · subst he
        rw [if_neg (by omega)]
        go_wp2_with fail
        refine (is_fault _ _ _ _ _).mono ?_
        rintro e w1 ⟨rfl, hb1⟩
        have HB1 := Lib.hid (HB.out.trans (hb1.mono HB.out.size)); clear hb1
        rw [show (((k : Nat) : Int) == (k : Int)) = true from by simp]
        go_wp2
        go_roundw
        case rel => exact ⟨k + 1, by omega, by omega, by go_num, by rw [if_pos (by omega)], HB1.out⟩
        case measure => first | (simp [intOf]; done) | (simp [intOf]; omega)
      · have d0 : (a == (k : Int)) = false := by simp [he]
        have HE : Hid ((if a < ((k + 1 : Nat) : Int) then a else 0) = (if a < (k : Int) then a else 0)) := by
          unfold Hid
          by_cases hl : a < (k : Int)
          · rw [if_pos hl, if_pos (by omega)]
          · rw [if_neg hl, if_neg (by omega)]
        obtain ⟨o, ho⟩ : ∃ o, o = (if a < (k : Int) then a else 0) := ⟨_, rfl⟩
        rw [← ho] at HE
        rw [← ho]
        clear he ho
        go_wp2_with fail
        refine (is_fault _ _ _ _ _).mono ?_
        rintro e w1 ⟨rfl, hb1⟩
        have HB1 := Lib.hid (HB.out.trans (hb1.mono HB.out.size)); clear hb1
        rw [d0]
        clear d0
        go_wp2
        go_roundw
        case rel => exact ⟨k + 1, by omega, by omega, by go_num, by rw [HE.out], HB1.out⟩
        case measure => first | (simp [intOf]; done) | (simp [intOf]; omega)
    · obtain rfl : k = 27 := by omega
      rw [if_pos (by omega)]
      have d1 : (a == 0) = false := by simp; omega
      go_wp2_with fail
      refine (is_fault _ _ _ _ _).mono ?_
      rintro e w1 ⟨rfl, hb1⟩
      have HB1 := Lib.hid (HB.out.trans (hb1.mono HB.out.size)); clear hb1
      go_wp2
      go_ret
      exact ⟨rfl, HB1.out⟩

set_option maxRecDepth 100000 in
set_option maxHeartbeats 1000000 in
theorem num_nil (w : World) : Calls Tryd.prog 32 #[.nilIface] w fun e w' => e = .returned (.int .i64 0) ∧ w = w' := by
  go_enter Tryd.func32, Tryd.ntmps32
  go_wp2
  go_ret
  exact ⟨rfl, rfl⟩
end isK
end Go.Proofs.YtllbpanfhlbbgaaDoor
