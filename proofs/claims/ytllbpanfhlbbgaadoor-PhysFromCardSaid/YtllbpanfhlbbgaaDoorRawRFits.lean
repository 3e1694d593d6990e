/- Walks of busbarref10.Ends and Fits. No condition. -/
import Derived.Test.YtllbpanfhlbbgaaDoorRawFit
import Derived.Test.YtllbpanfhlbbgaaDoorBase
import Derived.Test.YtllbpanfhlbbgaaDoorRawLaw
import Derived.Test.YtllbpanfhlbbgaaDoorProg
namespace Go.Proofs.YtllbpanfhlbbgaaDoor
open Go.RowKit Go.Bus Go.Bus.rawK
set_option linter.unusedVariables false
namespace rawW

set_option maxRecDepth 100000 in
set_option maxHeartbeats 1000000 in
theorem rends_any (n : Int) (s : Bool) (w : World) :
    Calls Tryd.prog 44 #[.int .i64 n, .bool s] w fun e w' => e = .returned (.tuple #[.int .u64 (eLo n s), .int .u64 (eHi n s)]) ∧ w = w' := by
  by_cases h1 : 1 ≤ n
  · have d1 : decide (n < 1) = false := by simp; omega
    by_cases h2 : n ≤ 64
    · have d2 : decide (64 < n) = false := by simp; omega
      cases s
      · go_enter Tryd.func44, Tryd.ntmps44
        go_wp2_with (first | (go_at_call 70; refine (rlow_any _ _ _ (by omega) (by omega)).mono ?_; rintro e w' ⟨rfl, rfl⟩) | (go_at_call 71; refine (rextend_any _ _ _ _ (by assumption) (by assumption)).mono ?_; rintro e w' ⟨rfl, rfl⟩))
        go_ret2
        exact ⟨ret_int2 (by rw [eLo, if_pos ⟨h1, h2⟩, if_neg (by simp)]) (by rw [eHi, if_pos ⟨h1, h2⟩, if_neg (by simp)]), rfl⟩
      · have e1 := ext_top h1 h2
        have e2 := low_half h1 h2
        have E1 := Lib.hid e1; clear e1
        have E2 := Lib.hid e2; clear e2
        have g : 0 ≤ IntKind.u64.wrap (2 ^ (n.toNat - 1)) ∧ IntKind.u64.wrap (2 ^ (n.toNat - 1)) < 18446744073709551616 := by rw [IntKind.wrap_u64]; omega
        have G := Lib.hid g; clear g
        go_enter Tryd.func44, Tryd.ntmps44
        go_wp2_with fail
        refine (rlow_any _ _ _ (by omega) (by omega)).mono ?_
        rintro e w' ⟨rfl, rfl⟩
        go_wp2_with fail
        refine (rlow_any _ _ _ (by omega) (by omega)).mono ?_
        rintro e w' ⟨rfl, rfl⟩
        go_wp2_with fail
        refine (rextend_any _ _ _ _ G.out.1 G.out.2).mono ?_
        rintro e w' ⟨rfl, rfl⟩
        go_wp2
        go_ret2
        exact ⟨ret_int2 (by rw [E1.out, eLo, if_pos ⟨h1, h2⟩, if_pos rfl]) (by rw [E2.out, eHi, if_pos ⟨h1, h2⟩, if_pos rfl]), rfl⟩
    · have d2 : decide (64 < n) = true := by simp; omega
      go_enter Tryd.func44, Tryd.ntmps44
      go_wp2_with (first | (go_at_call 70; refine (rlow_any _ _ _ (by omega) (by omega)).mono ?_; rintro e w' ⟨rfl, rfl⟩) | (go_at_call 71; refine (rextend_any _ _ _ _ (by assumption) (by assumption)).mono ?_; rintro e w' ⟨rfl, rfl⟩))
      go_ret2
      exact ⟨ret_int2 (by rw [eLo, if_neg (by omega)]) (by rw [eHi, if_neg (by omega)]), rfl⟩
  · have d1 : decide (n < 1) = true := by simp; omega
    go_enter Tryd.func44, Tryd.ntmps44
    go_wp2_with (first | (go_at_call 70; refine (rlow_any _ _ _ (by omega) (by omega)).mono ?_; rintro e w' ⟨rfl, rfl⟩) | (go_at_call 71; refine (rextend_any _ _ _ _ (by assumption) (by assumption)).mono ?_; rintro e w' ⟨rfl, rfl⟩))
    go_ret2
    exact ⟨ret_int2 (by rw [eLo, if_neg (by omega)]) (by rw [eHi, if_neg (by omega)]), rfl⟩

set_option maxRecDepth 100000 in
set_option maxHeartbeats 1000000 in
theorem rfits_any (v n : Int) (s : Bool) (w : World) (hv : 0 ≤ v) (hv' : v < 18446744073709551616) :
    Calls Tryd.prog 22 #[.int .u64 v, .int .i64 n, .bool s] w fun e w' => e = .returned (.bool (fitsB v n s)) ∧ w = w' := by
  by_cases h1 : 1 ≤ n
  · have d1 : decide (n < 1) = false := by simp; omega
    by_cases h2 : n ≤ 64
    · have d2 : decide (64 < n) = false := by simp; omega
      cases s
      · have e1 := fits_un hv hv' h1 h2
        have E1 := Lib.hid e1; clear e1
        go_enter Tryd.func22, Tryd.ntmps22
        go_wp2_with (go_at_call 44; refine (rends_any _ _ _).mono ?_; rintro e w' ⟨rfl, rfl⟩)
        go_ret
        exact ⟨ret_bool E1.out, rfl⟩
      · have e1 := fits_si hv hv' h1 h2
        by_cases h3 : wrap64 (eLo n true) ≤ wrap64 v
        · have d3 : decide (wrap64 (eLo n true) ≤ wrap64 v) = true := by simp; omega
          rw [d3, Bool.true_and] at e1
          have E1 := Lib.hid e1; clear e1 h3
          go_enter Tryd.func22, Tryd.ntmps22
          go_wp2_with (go_at_call 44; refine (rends_any _ _ _).mono ?_; rintro e w' ⟨rfl, rfl⟩)
          go_ret
          exact ⟨ret_bool E1.out, rfl⟩
        · have d3 : decide (wrap64 (eLo n true) ≤ wrap64 v) = false := by simp; omega
          rw [d3, Bool.false_and] at e1
          have E1 := Lib.hid e1; clear e1 h3
          go_enter Tryd.func22, Tryd.ntmps22
          go_wp2_with (go_at_call 44; refine (rends_any _ _ _).mono ?_; rintro e w' ⟨rfl, rfl⟩)
          go_ret
          exact ⟨ret_bool E1.out, rfl⟩
    · have d2 : decide (64 < n) = true := by simp; omega
      go_enter Tryd.func22, Tryd.ntmps22
      go_wp2_with (go_at_call 44; refine (rends_any _ _ _).mono ?_; rintro e w' ⟨rfl, rfl⟩)
      go_ret
      exact ⟨ret_bool (fits_out (by omega)).symm, rfl⟩
  · have d1 : decide (n < 1) = true := by simp; omega
    go_enter Tryd.func22, Tryd.ntmps22
    go_wp2_with (go_at_call 44; refine (rends_any _ _ _).mono ?_; rintro e w' ⟨rfl, rfl⟩)
    go_ret
    exact ⟨ret_bool (fits_out (by omega)).symm, rfl⟩
end rawW
end Go.Proofs.YtllbpanfhlbbgaaDoor
