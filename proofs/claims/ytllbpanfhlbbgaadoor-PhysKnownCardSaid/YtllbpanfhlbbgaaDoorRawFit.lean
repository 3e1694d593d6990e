/- Walks of raw.Low, raw.Extend, raw.Fits and of the document's (busbarref10). No condition. -/
import Derived.Test.YtllbpanfhlbbgaaDoorBase
import Derived.Test.YtllbpanfhlbbgaaDoorRawLaw
import Derived.Test.YtllbpanfhlbbgaaDoorProg
namespace Go.Proofs.YtllbpanfhlbbgaaDoor
open Go.RowKit Go.Bus Go.Bus.rawK
set_option linter.unusedVariables false
namespace rawW

set_option maxRecDepth 100000 in
set_option maxHeartbeats 1000000 in
theorem low_any (v : Int) (n : Int) (w : World) (hv : 0 ≤ v) (hv' : v < 18446744073709551616) :
    Calls Tryd.prog 77 #[.int .u64 v, .int .i64 n] w fun e w' => e = .returned (.int .u64 (lowZ v n)) ∧ w = w' := by
  by_cases h64 : 64 < n
  · go_enter Tryd.func77, Tryd.ntmps77
    go_wp2
    go_ret
    exact ⟨by rw [lowZ, if_pos h64]; rfl, rfl⟩
  · go_enter Tryd.func77, Tryd.ntmps77
    go_wp2
    go_loop [5, 10] (fun m i => ∃ k : Nat, (k : Int) ≤ max n 0 ∧ i = .int .i64 k ∧ m = .int .u64 (msk k)) (fun _ i => (n - intOf i).toNat)
    case atStart => exact ⟨0, by omega, rfl, by simp [msk]⟩
    case round =>
      obtain ⟨k, hk, rfl, rfl⟩ := hrel
      by_cases hlt : (k : Int) < n
      · go_wp2
        go_round
        case rel => exact ⟨k + 1, by omega, by go_num, by rw [msk_step (by omega)]⟩
        case measure => simp [intOf]; omega
      · go_wp2
        go_ret
        refine ⟨?_, rfl⟩
        have : n.toNat = k := by omega
        rw [lowZ, if_neg (by omega), this, ← and_msk hv hv' (by omega)]
        rfl

set_option maxRecDepth 100000 in
set_option maxHeartbeats 1000000 in
theorem rlow_any (v : Int) (n : Int) (w : World) (hv : 0 ≤ v) (hv' : v < 18446744073709551616) :
    Calls Tryd.prog 70 #[.int .u64 v, .int .i64 n] w fun e w' => e = .returned (.int .u64 (lowZ v n)) ∧ w = w' := by
  go_enter Tryd.func70, Tryd.ntmps70
  go_wp2
  go_loop [5, 6] (fun m i => ∃ k : Nat, k ≤ 64 ∧ (k : Int) ≤ max n 0 ∧ i = .int .i64 k ∧ m = .int .u64 (lw v k)) (fun _ i => (64 - intOf i).toNat)
  case atStart => exact ⟨0, by omega, by omega, rfl, by rw [lw_zero]⟩
  case round =>
    obtain ⟨k, hk, hk', rfl, rfl⟩ := hrel
    by_cases hlt : k < 64
    · by_cases hn : (k : Int) < n
      · go_wp2
        go_round
        case rel => exact ⟨k + 1, by omega, by omega, by go_num, by rw [lw_step hv hv' hlt]⟩
        case measure => simp [intOf]; omega
      · go_wp2
        go_ret
        refine ⟨?_, rfl⟩
        have : n.toNat = k := by omega
        rw [lowZ, if_neg (by omega), this]; rfl
    · obtain rfl : k = 64 := by omega
      go_wp2
      go_ret
      refine ⟨ret_int ?_, rfl⟩
      rw [lowZ]
      split
      · exact lw_64 v hv hv'
      · have : n.toNat = 64 := by omega
        rw [this]

set_option maxRecDepth 100000 in
set_option maxHeartbeats 1000000 in
theorem extend_any (v n : Int) (s : Bool) (w : World) (hv : 0 ≤ v) (hv' : v < 18446744073709551616) :
    Calls Tryd.prog 51 #[.int .u64 v, .int .i64 n, .bool s] w fun e w' => e = .returned (.int .u64 (extZ v n s)) ∧ w = w' := by
  cases s
  · go_enter Tryd.func51, Tryd.ntmps51
    go_wp2_with (go_at_call 77; refine (low_any _ _ _ (by assumption) (by assumption)).mono ?_; rintro e w' ⟨rfl, rfl⟩)
    go_ret
    exact ⟨ret_int (by simp [extZ]), rfl⟩
  · by_cases h1 : 1 ≤ n
    · by_cases h2 : n < 64
      · obtain ⟨m, rfl⟩ : ∃ m : Nat, n = m + 1 := ⟨(n - 1).toNat, by omega⟩
        have d1 : decide ((m : Int) + 1 < 1) = false := by simp; omega
        have d2 : decide ((64 : Int) ≤ (m : Int) + 1) = false := by simp; omega
        go_enter Tryd.func51, Tryd.ntmps51
        go_wp2_with (go_at_call 77; refine (low_any _ _ _ (by assumption) (by assumption)).mono ?_; rintro e w' ⟨rfl, rfl⟩)
        go_ret
        refine ⟨ret_int ?_, rfl⟩
        rw [ext_code hv (by omega), extZ, if_pos ⟨rfl, by omega, by omega⟩]
        rfl
      · have d1 : decide (n < 1) = false := by simp; omega
        have d2 : decide (64 ≤ n) = true := by simp; omega
        go_enter Tryd.func51, Tryd.ntmps51
        go_wp2_with (go_at_call 77; refine (low_any _ _ _ (by assumption) (by assumption)).mono ?_; rintro e w' ⟨rfl, rfl⟩)
        go_ret
        exact ⟨ret_int (by rw [extZ, if_neg (by omega)]), rfl⟩
    · have d1 : decide (n < 1) = true := by simp; omega
      go_enter Tryd.func51, Tryd.ntmps51
      go_wp2_with (go_at_call 77; refine (low_any _ _ _ (by assumption) (by assumption)).mono ?_; rintro e w' ⟨rfl, rfl⟩)
      go_ret
      exact ⟨ret_int (by rw [extZ, if_neg (by omega)]), rfl⟩

set_option maxRecDepth 100000 in
set_option maxHeartbeats 1000000 in
theorem rextend_any (v n : Int) (s : Bool) (w : World) (hv : 0 ≤ v) (hv' : v < 18446744073709551616) :
    Calls Tryd.prog 71 #[.int .u64 v, .int .i64 n, .bool s] w fun e w' => e = .returned (.int .u64 (extZ v n s)) ∧ w = w' := by
  cases s
  · go_enter Tryd.func71, Tryd.ntmps71
    go_wp2_with (go_at_call 70; refine (rlow_any _ _ _ (by assumption) (by assumption)).mono ?_; rintro e w' ⟨rfl, rfl⟩)
    go_ret
    exact ⟨ret_int (by simp [extZ]), rfl⟩
  · by_cases h1 : 1 ≤ n
    · by_cases h2 : n ≤ 64
      · obtain ⟨m, rfl⟩ : ∃ m : Nat, n = m + 1 := ⟨(n - 1).toNat, by omega⟩
        have d1 : decide (1 ≤ (m : Int) + 1) = true := by simp; omega
        have d2 : decide ((m : Int) + 1 ≤ 64) = true := by simp; omega
        by_cases ht : (bits BinOp.and IntKind.u64 (v / 2 ^ m) 1 == 1) = true
        · have hfin := ext_yes hv hv' (by omega) ht
          have HF := Lib.hid hfin; clear hfin
          go_enter Tryd.func71, Tryd.ntmps71
          go_wp2_with (go_at_call 70; refine (rlow_any _ _ _ (by assumption) (by assumption)).mono ?_; rintro e w' ⟨rfl, rfl⟩)
          go_loop [7, 8] (fun x i => ∃ j : Nat, m + 1 ≤ j ∧ j ≤ 64 ∧ i = .int .i64 j ∧ x = .int .u64 (acc v (m + 1) j)) (fun _ i => (64 - intOf i).toNat)
          case atStart =>
            refine ⟨m + 1, Nat.le_refl _, by omega, by go_num, ?_⟩
            rw [acc_start, ← lowZ_nat _ (by omega)]
            rfl
          case round =>
            obtain ⟨j, hj, hj', rfl, rfl⟩ := hrel
            by_cases hlt : j < 64
            · go_wp2
              go_round
              case rel => exact ⟨j + 1, by omega, by omega, by go_num, by rw [acc_step hv hj hlt]⟩
              case measure => simp [intOf]; omega
            · obtain rfl : j = 64 := by omega
              go_wp2
              go_ret
              exact ⟨ret_int HF.out, rfl⟩
        · have ht' : (bits BinOp.and IntKind.u64 (v / 2 ^ m) 1 == 1) = false := by simpa using ht
          clear ht
          have hfin := ext_no hv hv' (by omega) ht'
          have HF := Lib.hid hfin; clear hfin
          go_enter Tryd.func71, Tryd.ntmps71
          go_wp2_with (go_at_call 70; refine (rlow_any _ _ _ (by assumption) (by assumption)).mono ?_; rintro e w' ⟨rfl, rfl⟩)
          go_ret
          exact ⟨ret_int HF.out, rfl⟩
      · have d1 : decide (1 ≤ n) = true := by simp; omega
        have d2 : decide (n ≤ 64) = false := by simp; omega
        go_enter Tryd.func71, Tryd.ntmps71
        go_wp2_with (go_at_call 70; refine (rlow_any _ _ _ (by assumption) (by assumption)).mono ?_; rintro e w' ⟨rfl, rfl⟩)
        go_ret
        exact ⟨ret_int (by rw [extZ, if_neg (by omega)]), rfl⟩
    · have d1 : decide (1 ≤ n) = false := by simp; omega
      go_enter Tryd.func71, Tryd.ntmps71
      go_wp2_with (go_at_call 70; refine (rlow_any _ _ _ (by assumption) (by assumption)).mono ?_; rintro e w' ⟨rfl, rfl⟩)
      go_ret
      exact ⟨ret_int (by rw [extZ, if_neg (by omega)]), rfl⟩

set_option maxRecDepth 100000 in
set_option maxHeartbeats 1000000 in
theorem fits_any (v n : Int) (s : Bool) (w : World) (hv : 0 ≤ v) (hv' : v < 18446744073709551616) :
    Calls Tryd.prog 28 #[.int .u64 v, .int .i64 n, .bool s] w fun e w' => e = .returned (.bool (fitsB v n s)) ∧ w = w' := by
  by_cases h1 : 1 ≤ n
  · have d1 : decide (1 ≤ n) = true := by simp; omega
    by_cases h2 : n ≤ 64
    · have d2 : decide (n ≤ 64) = true := by simp; omega
      go_enter Tryd.func28, Tryd.ntmps28
      go_wp2_with (go_at_call 51; refine (extend_any _ _ _ _ (by assumption) (by assumption)).mono ?_; rintro e w' ⟨rfl, rfl⟩)
      go_ret
      exact ⟨ret_bool (by simp [fitsB, h1, h2]), rfl⟩
    · have d2 : decide (n ≤ 64) = false := by simp; omega
      go_enter Tryd.func28, Tryd.ntmps28
      go_wp2_with (go_at_call 51; refine (extend_any _ _ _ _ (by assumption) (by assumption)).mono ?_; rintro e w' ⟨rfl, rfl⟩)
      go_ret
      exact ⟨ret_bool (fits_out (by omega)).symm, rfl⟩
  · have d1 : decide (1 ≤ n) = false := by simp; omega
    go_enter Tryd.func28, Tryd.ntmps28
    go_wp2_with (go_at_call 51; refine (extend_any _ _ _ _ (by assumption) (by assumption)).mono ?_; rintro e w' ⟨rfl, rfl⟩)
    go_ret
    exact ⟨ret_bool (fits_out (by omega)).symm, rfl⟩

end rawW
end Go.Proofs.YtllbpanfhlbbgaaDoor
