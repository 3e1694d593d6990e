/- busbarkit.Num of an Errno: its number. -/
import Derived.Test.YtomkgnlooheibaaIs
import Derived.Test.YtomkgnlooheibaaBase
namespace Go.Proofs.Ytomkgnlooheibaa
open Go.RowKit Go.Bus
set_option linter.unusedVariables false
namespace isK
set_option maxRecDepth 100000 in
set_option maxHeartbeats 1000000 in
theorem num_no (a : Int) (w : World) (h1 : 1 ≤ a) (h2 : a ≤ 26) :
    Calls Try.prog 9 #[.iface 70 (.int .i64 a)] w fun e w' => e = .returned (.int .i64 a) ∧ w = w' := by
  go_enter Try.func9, Try.ntmps9
  go_wp2
  go_loopw [3, 4] (fun o i wr => ∃ k : Nat, 1 ≤ k ∧ k ≤ 27 ∧ i = .int .i64 k ∧ o = .int .i64 (if a < (k : Int) then a else 0) ∧ wr = w) (fun _ i _ => 27 - (intOf i).toNat)
  case atStart => exact ⟨1, by omega, by omega, rfl, by rw [if_neg (by omega)], rfl⟩
  case round =>
    obtain ⟨k, hk, hk', rfl, rfl, rfl⟩ := hrel
    by_cases hlt : k < 27
    · by_cases he : a = (k : Int)
      · subst he
        rw [if_neg (by omega)]
        go_wp2_with fail
        refine (is_no _ _ _).mono ?_
        rintro e w1 ⟨rfl, rfl⟩
        rw [show (((k : Nat) : Int) == (k : Int)) = true from by simp]
        go_wp2
        go_roundw
        case rel => exact ⟨k + 1, by omega, by omega, by go_num, by rw [if_pos (by omega)], by first | rfl | trivial⟩
        case measure => first | (simp [intOf]; done) | (simp [intOf]; omega)
      · have d0 : (a == (k : Int)) = false := by simp [he]
        have HE : Hid ((if a < ((k + 1 : Nat) : Int) then a else 0) = (if a < (k : Int) then a else 0)) := by
          unfold Hid
          by_cases hl : a < (k : Int)
          · rw [if_pos hl, if_pos (by omega)]
          · rw [if_neg hl, if_neg (by omega)]
        obtain ⟨o, ho⟩ : ∃ o, o = (if a < (k : Int) then a else 0) := ⟨_, rfl⟩
        rw [← ho] at HE
        rw [← ho]
        clear he ho
        go_wp2_with fail
        refine (is_no _ _ _).mono ?_
        rintro e w1 ⟨rfl, rfl⟩
        rw [d0]
        clear d0
        go_wp2
        go_roundw
        case rel => exact ⟨k + 1, by omega, by omega, by go_num, by rw [HE.out], by first | rfl | trivial⟩
        case measure => first | (simp [intOf]; done) | (simp [intOf]; omega)
    · obtain rfl : k = 27 := by omega
      rw [if_pos (by omega)]
      have d1 : (a == 0) = false := by simp; omega
      go_wp2_with fail
      refine (is_no _ _ _).mono ?_
      rintro e w1 ⟨rfl, rfl⟩
      go_wp2
      go_ret
      exact ⟨rfl, rfl⟩
end isK
end Go.Proofs.Ytomkgnlooheibaa
