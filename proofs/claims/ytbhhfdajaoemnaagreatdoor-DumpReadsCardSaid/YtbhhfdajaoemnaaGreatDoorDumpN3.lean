/- The document's Name (chapter 3). Condition: the text's length. -/
import Derived.Test.YtbhhfdajaoemnaaGreatDoorDumpNm
namespace Go.Proofs.YtbhhfdajaoemnaaGreatDoor
open Go.RowKit Go.Bus Go.Bus.dumpK Go.Bus.textK
set_option linter.unusedVariables false
set_option linter.unusedSimpArgs false
namespace dumpW
set_option maxRecDepth 100000 in
set_option maxHeartbeats 8000000 in
theorem rname_any (S : List UInt8) (hl : S.length ≤ 140737488355328) (w : World) : Calls Tryz.prog 35 #[.string ⟨S.toArray⟩] w fun e w' => e = .returned (.bool (nameB S)) ∧ w = w' := by
  by_cases h0 : S.length < 1
  · have hS : S = [] := List.eq_nil_of_length_eq_zero (by omega)
    subst hS
    go_enter Tryz.func35, Tryz.ntmps35
    go_wp2
    go_ret
    exact ⟨rfl, rfl⟩
  · have g1 : decide ((S.length : Int) < 1) = false := by simp; omega
    have g1n : decide (S.length < 1) = false := decide_eq_false h0
    have g1m : (S.length == 0) = false := by rw [beq_eq_false_iff_ne]; omega
    have hne : S ≠ [] := fun e => h0 (by rw [e]; decide)
    have he : S.isEmpty = false := by cases S with
      | nil => exact absurd rfl hne
      | cons x r => rfl
    by_cases h64 : 64 < S.length
    · have HN : Hid (nameB S = false) := Lib.hid (by rw [nameB_pre]; simp; omega)
      have g2 : decide ((64 : Int) < (S.length : Int)) = true := by simp; omega
      have g2n : decide (64 < S.length) = true := by simp; omega
      clear hne he
      go_enter Tryz.func35, Tryz.ntmps35
      go_wp2
      go_ret
      exact ⟨by rw [HN.out]; rfl, rfl⟩
    · have g2 : decide ((64 : Int) < (S.length : Int)) = false := by simp; omega
      have g2n : decide (64 < S.length) = false := by simp; omega
      have HFIN : Hid (preB S = true → nameB S = true) := Lib.hid (fun h => by rw [nameB_pre, he, h]; simp; omega)
      clear hne he
      go_enter Tryz.func35, Tryz.ntmps35
      go_wp2
      go_loop [3] (fun iv => ∃ i : Nat, iv = .int .i64 (i : Nat) ∧ i ≤ S.length ∧ Hid (preB (S.take i) = true)) (fun iv => S.length - (intOf iv).toNat)
      case atStart => exact ⟨0, rfl, Nat.zero_le _, Lib.hid rfl⟩
      case round =>
        obtain ⟨i, rfl, hi, HP⟩ := hrel
        by_cases hlt : i < S.length
        · obtain ⟨c, hcE⟩ : ∃ c : Nat, ((S[i]'hlt).toNat : Int) = c := ⟨_, rfl⟩
          have hcE2 : (((⟨S.toArray⟩ : ByteArray)[i]'(by show i < S.toArray.size; simpa using hlt)).toNat : Int) = c := hcE
          have hcS : (S[i]'hlt).toNat = c := by omega
          have hc256 : c < 256 := by have := UInt8.toNat_lt (S[i]'hlt); omega
          have hLB : letB (S[i]'hlt) = letN c := by rw [letB_letN, hcS]
          have hDB : isDig (S[i]'hlt) = (decide (48 ≤ c) && decide (c ≤ 57)) := by unfold isDig; rw [hcS]
          have HBAD : Hid (letN c = false → (i = 0 ∨ c < 48 ∨ 57 < c) → nameB S = false) := Lib.hid (fun h1 h2 => name_bad HP.out hlt (hLB.trans h1) (by
            rcases h2 with h2 | h2 | h2
            · exact .inl h2
            · exact .inr (by rw [hDB]; simp; omega)
            · exact .inr (by rw [hDB]; simp; omega)))
          have HGOOD : Hid (letN c = true ∨ (i ≠ 0 ∧ 48 ≤ c ∧ c ≤ 57) → preB (S.take (i + 1)) = true) := Lib.hid (fun h => name_step HP.out hlt (by
            rcases h with h | ⟨h1, h2, h3⟩
            · exact .inl (hLB.trans h)
            · exact .inr ⟨h1, by rw [hDB]; simp [h2, h3]⟩))
          clear hLB hDB hcS
          have hr : c < 48 ∨ (48 ≤ c ∧ c ≤ 57) ∨ (58 ≤ c ∧ c ≤ 64) ∨ (65 ≤ c ∧ c ≤ 90) ∨ (91 ≤ c ∧ c ≤ 94) ∨ c = 95 ∨ c = 96 ∨ (97 ≤ c ∧ c ≤ 122) ∨ 122 < c := by omega
          rcases hr with hr | hr | hr | hr | hr | hr | hr | hr | hr
          · have q0 : decide ((97 : Int) ≤ (c : Int)) = false := by simp; omega
            have q1 : decide ((c : Int) ≤ 122) = true := by simp; omega
            have q2 : decide ((65 : Int) ≤ (c : Int)) = false := by simp; omega
            have q3 : decide ((c : Int) ≤ 90) = true := by simp; omega
            have q4 : decide ((c : Int) < 48) = true := by simp; omega
            have q5 : decide ((57 : Int) < (c : Int)) = false := by simp; omega
            have q6 : ((c : Int) == 95) = false := by simp; omega
            have hln : letN c = false := by simp [letN]; omega
            by_cases hi0 : i = 0
            · have HN : Hid (nameB S = false) := Lib.hid (HBAD.out hln (.inl hi0))
              have e0 : ((i : Int) == 0) = true := by simp; omega
              clear hr hcE hln hi0
              go_wp2
              go_ret
              exact ⟨by rw [HN.out]; rfl, rfl⟩
            · have HN : Hid (nameB S = false) := Lib.hid (HBAD.out hln (.inr (by omega)))
              have e0 : ((i : Int) == 0) = false := by simp; omega
              clear hr hcE hln hi0
              go_wp2
              go_ret
              exact ⟨by rw [HN.out]; rfl, rfl⟩
          · have q0 : decide ((97 : Int) ≤ (c : Int)) = false := by simp; omega
            have q1 : decide ((c : Int) ≤ 122) = true := by simp; omega
            have q2 : decide ((65 : Int) ≤ (c : Int)) = false := by simp; omega
            have q3 : decide ((c : Int) ≤ 90) = true := by simp; omega
            have q4 : decide ((c : Int) < 48) = false := by simp; omega
            have q5 : decide ((57 : Int) < (c : Int)) = false := by simp; omega
            have q6 : ((c : Int) == 95) = false := by simp; omega
            have hln : letN c = false := by simp [letN]; omega
            by_cases hi0 : i = 0
            · have HN : Hid (nameB S = false) := Lib.hid (HBAD.out hln (.inl hi0))
              have e0 : ((i : Int) == 0) = true := by simp; omega
              clear hr hcE hln hi0
              go_wp2
              go_ret
              exact ⟨by rw [HN.out]; rfl, rfl⟩
            · have HN : Hid (preB (S.take (i + 1)) = true) := Lib.hid (HGOOD.out (.inr ⟨hi0, hr⟩))
              have e0 : ((i : Int) == 0) = false := by simp; omega
              clear hr hcE hln hi0
              go_wp2
              go_round
              case rel => exact ⟨i + 1, by go_num, by omega, HN⟩
              case measure => simp [intOf]; omega
          · have q0 : decide ((97 : Int) ≤ (c : Int)) = false := by simp; omega
            have q1 : decide ((c : Int) ≤ 122) = true := by simp; omega
            have q2 : decide ((65 : Int) ≤ (c : Int)) = false := by simp; omega
            have q3 : decide ((c : Int) ≤ 90) = true := by simp; omega
            have q4 : decide ((c : Int) < 48) = false := by simp; omega
            have q5 : decide ((57 : Int) < (c : Int)) = true := by simp; omega
            have q6 : ((c : Int) == 95) = false := by simp; omega
            have hln : letN c = false := by simp [letN]; omega
            by_cases hi0 : i = 0
            · have HN : Hid (nameB S = false) := Lib.hid (HBAD.out hln (.inl hi0))
              have e0 : ((i : Int) == 0) = true := by simp; omega
              clear hr hcE hln hi0
              go_wp2
              go_ret
              exact ⟨by rw [HN.out]; rfl, rfl⟩
            · have HN : Hid (nameB S = false) := Lib.hid (HBAD.out hln (.inr (by omega)))
              have e0 : ((i : Int) == 0) = false := by simp; omega
              clear hr hcE hln hi0
              go_wp2
              go_ret
              exact ⟨by rw [HN.out]; rfl, rfl⟩
          · have q0 : decide ((97 : Int) ≤ (c : Int)) = false := by simp; omega
            have q1 : decide ((c : Int) ≤ 122) = true := by simp; omega
            have q2 : decide ((65 : Int) ≤ (c : Int)) = true := by simp; omega
            have q3 : decide ((c : Int) ≤ 90) = true := by simp; omega
            have q4 : decide ((c : Int) < 48) = false := by simp; omega
            have q5 : decide ((57 : Int) < (c : Int)) = true := by simp; omega
            have q6 : ((c : Int) == 95) = false := by simp; omega
            have HN : Hid (preB (S.take (i + 1)) = true) := Lib.hid (HGOOD.out (.inl (by simp [letN]; omega)))
            clear hr hcE
            go_wp2
            go_round
            case rel => exact ⟨i + 1, by go_num, by omega, HN⟩
            case measure => simp [intOf]; omega
          · have q0 : decide ((97 : Int) ≤ (c : Int)) = false := by simp; omega
            have q1 : decide ((c : Int) ≤ 122) = true := by simp; omega
            have q2 : decide ((65 : Int) ≤ (c : Int)) = true := by simp; omega
            have q3 : decide ((c : Int) ≤ 90) = false := by simp; omega
            have q4 : decide ((c : Int) < 48) = false := by simp; omega
            have q5 : decide ((57 : Int) < (c : Int)) = true := by simp; omega
            have q6 : ((c : Int) == 95) = false := by simp; omega
            have hln : letN c = false := by simp [letN]; omega
            by_cases hi0 : i = 0
            · have HN : Hid (nameB S = false) := Lib.hid (HBAD.out hln (.inl hi0))
              have e0 : ((i : Int) == 0) = true := by simp; omega
              clear hr hcE hln hi0
              go_wp2
              go_ret
              exact ⟨by rw [HN.out]; rfl, rfl⟩
            · have HN : Hid (nameB S = false) := Lib.hid (HBAD.out hln (.inr (by omega)))
              have e0 : ((i : Int) == 0) = false := by simp; omega
              clear hr hcE hln hi0
              go_wp2
              go_ret
              exact ⟨by rw [HN.out]; rfl, rfl⟩
          · have q0 : decide ((97 : Int) ≤ (c : Int)) = false := by simp; omega
            have q1 : decide ((c : Int) ≤ 122) = true := by simp; omega
            have q2 : decide ((65 : Int) ≤ (c : Int)) = true := by simp; omega
            have q3 : decide ((c : Int) ≤ 90) = false := by simp; omega
            have q4 : decide ((c : Int) < 48) = false := by simp; omega
            have q5 : decide ((57 : Int) < (c : Int)) = true := by simp; omega
            have q6 : ((c : Int) == 95) = true := by simp; omega
            have HN : Hid (preB (S.take (i + 1)) = true) := Lib.hid (HGOOD.out (.inl (by simp [letN]; omega)))
            clear hr hcE
            go_wp2
            go_round
            case rel => exact ⟨i + 1, by go_num, by omega, HN⟩
            case measure => simp [intOf]; omega
          · have q0 : decide ((97 : Int) ≤ (c : Int)) = false := by simp; omega
            have q1 : decide ((c : Int) ≤ 122) = true := by simp; omega
            have q2 : decide ((65 : Int) ≤ (c : Int)) = true := by simp; omega
            have q3 : decide ((c : Int) ≤ 90) = false := by simp; omega
            have q4 : decide ((c : Int) < 48) = false := by simp; omega
            have q5 : decide ((57 : Int) < (c : Int)) = true := by simp; omega
            have q6 : ((c : Int) == 95) = false := by simp; omega
            have hln : letN c = false := by simp [letN]; omega
            by_cases hi0 : i = 0
            · have HN : Hid (nameB S = false) := Lib.hid (HBAD.out hln (.inl hi0))
              have e0 : ((i : Int) == 0) = true := by simp; omega
              clear hr hcE hln hi0
              go_wp2
              go_ret
              exact ⟨by rw [HN.out]; rfl, rfl⟩
            · have HN : Hid (nameB S = false) := Lib.hid (HBAD.out hln (.inr (by omega)))
              have e0 : ((i : Int) == 0) = false := by simp; omega
              clear hr hcE hln hi0
              go_wp2
              go_ret
              exact ⟨by rw [HN.out]; rfl, rfl⟩
          · have q0 : decide ((97 : Int) ≤ (c : Int)) = true := by simp; omega
            have q1 : decide ((c : Int) ≤ 122) = true := by simp; omega
            have q2 : decide ((65 : Int) ≤ (c : Int)) = true := by simp; omega
            have q3 : decide ((c : Int) ≤ 90) = false := by simp; omega
            have q4 : decide ((c : Int) < 48) = false := by simp; omega
            have q5 : decide ((57 : Int) < (c : Int)) = true := by simp; omega
            have q6 : ((c : Int) == 95) = false := by simp; omega
            have HN : Hid (preB (S.take (i + 1)) = true) := Lib.hid (HGOOD.out (.inl (by simp [letN]; omega)))
            clear hr hcE
            go_wp2
            go_round
            case rel => exact ⟨i + 1, by go_num, by omega, HN⟩
            case measure => simp [intOf]; omega
          · have q0 : decide ((97 : Int) ≤ (c : Int)) = true := by simp; omega
            have q1 : decide ((c : Int) ≤ 122) = false := by simp; omega
            have q2 : decide ((65 : Int) ≤ (c : Int)) = true := by simp; omega
            have q3 : decide ((c : Int) ≤ 90) = false := by simp; omega
            have q4 : decide ((c : Int) < 48) = false := by simp; omega
            have q5 : decide ((57 : Int) < (c : Int)) = true := by simp; omega
            have q6 : ((c : Int) == 95) = false := by simp; omega
            have hln : letN c = false := by simp [letN]; omega
            by_cases hi0 : i = 0
            · have HN : Hid (nameB S = false) := Lib.hid (HBAD.out hln (.inl hi0))
              have e0 : ((i : Int) == 0) = true := by simp; omega
              clear hr hcE hln hi0
              go_wp2
              go_ret
              exact ⟨by rw [HN.out]; rfl, rfl⟩
            · have HN : Hid (nameB S = false) := Lib.hid (HBAD.out hln (.inr (by omega)))
              have e0 : ((i : Int) == 0) = false := by simp; omega
              clear hr hcE hln hi0
              go_wp2
              go_ret
              exact ⟨by rw [HN.out]; rfl, rfl⟩
        · obtain rfl : i = S.length := by omega
          have HN : Hid (nameB S = true) := Lib.hid (HFIN.out (by have := HP.out; rw [List.take_of_length_le (Nat.le_refl _)] at this; exact this))
          go_wp2
          go_ret
          exact ⟨by rw [HN.out]; rfl, rfl⟩
end dumpW
end Go.Proofs.YtbhhfdajaoemnaaGreatDoor
