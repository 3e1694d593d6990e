/- busbarref27.number: the value of digits, where 64 bits hold it. Condition: the text's length. -/
import Derived.Test.YtbhhfdajaoemnaaGreatDoorDumpQa
namespace Go.Proofs.YtbhhfdajaoemnaaGreatDoor
open Go.RowKit Go.Bus Go.Bus.dumpK Go.Bus.textK
set_option linter.unusedVariables false
set_option linter.unusedSimpArgs false
namespace dumpW
def NumP (b : Nat) (S : List UInt8) (e : Ending) : Prop := (valN b S < 18446744073709551616 ∧ e = .returned (.tuple #[.int .u64 (valN b S : Nat), .bool true])) ∨ (18446744073709551616 ≤ valN b S ∧ e = .returned (.tuple #[.int .u64 0, .bool false]))
theorem over_test {b v d : Nat} (hb : 0 < b) (hd : d < b) (hb16 : b ≤ 16) : (18446744073709551615 - d) / b < v ↔ 18446744073709551616 ≤ b * v + d := by
  rw [Nat.div_lt_iff_lt_mul hb, Nat.mul_comm v b]
  omega
set_option maxRecDepth 100000 in
set_option maxHeartbeats 2000000 in
theorem number_any' (S : List UInt8) (hl : S.length ≤ 16777216) (b : Nat) (hb2 : 2 ≤ b) (hb16 : b ≤ 16) (hD : allD b S = true) (w : World) : Calls Tryz.prog 34 #[.string ⟨S.toArray⟩, .int .u64 (b : Nat)] w fun e w' => NumP b S e ∧ w = w' := by
  have HD := Lib.hid hD
  clear hD
  go_enter Tryz.func34, Tryz.ntmps34
  go_wp2
  go_loop [6, 7] (fun vv iv => ∃ v i : Nat, vv = .int .u64 (v : Nat) ∧ iv = .int .i64 (i : Nat) ∧ i ≤ S.length ∧ Hid (valN b (S.take i) = v) ∧ Hid (v < 18446744073709551616)) (fun _ iv => S.length - (intOf iv).toNat)
  case atStart => exact ⟨0, 0, rfl, rfl, Nat.zero_le _, Lib.hid rfl, Lib.hid (by decide)⟩
  case round =>
    obtain ⟨v, i, rfl, rfl, hi, HV, HL⟩ := hrel
    by_cases hlt : i < S.length
    · obtain ⟨c, hcE⟩ : ∃ c, c = S[i]'hlt := ⟨_, rfl⟩
      have hcE2 : (⟨S.toArray⟩ : ByteArray)[i]'(by show i < S.toArray.size; simpa using hlt) = c := hcE.symm
      have hisd : isD b c = true := by
        have h := HD.out
        unfold allD at h
        rw [List.all_eq_true] at h
        rw [hcE]; exact h _ (List.getElem_mem hlt)
      obtain ⟨h1, h2⟩ := dgI_isD c hisd
      have HDG : Hid (∀ W, Calls Tryz.prog 37 #[.int .u8 (c.toNat : Nat)] W fun e w' => e = .returned (.int .i64 (dv c : Nat)) ∧ W = w') := Lib.hid (fun W => by rw [← h1]; exact digit_any c W)
      have HNX : Hid (valN b (S.take (i + 1)) = b * v + dv c) := Lib.hid (by rw [valN_next hlt, HV.out, ← hcE])
      have HTOP : Hid (18446744073709551616 ≤ b * v + dv c → 18446744073709551616 ≤ valN b S) := Lib.hid (fun h => by
        have := valN_mono (b := b) (by omega) (S := S) (i + 1)
        rw [HNX.out] at this
        omega)
      obtain ⟨d, hdd⟩ : ∃ d, d = dv c := ⟨_, rfl⟩
      rw [← hdd] at HDG h2 HNX HTOP
      clear hisd h1 hdd hcE
      have HT := Lib.hid (over_test (v := v) (b := b) (d := d) (by omega) h2 hb16)
      obtain ⟨X, hX⟩ : ∃ X : Nat, X = 18446744073709551615 - d := ⟨_, rfl⟩
      have hsub : IntKind.u64.wrap (18446744073709551615 - (d : Int)) = (X : Int) := by rw [IntKind.wrap_u64, hX]; omega
      rw [← hX] at HT
      obtain ⟨Q, hQ⟩ : ∃ Q : Nat, Q = X / b := ⟨_, rfl⟩
      rw [← hQ] at HT
      have hX64 : X < 18446744073709551616 := by rw [hX]; omega
      have hquo : IntKind.u64.wrap ((X : Int) / (b : Int)) = (Q : Int) := by
        have h3 : X / b ≤ X := Nat.div_le_self _ _
        rw [IntKind.wrap_u64, ← Int.natCast_ediv, ← hQ]; omega
      clear hX hQ hX64
      by_cases hover : Q < v
      · have HO := Lib.hid (HTOP.out (HT.out.1 hover))
        have dq : decide ((Q : Int) < (v : Int)) = true := by simp; omega
        have dqn : decide (Q < v) = true := decide_eq_true hover
        clear hover
        go_wp2_with (go_at_call 37; refine (HDG.out _).mono ?_; rintro e w1 ⟨rfl, rfl⟩)
        go_ret2
        exact ⟨.inr ⟨HO.out, rfl⟩, rfl⟩
      · have HIN : Hid (b * v + d < 18446744073709551616) := Lib.hid (by
          have h4 : ¬ 18446744073709551616 ≤ b * v + d := fun h => hover (HT.out.2 h)
          omega)
        have dq : decide ((Q : Int) < (v : Int)) = false := by simp; omega
        have dqn : decide (Q < v) = false := decide_eq_false hover
        obtain ⟨P, hP⟩ : ∃ P : Nat, P = b * v := ⟨_, rfl⟩
        rw [← hP] at HIN HNX
        obtain ⟨R, hR⟩ : ∃ R : Nat, R = P + d := ⟨_, rfl⟩
        have hmul : IntKind.u64.wrap ((v : Int) * (b : Int)) = (P : Int) := by
          have h5 := HIN.out
          have h6 : (v : Int) * (b : Int) = (P : Int) := by rw [hP, Int.natCast_mul]; exact Int.mul_comm _ _
          rw [h6, IntKind.wrap_u64]; omega
        have hadd : IntKind.u64.wrap ((P : Int) + (d : Int)) = (R : Int) := by
          have h5 := HIN.out
          rw [IntKind.wrap_u64, hR]; omega
        rw [← hR] at HIN HNX
        clear hover hP hR
        go_wp2_with (go_at_call 37; refine (HDG.out _).mono ?_; rintro e w1 ⟨rfl, rfl⟩)
        go_roundw
        case rel => exact ⟨R, i + 1, rfl, by go_num, by omega, HNX, HIN⟩
        case measure => simp [intOf]; omega
    · obtain rfl : i = S.length := by omega
      have HV2 : Hid (valN b S = v) := Lib.hid (by have := HV.out; rwa [List.take_of_length_le (Nat.le_refl _)] at this)
      go_wp2
      go_ret2
      exact ⟨.inl ⟨by rw [HV2.out]; exact HL.out, by rw [HV2.out]; rfl⟩, rfl⟩
end dumpW
end Go.Proofs.YtbhhfdajaoemnaaGreatDoor
