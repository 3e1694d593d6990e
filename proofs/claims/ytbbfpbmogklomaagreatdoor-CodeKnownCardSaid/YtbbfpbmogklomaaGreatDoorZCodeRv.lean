/- The document's value: what digits to a base say, in 64 bits. Condition: the text's length. -/
import Derived.Test.YtbbfpbmogklomaaGreatDoorZCodeRx
import Derived.WalkSpells
namespace Go.Bus.codeK
set_option linter.unusedVariables false
def dgv (c : Nat) : Nat := if 97 ≤ c then c - 97 + 10 else (c + 208) % 256
def valG (base : Nat) : List UInt8 → Nat → Nat
  | [], v => v
  | c :: r, v => valG base r ((base * v + dgv c.toNat) % 18446744073709551616)
end Go.Bus.codeK
namespace Go.Proofs.YtbbfpbmogklomaaGreatDoor
open Go.RowKit Go.Bus Go.Bus.cellK Go.Bus.codeK Go.Bus.hexK
set_option linter.unusedVariables false
set_option linter.unusedSimpArgs false
namespace codeW
theorem sub48 : ∀ c : Fin 256, IntKind.u8.wrap ((c.val : Int) - 48) = (((c.val + 208) % 256 : Nat) : Int) := by decide +kernel
set_option maxRecDepth 100000 in
theorem wrap_step (b v d : Nat) : IntKind.u64.wrap (IntKind.u64.wrap ((b : Int) * (v : Int)) + (d : Int)) = (((b * v + d) % 18446744073709551616 : Nat) : Int) := by
  rw [IntKind.wrap_u64, IntKind.wrap_u64, Int.emod_add_emod, Int.natCast_emod, Int.natCast_add, Int.natCast_mul]
  rfl
theorem vstep {b n d : Nat} {X : Int} (h : X = (d : Int)) : Value.int .u64 (IntKind.u64.wrap (IntKind.u64.wrap ((b : Int) * (n : Int)) + X)) = .int .u64 (((b * n + d) % 18446744073709551616 : Nat) : Int) := by rw [h, wrap_step]
set_option maxRecDepth 100000 in
set_option maxHeartbeats 1000000 in
theorem value_any (b : Nat) (hb : b = 10 ∨ b = 16) (S : List UInt8) (hl : S.length ≤ 4194304) (w : World) : Calls Tryz.prog 111 #[.string ⟨S.toArray⟩, .int .u64 (b : Nat)] w fun e w' => e = .returned (.int .u64 (valG b S 0 : Nat)) ∧ w = w' := by
  have HBB := Lib.hid hb
  clear hb
  go_enter Tryz.func111, Tryz.ntmps111
  go_wp2
  go_loop [5, 6] (fun v i => ∃ k n : Nat, v = .int .u64 (n : Nat) ∧ i = .int .i64 (k : Nat) ∧ k ≤ S.length ∧ Hid (valG b S 0 = valG b (S.drop k) n)) (fun _ i => S.length - (intOf i).toNat)
  case atStart => exact ⟨0, 0, rfl, rfl, Nat.zero_le _, Lib.hid rfl⟩
  case round =>
    obtain ⟨k, n, rfl, rfl, hk, HE⟩ := hrel
    by_cases hlt : k < S.length
    · obtain ⟨c, hcE⟩ : ∃ c : Nat, ((S[k]'hlt).toNat : Int) = c := ⟨_, rfl⟩
      have hc256 : c < 256 := by have := UInt8.toNat_lt (S[k]'hlt); omega
      have hcE2 : (((⟨S.toArray⟩ : ByteArray)[k]'(by show k < S.toArray.size; simpa using hlt)).toNat : Int) = c := hcE
      have h48 := sub48 ⟨c, hc256⟩
      simp only at h48
      have HN : Hid (valG b S 0 = valG b (S.drop (k + 1)) ((b * n + dgv c) % 18446744073709551616)) := Lib.hid (by
        rw [HE.out, List.drop_eq_getElem_cons hlt]
        have : (S[k]'hlt).toNat = c := by omega
        simp only [valG, this])
      by_cases h97 : 97 ≤ c
      · have hD : dgv c = c - 97 + 10 := by unfold dgv; rw [if_pos h97]
        go_wp2
        go_round
        case rel => exact ⟨k + 1, (b * n + dgv c) % 18446744073709551616, vstep (d := dgv c) (by rw [hD]; omega), by go_num, by omega, HN⟩
        case measure => simp [intOf]; omega
      · have hD : dgv c = (c + 208) % 256 := by unfold dgv; rw [if_neg h97]
        have h97' : c < 97 := by omega
        go_wp2
        go_round
        case rel => exact ⟨k + 1, (b * n + dgv c) % 18446744073709551616, vstep (d := dgv c) (by rw [hD]; omega), by go_num, by omega, HN⟩
        case measure => simp [intOf]; omega
    · obtain rfl : k = S.length := by omega
      have HN : Hid (valG b S 0 = n) := Lib.hid (by rw [HE.out, List.drop_length]; rfl)
      go_wp2
      go_ret
      exact ⟨by rw [HN.out]; rfl, rfl⟩
theorem extract_drop (S : List UInt8) (n : Nat) : (⟨S.toArray⟩ : ByteArray).extract n S.length = ⟨(S.drop n).toArray⟩ := by
  apply ByteArray.ext
  simp [List.take_of_length_le]
set_option maxRecDepth 100000 in
set_option maxHeartbeats 1000000 in
theorem tail_any (n : Nat) (S : List UInt8) (hl : S.length ≤ 4194304) (hn : n ≤ 2) (w : World) : Calls Tryz.prog 112 #[.string ⟨S.toArray⟩, .int .i64 (n : Nat)] w fun e w' => e = .returned (.string ⟨(S.drop n).toArray⟩) ∧ w = w' := by
  obtain ⟨R, hR⟩ : ∃ R : ByteArray, R = ⟨(S.drop n).toArray⟩ := ⟨_, rfl⟩
  have HR := Lib.hid hR
  rw [← hR]
  clear hR
  go_enter Tryz.func112, Tryz.ntmps112
  go_wp2
  case inl =>
    go_ret
    exact ⟨by rw [HR.out, List.drop_eq_nil_of_le (Nat.le_of_lt h)]; rfl, rfl⟩
  case inr =>
    go_ret
    exact ⟨by rw [HR.out, ← extract_drop]; rfl, rfl⟩
end codeW
end Go.Proofs.YtbbfpbmogklomaaGreatDoor
