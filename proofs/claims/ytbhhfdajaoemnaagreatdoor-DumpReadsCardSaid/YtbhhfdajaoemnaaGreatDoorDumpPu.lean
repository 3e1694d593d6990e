/- strconv.ParseUint of digits to the base 16, of 32 and of 8 bits. Condition: as many digits as there is room for. -/
import Derived.Test.YtbhhfdajaoemnaaGreatDoorDumpTx
import Derived.Test.YtbhhfdajaoemnaaGreatDoorBase
import Derived.Test.YtbhhfdajaoemnaaGreatDoorProg
import Derived.WalkSpells
import Derived.WalkLawsBesides
import Derived.Laws.IdiomStrings
import Derived.Deep.MidRow
import Derived.Deep.QuietTactic
import Derived.BigQuiet
namespace Go.Proofs.YtbhhfdajaoemnaaGreatDoor
open Go.RowKit Go.Bus Go.Bus.hexK Go.Bus.dumpK Go.Bus.textK
set_option linter.unusedVariables false
set_option linter.unusedSimpArgs false
namespace dumpW
theorem or32 : ∀ c : Fin 256, 65 ≤ c.val → c.val ≤ 70 → bits BinOp.or IntKind.u8 ((c.val : Nat) : Int) 32 = ((c.val + 32 : Nat) : Int) := by decide +kernel
set_option maxRecDepth 100000 in
set_option maxHeartbeats 1000000 in
theorem lower_up (c : Nat) (h1 : 65 ≤ c) (h2 : c ≤ 70) (w : World) : Calls Tryz.prog 109 #[.int .u8 (c : Nat)] w fun e w' => e = .returned (.int .u8 ((c + 32 : Nat) : Int)) ∧ w = w' := by
  have h := or32 ⟨c, by omega⟩ h1 h2
  simp only at h
  have H := Lib.hid h
  clear h
  go_enter Tryz.func109, Tryz.ntmps109
  go_wp2
  go_ret
  exact ⟨by rw [← H.out]; rfl, rfl⟩
theorem isD16_cases {c : UInt8} (h : isD 16 c = true) : (48 ≤ c.toNat ∧ c.toNat ≤ 57 ∧ dv c = c.toNat - 48) ∨ (65 ≤ c.toNat ∧ c.toNat ≤ 70 ∧ dv c = c.toNat - 55) := by
  unfold isD dval at h
  unfold dv dval
  by_cases h1 : 48 ≤ c.toNat ∧ c.toNat ≤ 57
  · rw [if_pos h1]; exact .inl ⟨h1.1, h1.2, rfl⟩
  · rw [if_neg h1] at h ⊢
    by_cases h2 : 65 ≤ c.toNat ∧ c.toNat ≤ 70
    · rw [if_pos h2]; exact .inr ⟨h2.1, h2.2, rfl⟩
    · rw [if_neg h2] at h; cases h
set_option maxRecDepth 100000 in
set_option maxHeartbeats 4000000 in
theorem ipu32 (s : List UInt8) (hs : s ≠ []) (ha : allD 16 s = true) (hl : s.length ≤ 8) (w : World) : Calls Tryz.prog 74 #[.string ⟨s.toArray⟩, .int .i64 16, .int .i64 32] w fun e w' => e = .returned (.tuple #[.int .u64 (valN 16 s : Nat), .nilIface]) ∧ Below w.heap.size w w' := by
  have hne : ((⟨s.toArray⟩ : ByteArray).toList == []) = false := by
    rw [ByteArray.toList_mk]
    simpa using hs
  have hne2 : (s == []) = false := by simpa using hs
  have hmx : IntKind.u64.wrap (IntKind.u64.wrap 4294967296 - 1) = 4294967295 := by decide +kernel
  obtain ⟨cap, W1, hcv, hB1, hz1, hcl⟩ : ∃ (cap : Nat) (W1 : World), (convert 9 38 (.string ⟨s.toArray⟩)).run Tryz.prog w = .ok (.slice (some ⟨w.heap.size, 0, none⟩) s.length cap) W1 ∧ Below w.heap.size w W1 ∧ w.heap.size < W1.heap.size ∧ ∀ k (h : k < s.length), W1.cell? ⟨w.heap.size, k, none⟩ = some (.int .u8 ((s[k].toNat : Nat) : Int)) := by
    refine ⟨_, _, run_bytes_of_string w 9 38 5 ⟨s.toArray⟩ Tryz.underlying9 Tryz.underlying38 Tryz.underlying5, ((Below.refl _ _).drew).alloc (Nat.le_refl _) _, by simp, fun k hk => ?_⟩
    have h1 := bytesRow_at ⟨s.toArray⟩ (grownCap w (⟨s.toArray⟩ : ByteArray).size 0 5) k (by simpa using hk)
    exact (cell_of_row _ w.heap.size k _ 5 _ (heap_alloc_new w.drew _)).trans (h1.trans (by simp))
  have HB1 := Lib.hid hB1
  have HCL := Lib.hid hcl
  have HA := Lib.hid ha
  clear hs hB1 hcl ha
  go_enter Tryz.func74, Tryz.ntmps74
  go_wp2
  go_loop [12, 13, 101] (fun us n i => ∃ k v : Nat, us = .bool false ∧ n = .int .u64 (v : Nat) ∧ i = .int .i64 (k : Nat) ∧ k ≤ s.length ∧ Hid (v < 16 ^ k) ∧ Hid (v = valN 16 (s.take k))) (fun _ _ i => s.length - (intOf i).toNat)
  case atStart => exact ⟨0, 0, rfl, rfl, rfl, Nat.zero_le _, Lib.hid (by decide), Lib.hid rfl⟩
  case round =>
    obtain ⟨k, v, rfl, rfl, rfl, hk, HV, HE⟩ := hrel
    by_cases hlt : k < s.length
    · have hc := HCL.out k hlt
      have hD : isD 16 s[k] = true := List.all_eq_true.1 HA.out _ (List.getElem_mem hlt)
      have hcs := isD16_cases hD
      obtain ⟨c, hcE⟩ : ∃ c, c = (s[k]).toNat := ⟨_, rfl⟩
      have HN : Hid (valN 16 (s.take (k + 1)) = 16 * v + dv s[k]) := Lib.hid (by rw [List.take_succ_eq_append_getElem hlt, valN_snoc, HE.out])
      have hpow : 16 ^ (k + 1) ≤ 4294967296 := Nat.le_trans (Nat.pow_le_pow_right (by decide) (by omega : k + 1 ≤ 8)) (by decide)
      have hp1 : 16 ^ (k + 1) = 16 * 16 ^ k := by rw [Nat.pow_succ, Nat.mul_comm]
      have hv := HV.out
      have hdlt : dv s[k] < 16 := (isD_dv hD).1
      have HB' : Hid (16 * v + dv s[k] < 16 ^ (k + 1)) := Lib.hid (by omega)
      have hsum : 16 * v + dv s[k] < 4294967296 := Nat.lt_of_lt_of_le HB'.out hpow
      rw [← hcE] at hc hcs
      clear hcE hD hpow hp1 hv hdlt
      rcases hcs with ⟨h1, h2, h3⟩ | ⟨h1, h2, h3⟩
      · rw [h3] at hsum HN HB'
        have e95 : ((c : Int) == 95) = false := by simp; omega
        have dcut : decide ((1152921504606846976 : Int) ≤ (v : Int)) = false := by simp; omega
        have hm1 : (v : Int) * 16 + ((c : Int) - 48) ≤ 4294967295 := by omega
        have hm2 : (v : Int) * 16 ≤ 4294967295 := by omega
        clear h3
        go_wp2
        go_round
        case rel => exact ⟨k + 1, 16 * v + (c - 48), rfl, congrArg (Value.int .u64) (by push_cast; omega), by go_num, by omega, HB', Lib.hid HN.out.symm⟩
        case measure => simp [intOf]; omega
      · rw [h3] at hsum HN HB'
        have HLW := Lib.hid (fun (W : World) => lower_up c h1 h2 W)
        obtain ⟨L, hL⟩ : ∃ L, L = c + 32 := ⟨_, rfl⟩
        rw [← hL] at HLW
        have e95 : ((c : Int) == 95) = false := by simp; omega
        have dcut : decide ((1152921504606846976 : Int) ≤ (v : Int)) = false := by simp; omega
        have hm1 : (v : Int) * 16 + ((L : Int) - 87) ≤ 4294967295 := by omega
        have hm2 : (v : Int) * 16 ≤ 4294967295 := by omega
        have hL1 : 97 ≤ L := by omega
        have hL2 : L ≤ 102 := by omega
        have hc1 : c = L - 32 := by omega
        have HC1 := Lib.hid hc1
        clear h3 hL hc1
        go_wp2_with (go_at_call 109; refine (HLW.out _).mono ?_; rintro e w9 ⟨rfl, rfl⟩)
        go_round
        case rel => exact ⟨k + 1, 16 * v + (c - 55), rfl, congrArg (Value.int .u64) (by have := HC1.out; push_cast; omega), by go_num, by omega, HB', Lib.hid HN.out.symm⟩
        case measure => simp [intOf]; omega
    · obtain rfl : k = s.length := by omega
      have HN : Hid (v = valN 16 s) := Lib.hid (by rw [HE.out, List.take_of_length_le (Nat.le_refl _)])
      go_wp2
      go_ret2
      exact ⟨by rw [← HN.out]; rfl, HB1.out⟩
set_option maxRecDepth 100000 in
set_option maxHeartbeats 1000000 in
theorem pu32 (s : List UInt8) (hs : s ≠ []) (ha : allD 16 s = true) (hl : s.length ≤ 8) (w : World) : Calls Tryz.prog 39 #[.string ⟨s.toArray⟩, .int .i64 16, .int .i64 32] w fun e w' => e = .returned (.tuple #[.int .u64 (valN 16 s : Nat), .nilIface]) ∧ Below w.heap.size w w' := by
  have HI := Lib.hid (fun (W : World) => ipu32 s hs ha hl W)
  clear hs ha
  go_enter Tryz.func39, Tryz.ntmps39
  go_wp2_with fail
  refine (HI.out _).mono ?_
  rintro e w1 ⟨rfl, hb⟩
  have HB := Lib.hid hb
  clear hb
  go_wp2
  go_ret2
  exact ⟨rfl, HB.out⟩
set_option maxRecDepth 100000 in
set_option maxHeartbeats 4000000 in
theorem ipu8 (s : List UInt8) (hs : s ≠ []) (ha : allD 16 s = true) (hl : s.length ≤ 2) (w : World) : Calls Tryz.prog 74 #[.string ⟨s.toArray⟩, .int .i64 16, .int .i64 8] w fun e w' => e = .returned (.tuple #[.int .u64 (valN 16 s : Nat), .nilIface]) ∧ Below w.heap.size w w' := by
  have hne : ((⟨s.toArray⟩ : ByteArray).toList == []) = false := by
    rw [ByteArray.toList_mk]
    simpa using hs
  have hne2 : (s == []) = false := by simpa using hs
  have hmx : IntKind.u64.wrap (IntKind.u64.wrap 256 - 1) = 255 := by decide +kernel
  obtain ⟨cap, W1, hcv, hB1, hz1, hcl⟩ : ∃ (cap : Nat) (W1 : World), (convert 9 38 (.string ⟨s.toArray⟩)).run Tryz.prog w = .ok (.slice (some ⟨w.heap.size, 0, none⟩) s.length cap) W1 ∧ Below w.heap.size w W1 ∧ w.heap.size < W1.heap.size ∧ ∀ k (h : k < s.length), W1.cell? ⟨w.heap.size, k, none⟩ = some (.int .u8 ((s[k].toNat : Nat) : Int)) := by
    refine ⟨_, _, run_bytes_of_string w 9 38 5 ⟨s.toArray⟩ Tryz.underlying9 Tryz.underlying38 Tryz.underlying5, ((Below.refl _ _).drew).alloc (Nat.le_refl _) _, by simp, fun k hk => ?_⟩
    have h1 := bytesRow_at ⟨s.toArray⟩ (grownCap w (⟨s.toArray⟩ : ByteArray).size 0 5) k (by simpa using hk)
    exact (cell_of_row _ w.heap.size k _ 5 _ (heap_alloc_new w.drew _)).trans (h1.trans (by simp))
  have HB1 := Lib.hid hB1
  have HCL := Lib.hid hcl
  have HA := Lib.hid ha
  clear hs hB1 hcl ha
  go_enter Tryz.func74, Tryz.ntmps74
  go_wp2
  go_loop [12, 13, 101] (fun us n i => ∃ k v : Nat, us = .bool false ∧ n = .int .u64 (v : Nat) ∧ i = .int .i64 (k : Nat) ∧ k ≤ s.length ∧ Hid (v < 16 ^ k) ∧ Hid (v = valN 16 (s.take k))) (fun _ _ i => s.length - (intOf i).toNat)
  case atStart => exact ⟨0, 0, rfl, rfl, rfl, Nat.zero_le _, Lib.hid (by decide), Lib.hid rfl⟩
  case round =>
    obtain ⟨k, v, rfl, rfl, rfl, hk, HV, HE⟩ := hrel
    by_cases hlt : k < s.length
    · have hc := HCL.out k hlt
      have hD : isD 16 s[k] = true := List.all_eq_true.1 HA.out _ (List.getElem_mem hlt)
      have hcs := isD16_cases hD
      obtain ⟨c, hcE⟩ : ∃ c, c = (s[k]).toNat := ⟨_, rfl⟩
      have HN : Hid (valN 16 (s.take (k + 1)) = 16 * v + dv s[k]) := Lib.hid (by rw [List.take_succ_eq_append_getElem hlt, valN_snoc, HE.out])
      have hpow : 16 ^ (k + 1) ≤ 256 := Nat.le_trans (Nat.pow_le_pow_right (by decide) (by omega : k + 1 ≤ 2)) (by decide)
      have hp1 : 16 ^ (k + 1) = 16 * 16 ^ k := by rw [Nat.pow_succ, Nat.mul_comm]
      have hv := HV.out
      have hdlt : dv s[k] < 16 := (isD_dv hD).1
      have HB' : Hid (16 * v + dv s[k] < 16 ^ (k + 1)) := Lib.hid (by omega)
      have hsum : 16 * v + dv s[k] < 256 := Nat.lt_of_lt_of_le HB'.out hpow
      rw [← hcE] at hc hcs
      clear hcE hD hpow hp1 hv hdlt
      rcases hcs with ⟨h1, h2, h3⟩ | ⟨h1, h2, h3⟩
      · rw [h3] at hsum HN HB'
        have e95 : ((c : Int) == 95) = false := by simp; omega
        have dcut : decide ((1152921504606846976 : Int) ≤ (v : Int)) = false := by simp; omega
        have hm1 : (v : Int) * 16 + ((c : Int) - 48) ≤ 255 := by omega
        have hm2 : (v : Int) * 16 ≤ 255 := by omega
        clear h3
        go_wp2
        go_round
        case rel => exact ⟨k + 1, 16 * v + (c - 48), rfl, congrArg (Value.int .u64) (by push_cast; omega), by go_num, by omega, HB', Lib.hid HN.out.symm⟩
        case measure => simp [intOf]; omega
      · rw [h3] at hsum HN HB'
        have HLW := Lib.hid (fun (W : World) => lower_up c h1 h2 W)
        obtain ⟨L, hL⟩ : ∃ L, L = c + 32 := ⟨_, rfl⟩
        rw [← hL] at HLW
        have e95 : ((c : Int) == 95) = false := by simp; omega
        have dcut : decide ((1152921504606846976 : Int) ≤ (v : Int)) = false := by simp; omega
        have hm1 : (v : Int) * 16 + ((L : Int) - 87) ≤ 255 := by omega
        have hm2 : (v : Int) * 16 ≤ 255 := by omega
        have hL1 : 97 ≤ L := by omega
        have hL2 : L ≤ 102 := by omega
        have hc1 : c = L - 32 := by omega
        have HC1 := Lib.hid hc1
        clear h3 hL hc1
        go_wp2_with (go_at_call 109; refine (HLW.out _).mono ?_; rintro e w9 ⟨rfl, rfl⟩)
        go_round
        case rel => exact ⟨k + 1, 16 * v + (c - 55), rfl, congrArg (Value.int .u64) (by have := HC1.out; push_cast; omega), by go_num, by omega, HB', Lib.hid HN.out.symm⟩
        case measure => simp [intOf]; omega
    · obtain rfl : k = s.length := by omega
      have HN : Hid (v = valN 16 s) := Lib.hid (by rw [HE.out, List.take_of_length_le (Nat.le_refl _)])
      go_wp2
      go_ret2
      exact ⟨by rw [← HN.out]; rfl, HB1.out⟩
set_option maxRecDepth 100000 in
set_option maxHeartbeats 1000000 in
theorem pu8 (s : List UInt8) (hs : s ≠ []) (ha : allD 16 s = true) (hl : s.length ≤ 2) (w : World) : Calls Tryz.prog 39 #[.string ⟨s.toArray⟩, .int .i64 16, .int .i64 8] w fun e w' => e = .returned (.tuple #[.int .u64 (valN 16 s : Nat), .nilIface]) ∧ Below w.heap.size w w' := by
  have HI := Lib.hid (fun (W : World) => ipu8 s hs ha hl W)
  clear hs ha
  go_enter Tryz.func39, Tryz.ntmps39
  go_wp2_with fail
  refine (HI.out _).mono ?_
  rintro e w1 ⟨rfl, hb⟩
  have HB := Lib.hid hb
  clear hb
  go_wp2
  go_ret2
  exact ⟨rfl, HB.out⟩
end dumpW
end Go.Proofs.YtbhhfdajaoemnaaGreatDoor
