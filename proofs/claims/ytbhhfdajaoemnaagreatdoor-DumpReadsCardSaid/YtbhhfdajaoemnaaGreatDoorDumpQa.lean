/- busbarref27's digit, all, upTo, number; busbarlaw27's lines. Conditions: the text's length. -/
import Derived.Test.YtbhhfdajaoemnaaGreatDoorDumpLaw
import Derived.Test.YtbhhfdajaoemnaaGreatDoorDumpTx
import Derived.Test.YtbhhfdajaoemnaaGreatDoorBase
import Derived.Test.YtbhhfdajaoemnaaGreatDoorProg
import Derived.Test.YtbhhfdajaoemnaaGreatDoorInfo
import Derived.Deep.QuietTactic
import Derived.Laws.DeepStrings4
import Derived.Laws.Strings3
import Derived.StillTailTactics
import Derived.Outline
namespace Go.Bus.dumpK
open Go.Bus.textK Go.Lib
set_option linter.unusedVariables false
/-- A digit's value; -1: none. -/
def dgI (c : UInt8) : Int := match dval c with
  | some d => (d : Nat)
  | none => -1
theorem dgI_isD {b : Nat} (c : UInt8) (h : isD b c = true) : dgI c = (dv c : Nat) ∧ dv c < b := by
  unfold isD at h
  unfold dgI dv
  cases hd : dval c with
  | none => rw [hd] at h; cases h
  | some d => rw [hd] at h; exact ⟨rfl, of_decide_eq_true h⟩
theorem dgI_not {b : Nat} (c : UInt8) (h : isD b c = false) : dgI c < 0 ∨ (b : Int) ≤ dgI c := by
  unfold isD at h
  unfold dgI
  cases hd : dval c with
  | none => left; decide
  | some d => rw [hd] at h; right; have := of_decide_eq_false h; simp only; omega
theorem dgI_low (c : UInt8) : dgI c = if 48 ≤ c.toNat ∧ c.toNat ≤ 57 then (c.toNat : Int) - 48 else if 65 ≤ c.toNat ∧ c.toNat ≤ 70 then (c.toNat : Int) - 55 else -1 := by
  unfold dgI dval
  split
  · rename_i d h
    split at h
    · cases h; rw [if_pos (by assumption)]; omega
    · split at h
      · cases h; rw [if_neg (by assumption), if_pos (by assumption)]; omega
      · cases h
  · rename_i h
    split at h
    · cases h
    · split at h
      · cases h
      · rw [if_neg (by assumption), if_neg (by assumption)]
/-- What stands ahead of the first c, and behind it. -/
def upV (c : UInt8) (S : List UInt8) : List UInt8 × List UInt8 × Bool := match cutAt c S with
  | some p => (p.1, p.2, true)
  | none => ([], [], false)
theorem cutAt_no {c : UInt8} : ∀ {S : List UInt8}, c ∉ S → cutAt c S = none
  | [], _ => rfl
  | x :: r, h => by
    have hx : x ≠ c := fun e => h (by rw [e]; exact List.mem_cons_self ..)
    rw [cutAt, if_neg hx, cutAt_no (fun e => h (List.mem_cons_of_mem _ e))]
theorem cutAt_hit {c : UInt8} {S : List UInt8} {i : Nat} (hi : i < S.length) (h : c ∉ S.take i) (hc : S[i] = c) : cutAt c S = some (S.take i, S.drop (i + 1)) := by
  have h2 := cutAt_app c (S.drop (i + 1)) (S.take i) h
  have h3 : S.take i ++ c :: S.drop (i + 1) = S := by rw [← hc, ← List.drop_eq_getElem_cons hi, List.take_append_drop]
  rwa [h3] at h2
theorem allD_next {b : Nat} {S : List UInt8} {i : Nat} (hi : i < S.length) (h : allD b (S.take i) = true) (hc : isD b S[i] = true) : allD b (S.take (i + 1)) = true := by
  rw [List.take_succ_eq_append_getElem hi]
  unfold allD at h ⊢
  rw [List.all_append, h]
  simp [hc]
theorem allD_bad {b : Nat} {S : List UInt8} {i : Nat} (hi : i < S.length) (hc : isD b S[i] = false) : allD b S = false := by
  unfold allD
  rw [← Bool.not_eq_true, List.all_eq_true]
  intro h
  rw [h S[i] (List.getElem_mem hi)] at hc
  cases hc
theorem valN_next {b : Nat} {S : List UInt8} {i : Nat} (hi : i < S.length) : valN b (S.take (i + 1)) = b * valN b (S.take i) + dv S[i] := by
  rw [List.take_succ_eq_append_getElem hi, valN_snoc]
theorem valN_mono {b : Nat} (hb : 1 ≤ b) {S : List UInt8} (i : Nat) : valN b (S.take i) ≤ valN b S := by
  have h := valN_append b (S.take i) (S.drop i)
  rw [List.take_append_drop] at h
  have h2 : valN b (S.take i) * 1 ≤ valN b (S.take i) * b ^ (S.drop i).length := Nat.mul_le_mul_left _ (Nat.pow_pos hb)
  omega
end Go.Bus.dumpK
namespace Go.Proofs.YtbhhfdajaoemnaaGreatDoor
open Go.RowKit Go.Bus Go.Bus.dumpK Go.Bus.textK
set_option linter.unusedVariables false
set_option linter.unusedSimpArgs false
namespace dumpW
theorem extract_to (S : List UInt8) (i : Nat) : (⟨S.toArray⟩ : ByteArray).extract 0 i = ⟨(S.take i).toArray⟩ := by
  apply ByteArray.ext
  simp
theorem extract_from (S : List UInt8) (i : Nat) : (⟨S.toArray⟩ : ByteArray).extract i (⟨S.toArray⟩ : ByteArray).size = ⟨(S.drop i).toArray⟩ := by
  apply ByteArray.ext
  have h : (⟨S.toArray⟩ : ByteArray).size = S.length := by show S.toArray.size = _; simp
  rw [h]
  simp
  exact List.take_of_length_le (by rw [List.length_drop]; exact Nat.le_refl _)
set_option maxRecDepth 100000 in
set_option maxHeartbeats 2000000 in
theorem countnl_any (S : List UInt8) (hl : S.length ≤ 16777216) (w : World) : Calls Tryz.prog 8 #[.string ⟨S.toArray⟩] w fun e w' => e = .returned (.int .i64 (S.count 10 : Nat)) ∧ w = w' := by
  go_enter Tryz.func8, Tryz.ntmps8
  go_wp2
  go_loop [3, 4] (fun nv iv => ∃ n i : Nat, nv = .int .i64 (n : Nat) ∧ iv = .int .i64 (i : Nat) ∧ i ≤ S.length ∧ n ≤ i ∧ Hid ((S.take i).count 10 = n)) (fun _ iv => S.length - (intOf iv).toNat)
  case atStart => exact ⟨0, 0, rfl, rfl, Nat.zero_le _, Nat.le_refl _, Lib.hid rfl⟩
  case round =>
    obtain ⟨n, i, rfl, rfl, hi, hn, HC⟩ := hrel
    by_cases hlt : i < S.length
    · obtain ⟨c, hcE⟩ : ∃ c : Nat, ((S[i]'hlt).toNat : Int) = c := ⟨_, rfl⟩
      have hcE2 : (((⟨S.toArray⟩ : ByteArray)[i]'(by show i < S.toArray.size; simpa using hlt)).toNat : Int) = c := hcE
      by_cases h10 : c = 10
      · have HN : Hid ((S.take (i + 1)).count 10 = n + 1) := Lib.hid (by
          have h2 : S[i]'hlt = 10 := UInt8.toNat_inj.1 (by show (S[i]'hlt).toNat = 10; omega)
          rw [List.take_succ_eq_append_getElem hlt, List.count_append, HC.out, h2]; rfl)
        obtain rfl : c = 10 := h10
        go_wp2
        go_roundw
        case rel => exact ⟨n + 1, i + 1, by go_num, by go_num, by omega, by omega, HN⟩
        case measure => simp [intOf]; omega
      · have HN : Hid ((S.take (i + 1)).count 10 = n) := Lib.hid (by
          have h2 : S[i]'hlt ≠ 10 := fun e => h10 (by rw [e] at hcE; exact (Int.ofNat.inj hcE).symm)
          rw [List.take_succ_eq_append_getElem hlt, List.count_append, HC.out, List.count_singleton]
          simp [h2])
        have e1 : ((c : Int) == 10) = false := by simp; omega
        go_wp2
        go_roundw
        case rel => exact ⟨n, i + 1, rfl, by go_num, by omega, by omega, HN⟩
        case measure => simp [intOf]; omega
    · obtain rfl : i = S.length := by omega
      have HC2 : Hid (S.count 10 = n) := Lib.hid (by have := HC.out; rwa [List.take_of_length_le (Nat.le_refl _)] at this)
      go_wp2
      go_ret
      exact ⟨by rw [HC2.out]; rfl, rfl⟩
set_option maxRecDepth 100000 in
set_option maxHeartbeats 2000000 in
theorem digit_any (c : UInt8) (w : World) : Calls Tryz.prog 37 #[.int .u8 (c.toNat : Nat)] w fun e w' => e = .returned (.int .i64 (dgI c)) ∧ w = w' := by
  rw [dgI_low]
  have hc := UInt8.toNat_lt c
  obtain ⟨n, hn⟩ : ∃ n, n = c.toNat := ⟨_, rfl⟩
  rw [← hn] at hc ⊢
  clear hn
  by_cases h1 : 48 ≤ n ∧ n ≤ 57
  · rw [if_pos h1]
    obtain ⟨h2, h3⟩ := h1
    go_enter Tryz.func37, Tryz.ntmps37
    go_wp2
    go_ret
    exact ⟨rfl, rfl⟩
  · rw [if_neg h1]
    by_cases h2 : 65 ≤ n ∧ n ≤ 70
    · rw [if_pos h2]
      obtain ⟨h3, h4⟩ := h2
      clear h1
      go_enter Tryz.func37, Tryz.ntmps37
      go_wp2
      go_ret
      exact ⟨ret_int (by omega), rfl⟩
    · rw [if_neg h2]
      rcases Nat.lt_or_ge n 48 with h3 | h3
      · clear h1 h2
        go_enter Tryz.func37, Tryz.ntmps37
        go_wp2
        go_ret
        exact ⟨rfl, rfl⟩
      · have h4 : 57 < n := by omega
        rcases Nat.lt_or_ge n 65 with h5 | h5
        · clear h1 h2
          go_enter Tryz.func37, Tryz.ntmps37
          go_wp2
          go_ret
          exact ⟨rfl, rfl⟩
        · have h6 : 70 < n := by omega
          clear h1 h2
          go_enter Tryz.func37, Tryz.ntmps37
          go_wp2
          go_ret
          exact ⟨rfl, rfl⟩
set_option maxRecDepth 100000 in
set_option maxHeartbeats 2000000 in
theorem all_any (S : List UInt8) (hl : S.length ≤ 16777216) (b : Nat) (w : World) : Calls Tryz.prog 70 #[.string ⟨S.toArray⟩, .int .i64 (b : Nat)] w fun e w' => e = .returned (.bool (allD b S)) ∧ w = w' := by
  go_enter Tryz.func70, Tryz.ntmps70
  go_wp2
  go_loop [5] (fun iv => ∃ i : Nat, iv = .int .i64 (i : Nat) ∧ i ≤ S.length ∧ Hid (allD b (S.take i) = true)) (fun iv => S.length - (intOf iv).toNat)
  case atStart => exact ⟨0, rfl, Nat.zero_le _, Lib.hid rfl⟩
  case round =>
    obtain ⟨i, rfl, hi, HC⟩ := hrel
    by_cases hlt : i < S.length
    · obtain ⟨c, hcE⟩ : ∃ c, c = S[i]'hlt := ⟨_, rfl⟩
      have hcE2 : (⟨S.toArray⟩ : ByteArray)[i]'(by show i < S.toArray.size; simpa using hlt) = c := hcE.symm
      cases hd : isD b c with
      | true =>
        obtain ⟨h1, h2⟩ := dgI_isD c hd
        have HN : Hid (allD b (S.take (i + 1)) = true) := Lib.hid (allD_next hlt HC.out (by rw [← hcE]; exact hd))
        have HD : Hid (∀ W, Calls Tryz.prog 37 #[.int .u8 (c.toNat : Nat)] W fun e w' => e = .returned (.int .i64 (dv c : Nat)) ∧ W = w') := Lib.hid (fun W => by rw [← h1]; exact digit_any c W)
        obtain ⟨d, hdd⟩ : ∃ d, d = dv c := ⟨_, rfl⟩
        rw [← hdd] at HD h2
        clear hd h1 hdd hcE
        go_wp2_with (go_at_call 37; refine (HD.out _).mono ?_; rintro e w1 ⟨rfl, rfl⟩)
        go_roundw
        case rel => exact ⟨i + 1, by go_num, by omega, HN⟩
        case measure => simp [intOf]; omega
      | false =>
        have HB : Hid (allD b S = false) := Lib.hid (allD_bad hlt (by rw [← hcE]; exact hd))
        have h1 := dgI_not c hd
        have HD : Hid (∀ W, Calls Tryz.prog 37 #[.int .u8 (c.toNat : Nat)] W fun e w' => e = .returned (.int .i64 (dgI c)) ∧ W = w') := Lib.hid (fun W => digit_any c W)
        obtain ⟨d, hdd⟩ : ∃ d, d = dgI c := ⟨_, rfl⟩
        rw [← hdd] at HD h1
        clear hd hdd hcE
        rcases h1 with h1 | h1
        · go_wp2_with (go_at_call 37; refine (HD.out _).mono ?_; rintro e w1 ⟨rfl, rfl⟩)
          go_ret
          exact ⟨by rw [HB.out]; rfl, rfl⟩
        · by_cases h0 : d < 0
          · go_wp2_with (go_at_call 37; refine (HD.out _).mono ?_; rintro e w1 ⟨rfl, rfl⟩)
            go_ret
            exact ⟨by rw [HB.out]; rfl, rfl⟩
          · go_wp2_with (go_at_call 37; refine (HD.out _).mono ?_; rintro e w1 ⟨rfl, rfl⟩)
            go_ret
            exact ⟨by rw [HB.out]; rfl, rfl⟩
    · obtain rfl : i = S.length := by omega
      have HC2 : Hid (allD b S = true) := Lib.hid (by have := HC.out; rwa [List.take_of_length_le (Nat.le_refl _)] at this)
      go_wp2
      go_ret
      exact ⟨by rw [HC2.out]; rfl, rfl⟩
set_option maxRecDepth 100000 in
set_option maxHeartbeats 2000000 in
theorem upto_any (S : List UInt8) (hl : S.length ≤ 16777216) (c : UInt8) (w : World) : Calls Tryz.prog 69 #[.string ⟨S.toArray⟩, .int .u8 (c.toNat : Nat)] w fun e w' => e = .returned (.tuple #[.string ⟨(upV c S).1.toArray⟩, .string ⟨(upV c S).2.1.toArray⟩, .bool (upV c S).2.2]) ∧ ∃ n, w' = w.drewN n := by
  obtain ⟨cn, hcn⟩ : ∃ cn : Nat, cn = c.toNat := ⟨_, rfl⟩
  rw [← hcn]
  go_enter Tryz.func69, Tryz.ntmps69
  go_wp2
  go_loop [7] (fun iv => ∃ i : Nat, iv = .int .i64 (i : Nat) ∧ i ≤ S.length ∧ Hid (c ∉ S.take i)) (fun iv => S.length - (intOf iv).toNat)
  case atStart => exact ⟨0, rfl, Nat.zero_le _, Lib.hid (by simp)⟩
  case round =>
    obtain ⟨i, rfl, hi, HC⟩ := hrel
    by_cases hlt : i < S.length
    · obtain ⟨d, hdE⟩ : ∃ d : Nat, ((S[i]'hlt).toNat : Int) = d := ⟨_, rfl⟩
      have hdE2 : (((⟨S.toArray⟩ : ByteArray)[i]'(by show i < S.toArray.size; simpa using hlt)).toNat : Int) = d := hdE
      by_cases hdc : d = cn
      · have HU : Hid (upV c S = (S.take i, S.drop (i + 1), true)) := Lib.hid (by
          have h2 : S[i]'hlt = c := UInt8.toNat_inj.1 (by rw [← hcn]; omega)
          unfold upV; rw [cutAt_hit hlt HC.out h2])
        have e1 : ((d : Int) == (cn : Int)) = true := by simp; omega
        have hs1 : ∀ W, (Instr.slice 9 (.string ⟨S.toArray⟩) none (some (.int .i64 (i : Nat))) none).run Tryz.prog W = .ok (.string ⟨(S.take i).toArray⟩) W := fun W => by
          rw [run_slice_string_to_if W _ _ _ _ Tryz.underlying9, if_pos ⟨by omega, by show (i : Int) ≤ (S.length : Int); omega⟩, show ((i : Int)).toNat = i from by omega, extract_to]
        have hs2 : ∀ W, (Instr.slice 9 (.string ⟨S.toArray⟩) (some (.int .i64 (IntKind.i64.wrap ((i : Int) + 1)))) none none).run Tryz.prog W = .ok (.string ⟨(S.drop (i + 1)).toArray⟩) W := fun W => by
          rw [show IntKind.i64.wrap ((i : Int) + 1) = (i : Int) + 1 from by rw [IntKind.wrap_i64]; omega]
          rw [run_slice_string_from_if W _ _ _ _ Tryz.underlying9, if_pos ⟨by omega, by show (i : Int) + 1 ≤ (S.length : Int); omega⟩, show ((i : Int) + 1).toNat = i + 1 from by omega, extract_from]
        clear hdc hdE
        go_wp2_with fail
        go_quiet (fail)
        go_wp2
        go_ret3
        refine ⟨?_, _, rfl⟩
        rw [HU.out]
        rfl
      · have HN : Hid (c ∉ S.take (i + 1)) := Lib.hid (by
          have h2 : c ≠ S[i]'hlt := fun e => hdc (by rw [hcn, e]; omega)
          rw [List.take_succ_eq_append_getElem hlt]
          simp only [List.mem_append, List.mem_singleton, not_or]
          exact ⟨HC.out, h2⟩)
        have e1 : ((d : Int) == (cn : Int)) = false := by simp; omega
        clear hdE
        go_wp2
        go_roundw
        case rel => exact ⟨i + 1, by go_num, by omega, HN⟩
        case measure => simp [intOf]; omega
    · obtain rfl : i = S.length := by omega
      have HU : Hid (upV c S = ([], [], false)) := Lib.hid (by
        have := HC.out
        rw [List.take_of_length_le (Nat.le_refl _)] at this
        unfold upV; rw [cutAt_no this])
      go_wp2
      go_ret3
      exact ⟨by rw [HU.out]; rfl, 0, rfl⟩
end dumpW
end Go.Proofs.YtbhhfdajaoemnaaGreatDoor
