/- Walks of the document's Parse (busbarref10). No condition. -/
import Derived.Test.YtfigkgpolpggcaaDoorRawParse
namespace Go.Proofs.YtfigkgpolpggcaaDoor
open Go.RowKit Go.Bus Go.Bus.rawK Go.Bus.textK
set_option linter.unusedVariables false
namespace rawQ
theorem plain_head {l : List UInt8} (h : l.head? ≠ some 45) : minus l true = false := minus_digits h true

set_option maxRecDepth 100000 in
set_option maxHeartbeats 4000000 in
theorem rparse_u_z (s : ByteArray) (w : World) (hz : s.size = 0) : Calls Tryd.prog 24 #[.string s, .bool false] w (SaidR s false w) := by
  have hm : minus s.data.toList false = false := minus_false _
  have hnil : s.data.toList = [] := List.eq_nil_of_length_eq_zero (by rw [len_data]; exact hz)
  have HX : Hid (pz s.data.toList false = (0, 8)) := by
    exact Lib.hid (pz_bad (by rw [body_plain hm, hnil]; rfl))
  have e0 : ((s.size : Int) == 0) = true := beq_iff_eq.2 (by omega)
  clear hnil hz hm
  unfold SaidR
  go_enter Tryd.func24, Tryd.ntmps24
  go_wp2
  go_ret2
  exact ⟨by rw [HX.out] <;> rfl, Below.refl _ _⟩

set_option maxRecDepth 100000 in
set_option maxHeartbeats 4000000 in
theorem rparse_u_b (s : ByteArray) (w : World) (hz : 1 < s.size) (h48 : (s[0]'(by omega)).toNat = 48) : Calls Tryd.prog 24 #[.string s, .bool false] w (SaidR s false w) := by
  have hm : minus s.data.toList false = false := minus_false _
  have g0 : 0 < s.size := by omega
  have hh : s.data.toList.head? = some 48 := by rw [head_data s g0]; exact congrArg some (UInt8.toNat_inj.1 h48)
  have HX : Hid (pz s.data.toList false = (0, 8)) := by
    exact Lib.hid (pz_bad (by rw [body_plain hm]; exact bad_nought (by rw [len_data]; exact hz) hh))
  have e0 : ((s.size : Int) == 0) = false := beq_eq_false_iff_ne.2 (by omega)
  have c0 : (((s[0]'g0).toNat : Int) == 48) = true := by simp; omega
  have gg : decide (1 < (s.size : Int)) = true := by simp; omega
  clear hm hh h48
  unfold SaidR
  go_enter Tryd.func24, Tryd.ntmps24
  go_wp2
  go_ret2
  exact ⟨by rw [HX.out] <;> rfl, Below.refl _ _⟩

set_option maxRecDepth 100000 in
set_option maxHeartbeats 4000000 in
theorem rparse_u_l (s : ByteArray) (w : World) (hs : s.size ≤ 140737488351232) (g0 : 0 < s.size) (h1x : (s[0]'g0).toNat = 48 → s.size = 1) : Calls Tryd.prog 24 #[.string s, .bool false] w (SaidR s false w) := by
  have hm : minus s.data.toList false = false := minus_false _
  obtain ⟨he0, hgh⟩ := head_u s g0 h1x
  have HBAD : Hid (good s.data.toList = false → pz s.data.toList false = (0, 8)) := Lib.hid (fun h => pz_bad (by rw [body_plain hm]; exact h))
  have HGOOD : Hid (s.data.toList.all isDig = true → pz s.data.toList false = if (if false then 9223372036854775808 else 18446744073709551616) ≤ val s.data.toList then (0, 9) else ((val s.data.toList : Int), 0)) := Lib.hid (fun h => pz_plain hm (good_mk he0 h hgh))
  have HSZ := Lib.hid (show s.size = s.size from rfl)
  have e0 : ((s.size : Int) == 0) = false := beq_eq_false_iff_ne.2 (by omega)
  clear hm he0 hgh
  unfold SaidR
  by_cases h48 : (s[0]'g0).toNat = 48
  · have gg : decide (1 < (s.size : Int)) = false := by have := h1x h48; simp; omega
    have c0 : (((s[0]'g0).toNat : Int) == 48) = true := by simp; omega
    clear h1x h48
    go_enter Tryd.func24, Tryd.ntmps24
    go_wp2
    go_loop [7, 8, 9] (fun n o i => ∃ (k m : Nat) (ov : Bool), k ≤ s.size ∧ m < 18446744073709551616 ∧ (s.data.toList.take k).all isDig = true ∧ (ov = false → m = val (s.data.toList.take k)) ∧ ov = decide (18446744073709551616 ≤ val (s.data.toList.take k)) ∧ n = .int .u64 m ∧ o = .bool ov ∧ i = .int .i64 k) (fun _ _ i => s.size - (intOf i).toNat)
    case atStart => exact ⟨0, 0, false, Nat.zero_le _, by omega, rfl, (fun _ => rfl), (show false = decide (18446744073709551616 ≤ val []) by decide), rfl, rfl, rfl⟩
    case round =>
      obtain ⟨k, m, ov, hk, hm64, hall, hmv, hov, rfl, rfl, rfl⟩ := hrel
      have HA := Lib.hid hall; clear hall
      have HMV := Lib.hid hmv; clear hmv
      have HOV := Lib.hid hov; clear hov
      by_cases hlt : k < s.size
      · have hlt2 : k < s.size := by have := HSZ.out; omega
        have HTK := Lib.hid (take_data s k hlt2)
        by_cases hd : isDig (s[k]'hlt2) = true
        · have hdd := isDig_iff.1 hd
          have d1 : decide (((s[k]'hlt2).toNat : Int) < 48) = false := by simp; omega
          have d2 : decide (57 < ((s[k]'hlt2).toNat : Int)) = false := by simp; omega
          have d3 : 48 ≤ (s[k]'hlt2).toNat := hdd.1
          have d4 : (s[k]'hlt2).toNat ≤ 57 := hdd.2
          have HV2 : Hid (val (s.data.toList.take (k + 1)) = 10 * val (s.data.toList.take k) + ((s[k]'hlt2).toNat - 48)) := by rw [HTK.out]; exact Lib.hid (val_snoc _ _)
          have HALL : Hid ((s.data.toList.take (k + 1)).all isDig = true) := by rw [HTK.out, List.all_append, HA.out]; exact Lib.hid (by simp [hd])
          clear hd hdd
          cases ov
          · go_wp2
            go_round
            case rel =>
              have h1 := HMV.out rfl
              have h2 := HV2.out
              refine ⟨k + 1, (10 * m + ((s[k]'hlt2).toNat - 48)) % 18446744073709551616, decide (18446744073709551616 ≤ val (s.data.toList.take (k + 1))), by omega, by omega, HALL.out, ?_, rfl, ?_, ?_, by go_num⟩
              · intro hf
                have hf' := of_decide_eq_false hf
                omega
              · simp only [IntKind.wrap_u64]; congr 1; omega
              · congr 1; rw [decide_eq_decide]; omega
            case measure => first | (simp [intOf]; done) | (simp [intOf]; omega)
          · go_wp2
            go_round
            case rel =>
              have h1 := of_decide_eq_true HOV.out.symm
              have h2 := HV2.out
              refine ⟨k + 1, (10 * m + ((s[k]'hlt2).toNat - 48)) % 18446744073709551616, true, by omega, by omega, HALL.out, (fun h => absurd h (by decide)), ?_, ?_, rfl, by go_num⟩
              · exact (decide_eq_true (by omega)).symm
              · simp only [IntKind.wrap_u64]; congr 1; omega
            case measure => first | (simp [intOf]; done) | (simp [intOf]; omega)
        · have HX := Lib.hid (HBAD.out (by exact bad_at (mem_data _ k hlt2) (by simpa using hd)))
          by_cases d1 : ((s[k]'hlt2).toNat : Int) < 48
          · have e1 : decide (((s[k]'hlt2).toNat : Int) < 48) = true := by simpa using d1
            clear d1 hd
            go_wp2
            go_ret2
            exact ⟨by rw [HX.out] <;> rfl, Below.refl _ _⟩
          · have e1 : decide (((s[k]'hlt2).toNat : Int) < 48) = false := by simpa using d1
            have e2 : decide (57 < ((s[k]'hlt2).toNat : Int)) = true := by simp [isDig] at hd; simp; omega
            clear d1 hd
            go_wp2
            go_ret2
            exact ⟨by rw [HX.out] <;> rfl, Below.refl _ _⟩
      · have htk : s.data.toList.take k = s.data.toList := List.take_of_length_le (by rw [Array.length_toList]; have := HSZ.out; show s.size ≤ k; omega)
        have hall : s.data.toList.all isDig = true := by rw [← htk]; exact HA.out
        have hov : ov = decide (18446744073709551616 ≤ val s.data.toList) := by rw [← htk]; exact HOV.out
        have hmv : ov = false → m = val s.data.toList := by rw [← htk]; exact HMV.out
        have HPZ := Lib.hid (HGOOD.out hall)
        clear hall htk
        generalize val s.data.toList = v at hov hmv HPZ
        cases ov
        · have hv : ¬ 18446744073709551616 ≤ v := of_decide_eq_false hov.symm
          obtain rfl := hmv rfl
          have hpz := HPZ.out
          rw [if_neg (by simp; omega)] at hpz
          have HX := Lib.hid hpz
          clear hpz hmv hov HMV HOV HPZ
          go_wp2
          go_ret2
          exact ⟨by rw [HX.out] <;> rfl, Below.refl _ _⟩
        · have hv : 18446744073709551616 ≤ v := of_decide_eq_true hov.symm
          have hpz := HPZ.out
          rw [if_pos (by simp; omega)] at hpz
          have HX := Lib.hid hpz
          clear hpz hmv hov HMV HOV HPZ
          go_wp2
          go_ret2
          exact ⟨by rw [HX.out] <;> rfl, Below.refl _ _⟩

  · have c0 : (((s[0]'g0).toNat : Int) == 48) = false := by simp; omega
    clear h1x h48
    go_enter Tryd.func24, Tryd.ntmps24
    go_wp2
    go_loop [7, 8, 9] (fun n o i => ∃ (k m : Nat) (ov : Bool), k ≤ s.size ∧ m < 18446744073709551616 ∧ (s.data.toList.take k).all isDig = true ∧ (ov = false → m = val (s.data.toList.take k)) ∧ ov = decide (18446744073709551616 ≤ val (s.data.toList.take k)) ∧ n = .int .u64 m ∧ o = .bool ov ∧ i = .int .i64 k) (fun _ _ i => s.size - (intOf i).toNat)
    case atStart => exact ⟨0, 0, false, Nat.zero_le _, by omega, rfl, (fun _ => rfl), (show false = decide (18446744073709551616 ≤ val []) by decide), rfl, rfl, rfl⟩
    case round =>
      obtain ⟨k, m, ov, hk, hm64, hall, hmv, hov, rfl, rfl, rfl⟩ := hrel
      have HA := Lib.hid hall; clear hall
      have HMV := Lib.hid hmv; clear hmv
      have HOV := Lib.hid hov; clear hov
      by_cases hlt : k < s.size
      · have hlt2 : k < s.size := by have := HSZ.out; omega
        have HTK := Lib.hid (take_data s k hlt2)
        by_cases hd : isDig (s[k]'hlt2) = true
        · have hdd := isDig_iff.1 hd
          have d1 : decide (((s[k]'hlt2).toNat : Int) < 48) = false := by simp; omega
          have d2 : decide (57 < ((s[k]'hlt2).toNat : Int)) = false := by simp; omega
          have d3 : 48 ≤ (s[k]'hlt2).toNat := hdd.1
          have d4 : (s[k]'hlt2).toNat ≤ 57 := hdd.2
          have HV2 : Hid (val (s.data.toList.take (k + 1)) = 10 * val (s.data.toList.take k) + ((s[k]'hlt2).toNat - 48)) := by rw [HTK.out]; exact Lib.hid (val_snoc _ _)
          have HALL : Hid ((s.data.toList.take (k + 1)).all isDig = true) := by rw [HTK.out, List.all_append, HA.out]; exact Lib.hid (by simp [hd])
          clear hd hdd
          cases ov
          · go_wp2
            go_round
            case rel =>
              have h1 := HMV.out rfl
              have h2 := HV2.out
              refine ⟨k + 1, (10 * m + ((s[k]'hlt2).toNat - 48)) % 18446744073709551616, decide (18446744073709551616 ≤ val (s.data.toList.take (k + 1))), by omega, by omega, HALL.out, ?_, rfl, ?_, ?_, by go_num⟩
              · intro hf
                have hf' := of_decide_eq_false hf
                omega
              · simp only [IntKind.wrap_u64]; congr 1; omega
              · congr 1; rw [decide_eq_decide]; omega
            case measure => first | (simp [intOf]; done) | (simp [intOf]; omega)
          · go_wp2
            go_round
            case rel =>
              have h1 := of_decide_eq_true HOV.out.symm
              have h2 := HV2.out
              refine ⟨k + 1, (10 * m + ((s[k]'hlt2).toNat - 48)) % 18446744073709551616, true, by omega, by omega, HALL.out, (fun h => absurd h (by decide)), ?_, ?_, rfl, by go_num⟩
              · exact (decide_eq_true (by omega)).symm
              · simp only [IntKind.wrap_u64]; congr 1; omega
            case measure => first | (simp [intOf]; done) | (simp [intOf]; omega)
        · have HX := Lib.hid (HBAD.out (by exact bad_at (mem_data _ k hlt2) (by simpa using hd)))
          by_cases d1 : ((s[k]'hlt2).toNat : Int) < 48
          · have e1 : decide (((s[k]'hlt2).toNat : Int) < 48) = true := by simpa using d1
            clear d1 hd
            go_wp2
            go_ret2
            exact ⟨by rw [HX.out] <;> rfl, Below.refl _ _⟩
          · have e1 : decide (((s[k]'hlt2).toNat : Int) < 48) = false := by simpa using d1
            have e2 : decide (57 < ((s[k]'hlt2).toNat : Int)) = true := by simp [isDig] at hd; simp; omega
            clear d1 hd
            go_wp2
            go_ret2
            exact ⟨by rw [HX.out] <;> rfl, Below.refl _ _⟩
      · have htk : s.data.toList.take k = s.data.toList := List.take_of_length_le (by rw [Array.length_toList]; have := HSZ.out; show s.size ≤ k; omega)
        have hall : s.data.toList.all isDig = true := by rw [← htk]; exact HA.out
        have hov : ov = decide (18446744073709551616 ≤ val s.data.toList) := by rw [← htk]; exact HOV.out
        have hmv : ov = false → m = val s.data.toList := by rw [← htk]; exact HMV.out
        have HPZ := Lib.hid (HGOOD.out hall)
        clear hall htk
        generalize val s.data.toList = v at hov hmv HPZ
        cases ov
        · have hv : ¬ 18446744073709551616 ≤ v := of_decide_eq_false hov.symm
          obtain rfl := hmv rfl
          have hpz := HPZ.out
          rw [if_neg (by simp; omega)] at hpz
          have HX := Lib.hid hpz
          clear hpz hmv hov HMV HOV HPZ
          go_wp2
          go_ret2
          exact ⟨by rw [HX.out] <;> rfl, Below.refl _ _⟩
        · have hv : 18446744073709551616 ≤ v := of_decide_eq_true hov.symm
          have hpz := HPZ.out
          rw [if_pos (by simp; omega)] at hpz
          have HX := Lib.hid hpz
          clear hpz hmv hov HMV HOV HPZ
          go_wp2
          go_ret2
          exact ⟨by rw [HX.out] <;> rfl, Below.refl _ _⟩

set_option maxRecDepth 100000 in
set_option maxHeartbeats 4000000 in
theorem rparse_p_z (s : ByteArray) (w : World) (hz : s.size = 0) (h45 : ∀ h : 0 < s.size, ¬ (s[0]'h).toNat = 45) : Calls Tryd.prog 24 #[.string s, .bool true] w (SaidR s true w) := by
  have hm : minus s.data.toList true = false := by
    rcases Nat.eq_zero_or_pos s.size with h | h
    · exact not_minus_short s true (by omega)
    · exact plain_head (by rw [head_data s h]; intro e; exact h45 h (by rw [Option.some.inj e]; rfl))
  have hnil : s.data.toList = [] := List.eq_nil_of_length_eq_zero (by rw [len_data]; exact hz)
  have HX : Hid (pz s.data.toList true = (0, 8)) := by
    exact Lib.hid (pz_bad (by rw [body_plain hm, hnil]; rfl))
  have e0 : ((s.size : Int) == 0) = true := beq_iff_eq.2 (by omega)
  have g1 : decide (0 < (s.size : Int)) = false := decide_eq_false (by omega)
  clear h45
  clear hnil hz hm
  unfold SaidR
  go_enter Tryd.func24, Tryd.ntmps24
  go_wp2
  go_ret2
  exact ⟨by rw [HX.out] <;> rfl, Below.refl _ _⟩

set_option maxRecDepth 100000 in
set_option maxHeartbeats 4000000 in
theorem rparse_p_b (s : ByteArray) (w : World) (hz : 1 < s.size) (h48 : (s[0]'(by omega)).toNat = 48) (h45 : ∀ h : 0 < s.size, ¬ (s[0]'h).toNat = 45) : Calls Tryd.prog 24 #[.string s, .bool true] w (SaidR s true w) := by
  have hm : minus s.data.toList true = false := by
    rcases Nat.eq_zero_or_pos s.size with h | h
    · exact not_minus_short s true (by omega)
    · exact plain_head (by rw [head_data s h]; intro e; exact h45 h (by rw [Option.some.inj e]; rfl))
  have g0 : 0 < s.size := by omega
  have hh : s.data.toList.head? = some 48 := by rw [head_data s g0]; exact congrArg some (UInt8.toNat_inj.1 h48)
  have HX : Hid (pz s.data.toList true = (0, 8)) := by
    exact Lib.hid (pz_bad (by rw [body_plain hm]; exact bad_nought (by rw [len_data]; exact hz) hh))
  have e0 : ((s.size : Int) == 0) = false := beq_eq_false_iff_ne.2 (by omega)
  have c0 : (((s[0]'g0).toNat : Int) == 48) = true := by simp; omega
  have gg : decide (1 < (s.size : Int)) = true := by simp; omega
  have g1 : decide (0 < (s.size : Int)) = true := decide_eq_true (by omega)
  have g2 : (((s[0]'g0).toNat : Int) == 45) = false := by have := h45 g0; simp; omega
  clear h45
  clear hm hh h48
  unfold SaidR
  go_enter Tryd.func24, Tryd.ntmps24
  go_wp2
  go_ret2
  exact ⟨by rw [HX.out] <;> rfl, Below.refl _ _⟩

set_option maxRecDepth 100000 in
set_option maxHeartbeats 4000000 in
theorem rparse_p_l (s : ByteArray) (w : World) (hs : s.size ≤ 140737488351232) (g0 : 0 < s.size) (h1x : (s[0]'g0).toNat = 48 → s.size = 1) (h45 : ∀ h : 0 < s.size, ¬ (s[0]'h).toNat = 45) : Calls Tryd.prog 24 #[.string s, .bool true] w (SaidR s true w) := by
  have hm : minus s.data.toList true = false := by
    rcases Nat.eq_zero_or_pos s.size with h | h
    · exact not_minus_short s true (by omega)
    · exact plain_head (by rw [head_data s h]; intro e; exact h45 h (by rw [Option.some.inj e]; rfl))
  obtain ⟨he0, hgh⟩ := head_p s g0 h1x
  have HBAD : Hid (good s.data.toList = false → pz s.data.toList true = (0, 8)) := Lib.hid (fun h => pz_bad (by rw [body_plain hm]; exact h))
  have HGOOD : Hid (s.data.toList.all isDig = true → pz s.data.toList true = if (if true then 9223372036854775808 else 18446744073709551616) ≤ val s.data.toList then (0, 9) else ((val s.data.toList : Int), 0)) := Lib.hid (fun h => pz_plain hm (good_mk he0 h hgh))
  have HSZ := Lib.hid (show s.size = s.size from rfl)
  have e0 : ((s.size : Int) == 0) = false := beq_eq_false_iff_ne.2 (by omega)
  clear hm he0 hgh
  have g1 : decide (0 < (s.size : Int)) = true := decide_eq_true (by omega)
  have g2 : (((s[0]'g0).toNat : Int) == 45) = false := by have := h45 g0; simp; omega
  clear h45
  unfold SaidR
  by_cases h48 : (s[0]'g0).toNat = 48
  · have gg : decide (1 < (s.size : Int)) = false := by have := h1x h48; simp; omega
    have c0 : (((s[0]'g0).toNat : Int) == 48) = true := by simp; omega
    clear h1x h48
    go_enter Tryd.func24, Tryd.ntmps24
    go_wp2
    go_loop [7, 8, 9] (fun n o i => ∃ (k m : Nat) (ov : Bool), k ≤ s.size ∧ m < 18446744073709551616 ∧ (s.data.toList.take k).all isDig = true ∧ (ov = false → m = val (s.data.toList.take k)) ∧ ov = decide (18446744073709551616 ≤ val (s.data.toList.take k)) ∧ n = .int .u64 m ∧ o = .bool ov ∧ i = .int .i64 k) (fun _ _ i => s.size - (intOf i).toNat)
    case atStart => exact ⟨0, 0, false, Nat.zero_le _, by omega, rfl, (fun _ => rfl), (show false = decide (18446744073709551616 ≤ val []) by decide), rfl, rfl, rfl⟩
    case round =>
      obtain ⟨k, m, ov, hk, hm64, hall, hmv, hov, rfl, rfl, rfl⟩ := hrel
      have HA := Lib.hid hall; clear hall
      have HMV := Lib.hid hmv; clear hmv
      have HOV := Lib.hid hov; clear hov
      by_cases hlt : k < s.size
      · have hlt2 : k < s.size := by have := HSZ.out; omega
        have HTK := Lib.hid (take_data s k hlt2)
        by_cases hd : isDig (s[k]'hlt2) = true
        · have hdd := isDig_iff.1 hd
          have d1 : decide (((s[k]'hlt2).toNat : Int) < 48) = false := by simp; omega
          have d2 : decide (57 < ((s[k]'hlt2).toNat : Int)) = false := by simp; omega
          have d3 : 48 ≤ (s[k]'hlt2).toNat := hdd.1
          have d4 : (s[k]'hlt2).toNat ≤ 57 := hdd.2
          have HV2 : Hid (val (s.data.toList.take (k + 1)) = 10 * val (s.data.toList.take k) + ((s[k]'hlt2).toNat - 48)) := by rw [HTK.out]; exact Lib.hid (val_snoc _ _)
          have HALL : Hid ((s.data.toList.take (k + 1)).all isDig = true) := by rw [HTK.out, List.all_append, HA.out]; exact Lib.hid (by simp [hd])
          clear hd hdd
          cases ov
          · go_wp2
            go_round
            case rel =>
              have h1 := HMV.out rfl
              have h2 := HV2.out
              refine ⟨k + 1, (10 * m + ((s[k]'hlt2).toNat - 48)) % 18446744073709551616, decide (18446744073709551616 ≤ val (s.data.toList.take (k + 1))), by omega, by omega, HALL.out, ?_, rfl, ?_, ?_, by go_num⟩
              · intro hf
                have hf' := of_decide_eq_false hf
                omega
              · simp only [IntKind.wrap_u64]; congr 1; omega
              · congr 1; rw [decide_eq_decide]; omega
            case measure => first | (simp [intOf]; done) | (simp [intOf]; omega)
          · go_wp2
            go_round
            case rel =>
              have h1 := of_decide_eq_true HOV.out.symm
              have h2 := HV2.out
              refine ⟨k + 1, (10 * m + ((s[k]'hlt2).toNat - 48)) % 18446744073709551616, true, by omega, by omega, HALL.out, (fun h => absurd h (by decide)), ?_, ?_, rfl, by go_num⟩
              · exact (decide_eq_true (by omega)).symm
              · simp only [IntKind.wrap_u64]; congr 1; omega
            case measure => first | (simp [intOf]; done) | (simp [intOf]; omega)
        · have HX := Lib.hid (HBAD.out (by exact bad_at (mem_data _ k hlt2) (by simpa using hd)))
          by_cases d1 : ((s[k]'hlt2).toNat : Int) < 48
          · have e1 : decide (((s[k]'hlt2).toNat : Int) < 48) = true := by simpa using d1
            clear d1 hd
            go_wp2
            go_ret2
            exact ⟨by rw [HX.out] <;> rfl, Below.refl _ _⟩
          · have e1 : decide (((s[k]'hlt2).toNat : Int) < 48) = false := by simpa using d1
            have e2 : decide (57 < ((s[k]'hlt2).toNat : Int)) = true := by simp [isDig] at hd; simp; omega
            clear d1 hd
            go_wp2
            go_ret2
            exact ⟨by rw [HX.out] <;> rfl, Below.refl _ _⟩
      · have htk : s.data.toList.take k = s.data.toList := List.take_of_length_le (by rw [Array.length_toList]; have := HSZ.out; show s.size ≤ k; omega)
        have hall : s.data.toList.all isDig = true := by rw [← htk]; exact HA.out
        have hov : ov = decide (18446744073709551616 ≤ val s.data.toList) := by rw [← htk]; exact HOV.out
        have hmv : ov = false → m = val s.data.toList := by rw [← htk]; exact HMV.out
        have HPZ := Lib.hid (HGOOD.out hall)
        clear hall htk
        generalize val s.data.toList = v at hov hmv HPZ
        cases ov
        · have hv : ¬ 18446744073709551616 ≤ v := of_decide_eq_false hov.symm
          obtain rfl := hmv rfl
          have hpz := HPZ.out
          by_cases hx : m < 9223372036854775808
          · rw [if_neg (by simp; omega)] at hpz
            have HX := Lib.hid hpz
            have d1 : decide (9223372036854775808 < (m : Int)) = false := by simp; omega
            have d2 : ((m : Int) == 9223372036854775808) = false := by simp; omega
            clear hpz hmv hov HMV HOV HPZ
            go_wp2
            go_ret2
            exact ⟨by rw [HX.out] <;> rfl, Below.refl _ _⟩
          · rw [if_pos (by simp; omega)] at hpz
            have HX := Lib.hid hpz
            by_cases hy : m = 9223372036854775808
            · have d1 : decide (9223372036854775808 < (m : Int)) = false := by simp; omega
              have d2 : ((m : Int) == 9223372036854775808) = true := by simp; omega
              clear hpz hmv hov HMV HOV HPZ hy hx
              go_wp2
              go_ret2
              exact ⟨by rw [HX.out] <;> rfl, Below.refl _ _⟩
            · have d1 : decide (9223372036854775808 < (m : Int)) = true := by simp; omega
              clear hpz hmv hov HMV HOV HPZ hy hx
              go_wp2
              go_ret2
              exact ⟨by rw [HX.out] <;> rfl, Below.refl _ _⟩
        · have hv : 18446744073709551616 ≤ v := of_decide_eq_true hov.symm
          have hpz := HPZ.out
          rw [if_pos (by simp; omega)] at hpz
          have HX := Lib.hid hpz
          clear hpz hmv hov HMV HOV HPZ
          go_wp2
          go_ret2
          exact ⟨by rw [HX.out] <;> rfl, Below.refl _ _⟩

  · have c0 : (((s[0]'g0).toNat : Int) == 48) = false := by simp; omega
    clear h1x h48
    go_enter Tryd.func24, Tryd.ntmps24
    go_wp2
    go_loop [7, 8, 9] (fun n o i => ∃ (k m : Nat) (ov : Bool), k ≤ s.size ∧ m < 18446744073709551616 ∧ (s.data.toList.take k).all isDig = true ∧ (ov = false → m = val (s.data.toList.take k)) ∧ ov = decide (18446744073709551616 ≤ val (s.data.toList.take k)) ∧ n = .int .u64 m ∧ o = .bool ov ∧ i = .int .i64 k) (fun _ _ i => s.size - (intOf i).toNat)
    case atStart => exact ⟨0, 0, false, Nat.zero_le _, by omega, rfl, (fun _ => rfl), (show false = decide (18446744073709551616 ≤ val []) by decide), rfl, rfl, rfl⟩
    case round =>
      obtain ⟨k, m, ov, hk, hm64, hall, hmv, hov, rfl, rfl, rfl⟩ := hrel
      have HA := Lib.hid hall; clear hall
      have HMV := Lib.hid hmv; clear hmv
      have HOV := Lib.hid hov; clear hov
      by_cases hlt : k < s.size
      · have hlt2 : k < s.size := by have := HSZ.out; omega
        have HTK := Lib.hid (take_data s k hlt2)
        by_cases hd : isDig (s[k]'hlt2) = true
        · have hdd := isDig_iff.1 hd
          have d1 : decide (((s[k]'hlt2).toNat : Int) < 48) = false := by simp; omega
          have d2 : decide (57 < ((s[k]'hlt2).toNat : Int)) = false := by simp; omega
          have d3 : 48 ≤ (s[k]'hlt2).toNat := hdd.1
          have d4 : (s[k]'hlt2).toNat ≤ 57 := hdd.2
          have HV2 : Hid (val (s.data.toList.take (k + 1)) = 10 * val (s.data.toList.take k) + ((s[k]'hlt2).toNat - 48)) := by rw [HTK.out]; exact Lib.hid (val_snoc _ _)
          have HALL : Hid ((s.data.toList.take (k + 1)).all isDig = true) := by rw [HTK.out, List.all_append, HA.out]; exact Lib.hid (by simp [hd])
          clear hd hdd
          cases ov
          · go_wp2
            go_round
            case rel =>
              have h1 := HMV.out rfl
              have h2 := HV2.out
              refine ⟨k + 1, (10 * m + ((s[k]'hlt2).toNat - 48)) % 18446744073709551616, decide (18446744073709551616 ≤ val (s.data.toList.take (k + 1))), by omega, by omega, HALL.out, ?_, rfl, ?_, ?_, by go_num⟩
              · intro hf
                have hf' := of_decide_eq_false hf
                omega
              · simp only [IntKind.wrap_u64]; congr 1; omega
              · congr 1; rw [decide_eq_decide]; omega
            case measure => first | (simp [intOf]; done) | (simp [intOf]; omega)
          · go_wp2
            go_round
            case rel =>
              have h1 := of_decide_eq_true HOV.out.symm
              have h2 := HV2.out
              refine ⟨k + 1, (10 * m + ((s[k]'hlt2).toNat - 48)) % 18446744073709551616, true, by omega, by omega, HALL.out, (fun h => absurd h (by decide)), ?_, ?_, rfl, by go_num⟩
              · exact (decide_eq_true (by omega)).symm
              · simp only [IntKind.wrap_u64]; congr 1; omega
            case measure => first | (simp [intOf]; done) | (simp [intOf]; omega)
        · have HX := Lib.hid (HBAD.out (by exact bad_at (mem_data _ k hlt2) (by simpa using hd)))
          by_cases d1 : ((s[k]'hlt2).toNat : Int) < 48
          · have e1 : decide (((s[k]'hlt2).toNat : Int) < 48) = true := by simpa using d1
            clear d1 hd
            go_wp2
            go_ret2
            exact ⟨by rw [HX.out] <;> rfl, Below.refl _ _⟩
          · have e1 : decide (((s[k]'hlt2).toNat : Int) < 48) = false := by simpa using d1
            have e2 : decide (57 < ((s[k]'hlt2).toNat : Int)) = true := by simp [isDig] at hd; simp; omega
            clear d1 hd
            go_wp2
            go_ret2
            exact ⟨by rw [HX.out] <;> rfl, Below.refl _ _⟩
      · have htk : s.data.toList.take k = s.data.toList := List.take_of_length_le (by rw [Array.length_toList]; have := HSZ.out; show s.size ≤ k; omega)
        have hall : s.data.toList.all isDig = true := by rw [← htk]; exact HA.out
        have hov : ov = decide (18446744073709551616 ≤ val s.data.toList) := by rw [← htk]; exact HOV.out
        have hmv : ov = false → m = val s.data.toList := by rw [← htk]; exact HMV.out
        have HPZ := Lib.hid (HGOOD.out hall)
        clear hall htk
        generalize val s.data.toList = v at hov hmv HPZ
        cases ov
        · have hv : ¬ 18446744073709551616 ≤ v := of_decide_eq_false hov.symm
          obtain rfl := hmv rfl
          have hpz := HPZ.out
          by_cases hx : m < 9223372036854775808
          · rw [if_neg (by simp; omega)] at hpz
            have HX := Lib.hid hpz
            have d1 : decide (9223372036854775808 < (m : Int)) = false := by simp; omega
            have d2 : ((m : Int) == 9223372036854775808) = false := by simp; omega
            clear hpz hmv hov HMV HOV HPZ
            go_wp2
            go_ret2
            exact ⟨by rw [HX.out] <;> rfl, Below.refl _ _⟩
          · rw [if_pos (by simp; omega)] at hpz
            have HX := Lib.hid hpz
            by_cases hy : m = 9223372036854775808
            · have d1 : decide (9223372036854775808 < (m : Int)) = false := by simp; omega
              have d2 : ((m : Int) == 9223372036854775808) = true := by simp; omega
              clear hpz hmv hov HMV HOV HPZ hy hx
              go_wp2
              go_ret2
              exact ⟨by rw [HX.out] <;> rfl, Below.refl _ _⟩
            · have d1 : decide (9223372036854775808 < (m : Int)) = true := by simp; omega
              clear hpz hmv hov HMV HOV HPZ hy hx
              go_wp2
              go_ret2
              exact ⟨by rw [HX.out] <;> rfl, Below.refl _ _⟩
        · have hv : 18446744073709551616 ≤ v := of_decide_eq_true hov.symm
          have hpz := HPZ.out
          rw [if_pos (by simp; omega)] at hpz
          have HX := Lib.hid hpz
          clear hpz hmv hov HMV HOV HPZ
          go_wp2
          go_ret2
          exact ⟨by rw [HX.out] <;> rfl, Below.refl _ _⟩

theorem bad_dash (s : ByteArray) (g0 : 0 < s.size) (h45 : (s[0]'g0).toNat = 45) : good s.data.toList = false := bad_at (mem_data s 0 g0) (by simp [isDig]; omega)

set_option maxRecDepth 100000 in
set_option maxHeartbeats 4000000 in
theorem rparse_m_z (s : ByteArray) (w : World) (hz : s.size = 1) (h45 : (s[0]'(by omega)).toNat = 45) : Calls Tryd.prog 24 #[.string s, .bool true] w (SaidR s true w) := by
  have g0 : 0 < s.size := by omega
  have hm := not_minus_short s true (by omega)
  have HX : Hid (pz s.data.toList true = (0, 8)) := Lib.hid (pz_bad (by rw [body_plain hm]; exact bad_dash s g0 h45))
  have g1 : decide (0 < (s.size : Int)) = true := decide_eq_true (by omega)
  have g2 : (((s[0]'g0).toNat : Int) == 45) = true := by simp; omega
  have gs : (1 : Int) ≤ (s.size : Int) := by omega
  have e0 : (((s.size - 1 : Nat) : Int) == 0) = true := beq_iff_eq.2 (by omega)
  clear hz h45 hm
  unfold SaidR
  go_enter Tryd.func24, Tryd.ntmps24
  go_wp2
  go_ret2
  exact ⟨by rw [HX.out] <;> rfl, Below.refl _ _⟩

set_option maxRecDepth 100000 in
set_option maxHeartbeats 4000000 in
theorem rparse_m_b (s : ByteArray) (w : World) (h1 : 1 < s.size) (h45 : (s[0]'(by omega)).toNat = 45) (h48 : (s[1]'h1).toNat = 48) : Calls Tryd.prog 24 #[.string s, .bool true] w (SaidR s true w) := by
  have g0 : 0 < s.size := by omega
  have hm : minus s.data.toList true = false := by
    have e1 : s[1]'h1 = 48 := UInt8.toNat_inj.1 h48
    simp only [minus, head_data s (by omega), tail_data s h1, len_data, e1]
    simp
  have HX : Hid (pz s.data.toList true = (0, 8)) := Lib.hid (pz_bad (by rw [body_plain hm]; exact bad_dash s g0 h45))
  have g1 : decide (0 < (s.size : Int)) = true := decide_eq_true (by omega)
  have g2 : (((s[0]'g0).toNat : Int) == 45) = true := by simp; omega
  have e0 : (((s.size - 1 : Nat) : Int) == 0) = false := beq_eq_false_iff_ne.2 (by omega)
  have hh1 := ext_head s h1
  have c0 : ((((s.extract 1 s.size)[0]'(ext_lt s 0 h1)).toNat : Int) == 48) = true := by rw [hh1]; simp; omega
  clear h45 h48 hm hh1
  unfold SaidR
  by_cases hg : 1 < s.size - 1
  · have gg : decide (1 < ((s.size - 1 : Nat) : Int)) = true := by simp; omega
    go_enter Tryd.func24, Tryd.ntmps24
    go_wp2
    go_ret2
    exact ⟨by rw [HX.out] <;> rfl, Below.refl _ _⟩
  · have gg : decide (1 < ((s.size - 1 : Nat) : Int)) = false := by simp; omega
    go_enter Tryd.func24, Tryd.ntmps24
    go_wp2
    go_ret2
    exact ⟨by rw [HX.out] <;> rfl, Below.refl _ _⟩

set_option maxRecDepth 100000 in
set_option maxHeartbeats 4000000 in
theorem rparse_m_l (s : ByteArray) (w : World) (hs : s.size ≤ 140737488351232) (h1 : 1 < s.size) (h45 : (s[0]'(by omega)).toNat = 45) (h48 : ¬ (s[1]'h1).toNat = 48) : Calls Tryd.prog 24 #[.string s, .bool true] w (SaidR s true w) := by
  have g0 : 0 < s.size := by omega
  have hm := minus_of s h1 h45 h48
  have hbd : body s.data.toList true = (s.extract 1 s.size).data.toList := by rw [ext_data, body, hm]; rfl
  have HSZ := Lib.hid (ext_size s)
  have he0 : (s.extract 1 s.size).data.toList ≠ [] := by intro e; have := len_data (s.extract 1 s.size); rw [e, ext_size] at this; simp at this; omega
  have hh1 := ext_head s h1
  have c0 : ((((s.extract 1 s.size)[0]'(ext_lt s 0 h1)).toNat : Int) == 48) = false := by rw [hh1]; simp; omega
  have hh : (s.extract 1 s.size).data.toList.head? ≠ some 48 := by
    rw [head_data _ (ext_lt s 0 h1), hh1]
    exact fun e => h48 (by rw [Option.some.inj e]; rfl)
  have HBAD : Hid (good (s.extract 1 s.size).data.toList = false → pz s.data.toList true = (0, 8)) := Lib.hid (fun h => pz_bad (by rw [hbd]; exact h))
  have HGOOD : Hid ((s.extract 1 s.size).data.toList.all isDig = true → pz s.data.toList true = if 9223372036854775808 < val (s.extract 1 s.size).data.toList then (0, 9) else (IntKind.u64.wrap (-(val (s.extract 1 s.size).data.toList : Int)), 0)) :=
    Lib.hid (fun h => by have := pz_minus hm (by rw [← ext_data]; exact good_mk he0 h (.inr hh)); rw [← ext_data] at this; exact this)
  have g1 : decide (0 < (s.size : Int)) = true := decide_eq_true (by omega)
  have g2 : (((s[0]'g0).toNat : Int) == 45) = true := by simp; omega
  have e0 : (((s.size - 1 : Nat) : Int) == 0) = false := beq_eq_false_iff_ne.2 (by omega)
  clear hm hbd he0 hh1 hh h45 h48
  unfold SaidR
  go_enter Tryd.func24, Tryd.ntmps24
  go_wp2
  go_loop [7, 8, 9] (fun n o i => ∃ (k m : Nat) (ov : Bool), k ≤ (s.size - 1) ∧ m < 18446744073709551616 ∧ ((s.extract 1 s.size).data.toList.take k).all isDig = true ∧ (ov = false → m = val ((s.extract 1 s.size).data.toList.take k)) ∧ ov = decide (18446744073709551616 ≤ val ((s.extract 1 s.size).data.toList.take k)) ∧ n = .int .u64 m ∧ o = .bool ov ∧ i = .int .i64 k) (fun _ _ i => (s.size - 1) - (intOf i).toNat)
  case atStart => exact ⟨0, 0, false, Nat.zero_le _, by omega, rfl, (fun _ => rfl), (show false = decide (18446744073709551616 ≤ val []) by decide), rfl, rfl, rfl⟩
  case round =>
    obtain ⟨k, m, ov, hk, hm64, hall, hmv, hov, rfl, rfl, rfl⟩ := hrel
    have HA := Lib.hid hall; clear hall
    have HMV := Lib.hid hmv; clear hmv
    have HOV := Lib.hid hov; clear hov
    by_cases hlt : k < (s.size - 1)
    · have hlt2 : k < (s.extract 1 s.size).size := by have := HSZ.out; omega
      have HTK := Lib.hid (take_data (s.extract 1 s.size) k hlt2)
      by_cases hd : isDig ((s.extract 1 s.size)[k]'hlt2) = true
      · have hdd := isDig_iff.1 hd
        have d1 : decide ((((s.extract 1 s.size)[k]'hlt2).toNat : Int) < 48) = false := by simp; omega
        have d2 : decide (57 < (((s.extract 1 s.size)[k]'hlt2).toNat : Int)) = false := by simp; omega
        have d3 : 48 ≤ ((s.extract 1 s.size)[k]'hlt2).toNat := hdd.1
        have d4 : ((s.extract 1 s.size)[k]'hlt2).toNat ≤ 57 := hdd.2
        have HV2 : Hid (val ((s.extract 1 s.size).data.toList.take (k + 1)) = 10 * val ((s.extract 1 s.size).data.toList.take k) + (((s.extract 1 s.size)[k]'hlt2).toNat - 48)) := by rw [HTK.out]; exact Lib.hid (val_snoc _ _)
        have HALL : Hid (((s.extract 1 s.size).data.toList.take (k + 1)).all isDig = true) := by rw [HTK.out, List.all_append, HA.out]; exact Lib.hid (by simp [hd])
        clear hd hdd
        cases ov
        · go_wp2
          go_round
          case rel =>
            have h1 := HMV.out rfl
            have h2 := HV2.out
            refine ⟨k + 1, (10 * m + (((s.extract 1 s.size)[k]'hlt2).toNat - 48)) % 18446744073709551616, decide (18446744073709551616 ≤ val ((s.extract 1 s.size).data.toList.take (k + 1))), by omega, by omega, HALL.out, ?_, rfl, ?_, ?_, by go_num⟩
            · intro hf
              have hf' := of_decide_eq_false hf
              omega
            · simp only [IntKind.wrap_u64]; congr 1; omega
            · congr 1; rw [decide_eq_decide]; omega
          case measure => first | (simp [intOf]; done) | (simp [intOf]; omega)
        · go_wp2
          go_round
          case rel =>
            have h1 := of_decide_eq_true HOV.out.symm
            have h2 := HV2.out
            refine ⟨k + 1, (10 * m + (((s.extract 1 s.size)[k]'hlt2).toNat - 48)) % 18446744073709551616, true, by omega, by omega, HALL.out, (fun h => absurd h (by decide)), ?_, ?_, rfl, by go_num⟩
            · exact (decide_eq_true (by omega)).symm
            · simp only [IntKind.wrap_u64]; congr 1; omega
          case measure => first | (simp [intOf]; done) | (simp [intOf]; omega)
      · have HX := Lib.hid (HBAD.out (by exact bad_at (mem_data _ k hlt2) (by simpa using hd)))
        by_cases d1 : (((s.extract 1 s.size)[k]'hlt2).toNat : Int) < 48
        · have e1 : decide ((((s.extract 1 s.size)[k]'hlt2).toNat : Int) < 48) = true := by simpa using d1
          clear d1 hd
          go_wp2
          go_ret2
          exact ⟨by rw [HX.out] <;> rfl, Below.refl _ _⟩
        · have e1 : decide ((((s.extract 1 s.size)[k]'hlt2).toNat : Int) < 48) = false := by simpa using d1
          have e2 : decide (57 < (((s.extract 1 s.size)[k]'hlt2).toNat : Int)) = true := by simp [isDig] at hd; simp; omega
          clear d1 hd
          go_wp2
          go_ret2
          exact ⟨by rw [HX.out] <;> rfl, Below.refl _ _⟩
    · have htk : (s.extract 1 s.size).data.toList.take k = (s.extract 1 s.size).data.toList := List.take_of_length_le (by rw [Array.length_toList]; have := HSZ.out; show (s.extract 1 s.size).size ≤ k; omega)
      have hall : (s.extract 1 s.size).data.toList.all isDig = true := by rw [← htk]; exact HA.out
      have hov : ov = decide (18446744073709551616 ≤ val (s.extract 1 s.size).data.toList) := by rw [← htk]; exact HOV.out
      have hmv : ov = false → m = val (s.extract 1 s.size).data.toList := by rw [← htk]; exact HMV.out
      have HPZ := Lib.hid (HGOOD.out hall)
      clear hall htk
      generalize val (s.extract 1 s.size).data.toList = v at hov hmv HPZ
      cases ov
      · have hv : ¬ 18446744073709551616 ≤ v := of_decide_eq_false hov.symm
        obtain rfl := hmv rfl
        have hpz := HPZ.out
        by_cases hx : 9223372036854775808 < m
        · rw [if_pos hx] at hpz
          have HX := Lib.hid hpz
          have d1 : decide (9223372036854775808 < (m : Int)) = true := by simp; omega
          clear hpz hmv hov HMV HOV HPZ hx
          go_wp2
          go_ret2
          exact ⟨by rw [HX.out] <;> rfl, Below.refl _ _⟩
        · rw [if_neg hx] at hpz
          have HX := Lib.hid hpz
          have d1 : decide (9223372036854775808 < (m : Int)) = false := by simp; omega
          clear hpz hmv hov HMV HOV HPZ hx
          by_cases hy : m = 9223372036854775808
          · have d2 : ((m : Int) == 9223372036854775808) = true := by simp; omega
            clear hy
            go_wp2
            go_ret2
            exact ⟨by rw [HX.out] <;> rfl, Below.refl _ _⟩
          · have d2 : ((m : Int) == 9223372036854775808) = false := by simp; omega
            clear hy
            go_wp2
            go_ret2
            exact ⟨by rw [HX.out] <;> rfl, Below.refl _ _⟩
      · have hv : 18446744073709551616 ≤ v := of_decide_eq_true hov.symm
        have hpz := HPZ.out
        rw [if_pos (by omega)] at hpz
        have HX := Lib.hid hpz
        clear hpz hmv hov HMV HOV HPZ
        go_wp2
        go_ret2
        exact ⟨by rw [HX.out] <;> rfl, Below.refl _ _⟩

theorem rparse_any (s : ByteArray) (sg : Bool) (w : World) (hs : s.size ≤ 140737488351232) : Calls Tryd.prog 24 #[.string s, .bool sg] w (SaidR s sg w) := by
  by_cases hd : sg = true ∧ ∃ h : 0 < s.size, (s[0]'h).toNat = 45
  · obtain ⟨rfl, g0, h45⟩ := hd
    by_cases h1 : 1 < s.size
    · by_cases h48 : (s[1]'h1).toNat = 48
      · exact rparse_m_b s w h1 h45 h48
      · exact rparse_m_l s w hs h1 h45 h48
    · exact rparse_m_z s w (by omega) h45
  · by_cases hz : s.size = 0
    · cases sg
      · exact rparse_u_z s w hz
      · exact rparse_p_z s w hz (fun h e => hd ⟨rfl, h, e⟩)
    · by_cases hb : ∃ h : 1 < s.size, (s[0]'(by omega)).toNat = 48
      · obtain ⟨h1, h48⟩ := hb
        cases sg
        · exact rparse_u_b s w h1 h48
        · exact rparse_p_b s w h1 h48 (fun h e => hd ⟨rfl, h, e⟩)
      · have hx : (s[0]'(by omega)).toNat = 48 → s.size = 1 := fun e => by
          rcases Nat.lt_or_ge 1 s.size with h | h
          · exact absurd ⟨h, e⟩ hb
          · omega
        cases sg
        · exact rparse_u_l s w hs (by omega) hx
        · exact rparse_p_l s w hs (by omega) hx (fun h e => hd ⟨rfl, h, e⟩)
end rawQ
end Go.Proofs.YtfigkgpolpggcaaDoor
