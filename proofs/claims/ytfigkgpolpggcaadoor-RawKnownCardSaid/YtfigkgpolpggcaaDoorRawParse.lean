/- Walks of raw.Parse. Condition: strconv.ErrRange is laid. -/
import Derived.Test.YtfigkgpolpggcaaDoorRawText
namespace Go.Proofs.YtfigkgpolpggcaaDoor
open Go.RowKit Go.Bus Go.Bus.rawK Go.Bus.textK
set_option linter.unusedVariables false
namespace rawQ
theorem ret_int2e {a b : Int} (h : a = b) : Ending.returned (.tuple #[.int .u64 a, .nilIface]) = Ending.returned (.tuple #[.int .u64 b, .nilIface]) := by rw [h]
theorem take_data (d : ByteArray) (k : Nat) (h : k < d.size) : d.data.toList.take (k + 1) = d.data.toList.take k ++ [d[k]] := by
  rw [List.take_succ_eq_append_getElem (by simpa using h)]; rfl
theorem mem_data (d : ByteArray) (k : Nat) (h : k < d.size) : d[k] ∈ d.data.toList := Array.mem_toList_iff.2 (Array.getElem_mem (xs := d.data) h)
theorem bad_at {l : List UInt8} {c : UInt8} (hc : c ∈ l) (hd : isDig c = false) : good l = false := by
  have : l.all isDig = false := by rw [List.all_eq_false]; exact ⟨c, hc, by simp [hd]⟩
  simp [good, this]
theorem good_mk {l : List UInt8} (h0 : l ≠ []) (ha : l.all isDig = true) (hh : l.length = 1 ∨ l.head? ≠ some 48) : good l = true := by
  simp only [good, Bool.and_eq_true, Bool.not_eq_true', Bool.or_eq_true, decide_eq_true_eq, List.isEmpty_eq_false_iff, beq_eq_false_iff_ne]
  exact ⟨⟨h0, ha⟩, hh⟩
theorem head_data (s : ByteArray) (h : 0 < s.size) : s.data.toList.head? = some s[0] := by
  rw [List.head?_eq_getElem?, List.getElem?_eq_getElem (by rw [Array.length_toList]; exact h)]; rfl
theorem tail_data (s : ByteArray) (h : 1 < s.size) : s.data.toList.tail.head? = some s[1] := by
  rw [List.head?_eq_getElem?, List.getElem?_tail, List.getElem?_eq_getElem (by rw [Array.length_toList]; exact h)]; rfl
theorem len_data (s : ByteArray) : s.data.toList.length = s.size := Array.length_toList
theorem bad_nought {l : List UInt8} (h1 : 1 < l.length) (h : l.head? = some 48) : good l = false := by
  simp [good, h]; intro _ _; omega
theorem pz_bad {l : List UInt8} {s : Bool} (h : good (body l s) = false) : pz l s = (0, 8) := by rw [pz, if_pos h]
theorem pz_plain {l : List UInt8} {s : Bool} (hm : minus l s = false) (h : good l = true) : pz l s = if (if s then 9223372036854775808 else 18446744073709551616) ≤ val l then (0, 9) else ((val l : Int), 0) := by
  have hb : body l s = l := by rw [body, hm]; rfl
  rw [pz, hb, if_neg (by rw [h]; simp), if_neg (by rw [hm]; simp)]
theorem pz_minus {l : List UInt8} {s : Bool} (hm : minus l s = true) (h : good l.tail = true) : pz l s = if 9223372036854775808 < val l.tail then (0, 9) else (IntKind.u64.wrap (-(val l.tail : Int)), 0) := by
  have hb : body l s = l.tail := by rw [body, hm]; rfl
  rw [pz, hb, if_neg (by rw [h]; simp), if_pos hm]
theorem body_plain {l : List UInt8} {s : Bool} (hm : minus l s = false) : body l s = l := by rw [body, hm]; rfl
theorem e63 : (2 : Nat) ^ (64 - 1) = 9223372036854775808 := by decide
theorem parseI_plain {l : List UInt8} (h0 : l ≠ []) (h : l.all isDig = true) : Lib.parseIntB 64 l = if val l < 9223372036854775808 then .ok (val l : Int) else .range := by
  cases l with
  | nil => exact absurd rfl h0
  | cons c r =>
    have hc := h
    simp only [List.all_cons, Bool.and_eq_true] at hc
    have hd := isDig_iff.1 hc.1
    rw [Lib.parseIntB_plain 64 c r (by omega) (by omega), parseB h0 h, e63]
    generalize val (c :: r) = m
    by_cases h1 : m ≤ 18446744073709551615
    · rw [if_pos h1]
      by_cases h2 : m < 9223372036854775808
      · rw [if_pos h2]; simp only [Lib.signlessC]; rw [if_neg (by omega)]
      · rw [if_neg h2]; simp only [Lib.signlessC]; rw [if_pos (by omega)]
    · rw [if_neg h1, if_neg (by omega)]; rfl
theorem parseI_minus {r : List UInt8} (h0 : r ≠ []) (h : r.all isDig = true) : Lib.parseIntB 64 (45 :: r) = if val r ≤ 9223372036854775808 then .ok (-(val r : Int)) else .range := by
  rw [Lib.parseIntB_minus 64 r, parseB h0 h, e63]
  generalize val r = m
  by_cases h1 : m ≤ 18446744073709551615
  · rw [if_pos h1]
    by_cases h2 : m ≤ 9223372036854775808
    · rw [if_pos h2]; simp only [Lib.signedC]; rw [if_neg (by omega)]
    · rw [if_neg h2]; simp only [Lib.signedC]; rw [if_pos (by omega)]
  · rw [if_neg h1, if_neg (by omega)]; rfl

/-- An error's number as a value. -/
def errV (n : Int) : Value := if n = 0 then .nilIface else .iface 89 (.int .i64 n)
def Said (s : ByteArray) (sg : Bool) (w : World) (e : Ending) (w' : World) : Prop := e = .returned (.tuple #[.int .u64 (pz s.data.toList sg).1, errV (pz s.data.toList sg).2]) ∧ Below w.heap.size w w'

set_option maxRecDepth 100000 in
set_option maxHeartbeats 2000000 in
theorem parse_u_z (s : ByteArray) (w : World) (hz : s.size = 0) (hm : minus s.data.toList false = false) : Calls Tryd.prog 23 #[.string s, .bool false] w (Said s false w) := by
  have hnil : s.data.toList = [] := List.eq_nil_of_length_eq_zero (by rw [len_data]; exact hz)
  have HX : Hid (pz s.data.toList false = (0, 8)) := by
    exact Lib.hid (pz_bad (by rw [body_plain hm, hnil]; rfl))
  have he : s.toList = [] := by rw [Lib.toList_data]; exact hnil
  have g1 : decide (1 < (s.size : Int)) = false := by simp; omega
  clear hnil hz hm
  unfold Said
  go_enter Tryd.func23, Tryd.ntmps23
  go_wp2
  go_ret2
  exact ⟨by rw [HX.out]; rfl, Below.refl _ _⟩

set_option maxRecDepth 100000 in
set_option maxHeartbeats 2000000 in
theorem parse_u_b (s : ByteArray) (w : World) (hz : 1 < s.size) (h48 : (s[0]'(by omega)).toNat = 48) (hm : minus s.data.toList false = false) : Calls Tryd.prog 23 #[.string s, .bool false] w (Said s false w) := by
  have g0 : 0 < s.size := by omega
  have hh : s.data.toList.head? = some 48 := by rw [head_data s g0]; exact congrArg some (UInt8.toNat_inj.1 h48)
  have HX : Hid (pz s.data.toList false = (0, 8)) := by
    exact Lib.hid (pz_bad (by rw [body_plain hm]; exact bad_nought (by rw [len_data]; exact hz) hh))
  have he0 : s.data.toList ≠ [] := by intro e; have := len_data s; rw [e] at this; simp at this; omega
  have he : (s.toList = []) = False := by rw [Lib.toList_data]; simpa using he0
  have he' : s.toList.isEmpty = false := by rw [Lib.toList_data]; simpa using he0
  have c0 : (((s[0]'g0).toNat : Int) == 48) = true := by simp; omega
  have c45 : (((s[0]'g0).toNat : Int) == 45) = false := by simp; omega
  have g1 : decide (1 < (s.size : Int)) = true := by simp; omega
  clear hm hh he0 h48
  unfold Said
  go_enter Tryd.func23, Tryd.ntmps23
  go_wp2
  go_ret2
  exact ⟨by rw [HX.out]; rfl, Below.refl _ _⟩

theorem head_u (s : ByteArray) (hz : 0 < s.size) (h1x : (s[0]'hz).toNat = 48 → s.size = 1) : s.data.toList ≠ [] ∧ (s.data.toList.length = 1 ∨ s.data.toList.head? ≠ some 48) := by
  refine ⟨by intro e; have := len_data s; rw [e] at this; simp at this; omega, ?_⟩
  by_cases h : (s[0]'hz).toNat = 48
  · left; rw [len_data]; exact h1x h
  · right; rw [head_data s hz]; intro e; exact h (by rw [Option.some.inj e]; rfl)

set_option maxRecDepth 100000 in
set_option maxHeartbeats 4000000 in
theorem parse_u_l (s : ByteArray) (w : World) (hs : s.size ≤ 140737488351232) (hz : 0 < s.size) (h1x : (s[0]'hz).toNat = 48 → s.size = 1) (hm : minus s.data.toList false = false) (hr : laidK.Rng w) : Calls Tryd.prog 23 #[.string s, .bool false] w (Said s false w) := by
  obtain ⟨he0, hgh⟩ := head_u s hz h1x
  obtain ⟨tp, p, hvar⟩ := hr
  have HV := Lib.hid hvar; clear hvar
  unfold Said
  have HM := Lib.hid hm
  have HNE := Lib.hid he0
  have HGH := Lib.hid hgh
  have HBD := Lib.hid (body_plain hm)
  have HSZ := Lib.hid (show s.size = s.size from rfl)
  have he : (s.toList = []) = False := by rw [Lib.toList_data]; simpa using he0
  have he' : s.toList.isEmpty = false := by rw [Lib.toList_data]; simpa using he0
  clear hm he0 hgh
  by_cases h48 : (s[0]'hz).toNat = 48
  · have gg : decide (1 < (s.size : Int)) = false := by have := h1x h48; simp; omega
    have c0 : (((s[0]'hz).toNat : Int) == 48) = true := by simp; omega
    have c45 : (((s[0]'hz).toNat : Int) == 45) = false := by simp; omega
    clear h1x h48
    go_enter Tryd.func23, Tryd.ntmps23
    go_wp2
    go_loop [46] (fun i => ∃ k : Nat, k ≤ s.size ∧ i = .int .i64 k ∧ (s.data.toList.take k).all isDig = true) (fun i => s.size - (intOf i).toNat)
    case atStart => exact ⟨0, Nat.zero_le _, rfl, rfl⟩
    case round =>
      obtain ⟨k, hk, rfl, hall⟩ := hrel
      have HA := Lib.hid hall; clear hall
      by_cases hlt : k < s.size
      · have hlt2 : k < s.size := by have := HSZ.out; omega
        have HTK := Lib.hid (take_data s k hlt2)
        by_cases hd : isDig (s[k]'hlt2) = true
        · have hdd := isDig_iff.1 hd
          have d1 : decide (((s[k]'hlt2).toNat : Int) < 48) = false := by simp; omega
          have d2 : decide (57 < ((s[k]'hlt2).toNat : Int)) = false := by simp; omega
          have HD := Lib.hid hd
          clear hd hdd
          go_wp2
          go_round
          case rel => exact ⟨k + 1, by omega, by go_num, by rw [HTK.out, List.all_append, HA.out]; simp [HD.out]⟩
          case measure => first | (simp [intOf]; done) | (simp [intOf]; omega)
        · have HX : Hid (pz s.data.toList false = (0, 8)) := by
            exact pz_bad (by rw [HBD.out]; exact bad_at (mem_data _ k hlt2) (by simpa using hd))
          by_cases d1 : ((s[k]'hlt2).toNat : Int) < 48
          · have e1 : decide (((s[k]'hlt2).toNat : Int) < 48) = true := by simpa using d1
            clear d1 hd
            go_wp2
            go_ret2
            exact ⟨by rw [HX.out]; rfl, Below.refl _ _⟩
          · have e1 : decide (((s[k]'hlt2).toNat : Int) < 48) = false := by simpa using d1
            have e2 : decide (57 < ((s[k]'hlt2).toNat : Int)) = true := by simp [isDig] at hd; simp; omega
            clear d1 hd
            go_wp2
            go_ret2
            exact ⟨by rw [HX.out]; rfl, Below.refl _ _⟩
      · have hall : s.data.toList.all isDig = true := by
          have := HA.out
          rwa [List.take_of_length_le (by rw [Array.length_toList]; have := HSZ.out; show s.size ≤ k; omega)] at this
        have hgood : good s.data.toList = true := good_mk HNE.out hall HGH.out
        have hpz := pz_plain HM.out hgood
        have hpu := parseB HNE.out hall
        clear hgood hall HA
        generalize val s.data.toList = m at hpz hpu
        by_cases hv : m ≤ 18446744073709551615
        · rw [if_pos hv] at hpu
          rw [if_neg (by simp; omega)] at hpz
          have HX := Lib.hid hpz; clear hpz
          have HP := Lib.hid hpu; clear hpu
          go_wp2_with fail
          refine (Tryd.strconv_ParseUint_10_at64_ok s (by omega) _ HP.out _).mono ?_
          rintro e w1 ⟨rfl, hw⟩
          have hb : Below w.heap.size w w1 := by
            rcases hw with rfl | rfl
            · exact Below.refl _ _
            · exact Lib.bytesWorld_below _ _ _
          have HB := Lib.hid hb
          clear hb hw
          go_wp2
          go_ret2
          exact ⟨by rw [HX.out]; rfl, HB.out⟩
        · rw [if_neg hv] at hpu
          rw [if_pos (by simp; omega)] at hpz
          have HX := Lib.hid hpz; clear hpz
          have HP := Lib.hid hpu; clear hpu
          go_wp2_with fail
          refine (Tryd.strconv_ParseUint_10_at64_range_var s (by omega) HP.out tp p _ HV.out).mono ?_
          rintro e w1 ⟨N, rfl, hN, hcell, hb⟩
          have HB := Lib.hid hb
          clear hb hN hcell
          go_wp2
          go_ret2
          exact ⟨by rw [HX.out]; rfl, HB.out⟩
  · have c0 : (((s[0]'hz).toNat : Int) == 48) = false := by simp; omega
    clear h1x h48
    go_enter Tryd.func23, Tryd.ntmps23
    go_wp2
    go_loop [46] (fun i => ∃ k : Nat, k ≤ s.size ∧ i = .int .i64 k ∧ (s.data.toList.take k).all isDig = true) (fun i => s.size - (intOf i).toNat)
    case atStart => exact ⟨0, Nat.zero_le _, rfl, rfl⟩
    case round =>
      obtain ⟨k, hk, rfl, hall⟩ := hrel
      have HA := Lib.hid hall; clear hall
      by_cases hlt : k < s.size
      · have hlt2 : k < s.size := by have := HSZ.out; omega
        have HTK := Lib.hid (take_data s k hlt2)
        by_cases hd : isDig (s[k]'hlt2) = true
        · have hdd := isDig_iff.1 hd
          have d1 : decide (((s[k]'hlt2).toNat : Int) < 48) = false := by simp; omega
          have d2 : decide (57 < ((s[k]'hlt2).toNat : Int)) = false := by simp; omega
          have HD := Lib.hid hd
          clear hd hdd
          go_wp2
          go_round
          case rel => exact ⟨k + 1, by omega, by go_num, by rw [HTK.out, List.all_append, HA.out]; simp [HD.out]⟩
          case measure => first | (simp [intOf]; done) | (simp [intOf]; omega)
        · have HX : Hid (pz s.data.toList false = (0, 8)) := by
            exact pz_bad (by rw [HBD.out]; exact bad_at (mem_data _ k hlt2) (by simpa using hd))
          by_cases d1 : ((s[k]'hlt2).toNat : Int) < 48
          · have e1 : decide (((s[k]'hlt2).toNat : Int) < 48) = true := by simpa using d1
            clear d1 hd
            go_wp2
            go_ret2
            exact ⟨by rw [HX.out]; rfl, Below.refl _ _⟩
          · have e1 : decide (((s[k]'hlt2).toNat : Int) < 48) = false := by simpa using d1
            have e2 : decide (57 < ((s[k]'hlt2).toNat : Int)) = true := by simp [isDig] at hd; simp; omega
            clear d1 hd
            go_wp2
            go_ret2
            exact ⟨by rw [HX.out]; rfl, Below.refl _ _⟩
      · have hall : s.data.toList.all isDig = true := by
          have := HA.out
          rwa [List.take_of_length_le (by rw [Array.length_toList]; have := HSZ.out; show s.size ≤ k; omega)] at this
        have hgood : good s.data.toList = true := good_mk HNE.out hall HGH.out
        have hpz := pz_plain HM.out hgood
        have hpu := parseB HNE.out hall
        clear hgood hall HA
        generalize val s.data.toList = m at hpz hpu
        by_cases hv : m ≤ 18446744073709551615
        · rw [if_pos hv] at hpu
          rw [if_neg (by simp; omega)] at hpz
          have HX := Lib.hid hpz; clear hpz
          have HP := Lib.hid hpu; clear hpu
          go_wp2_with fail
          refine (Tryd.strconv_ParseUint_10_at64_ok s (by omega) _ HP.out _).mono ?_
          rintro e w1 ⟨rfl, hw⟩
          have hb : Below w.heap.size w w1 := by
            rcases hw with rfl | rfl
            · exact Below.refl _ _
            · exact Lib.bytesWorld_below _ _ _
          have HB := Lib.hid hb
          clear hb hw
          go_wp2
          go_ret2
          exact ⟨by rw [HX.out]; rfl, HB.out⟩
        · rw [if_neg hv] at hpu
          rw [if_pos (by simp; omega)] at hpz
          have HX := Lib.hid hpz; clear hpz
          have HP := Lib.hid hpu; clear hpu
          go_wp2_with fail
          refine (Tryd.strconv_ParseUint_10_at64_range_var s (by omega) HP.out tp p _ HV.out).mono ?_
          rintro e w1 ⟨N, rfl, hN, hcell, hb⟩
          have HB := Lib.hid hb
          clear hb hN hcell
          go_wp2
          go_ret2
          exact ⟨by rw [HX.out]; rfl, HB.out⟩

set_option maxRecDepth 100000 in
set_option maxHeartbeats 2000000 in
theorem parse_p_z (s : ByteArray) (w : World) (hz : s.size = 0) (hm : minus s.data.toList true = false) : Calls Tryd.prog 23 #[.string s, .bool true] w (Said s true w) := by
  have hnil : s.data.toList = [] := List.eq_nil_of_length_eq_zero (by rw [len_data]; exact hz)
  have HX : Hid (pz s.data.toList true = (0, 8)) := by
    exact Lib.hid (pz_bad (by rw [body_plain hm, hnil]; rfl))
  have he : s.toList = [] := by rw [Lib.toList_data]; exact hnil
  have g1 : decide (1 < (s.size : Int)) = false := by simp; omega
  clear hnil hz hm
  unfold Said
  go_enter Tryd.func23, Tryd.ntmps23
  go_wp2
  go_ret2
  exact ⟨by rw [HX.out]; rfl, Below.refl _ _⟩

set_option maxRecDepth 100000 in
set_option maxHeartbeats 2000000 in
theorem parse_p_b (s : ByteArray) (w : World) (hz : 1 < s.size) (h48 : (s[0]'(by omega)).toNat = 48) (hm : minus s.data.toList true = false) : Calls Tryd.prog 23 #[.string s, .bool true] w (Said s true w) := by
  have g0 : 0 < s.size := by omega
  have hh : s.data.toList.head? = some 48 := by rw [head_data s g0]; exact congrArg some (UInt8.toNat_inj.1 h48)
  have HX : Hid (pz s.data.toList true = (0, 8)) := by
    exact Lib.hid (pz_bad (by rw [body_plain hm]; exact bad_nought (by rw [len_data]; exact hz) hh))
  have he0 : s.data.toList ≠ [] := by intro e; have := len_data s; rw [e] at this; simp at this; omega
  have he : (s.toList = []) = False := by rw [Lib.toList_data]; simpa using he0
  have he' : s.toList.isEmpty = false := by rw [Lib.toList_data]; simpa using he0
  have c0 : (((s[0]'g0).toNat : Int) == 48) = true := by simp; omega
  have c45 : (((s[0]'g0).toNat : Int) == 45) = false := by simp; omega
  have g1 : decide (1 < (s.size : Int)) = true := by simp; omega
  clear hm hh he0 h48
  unfold Said
  go_enter Tryd.func23, Tryd.ntmps23
  go_wp2
  go_ret2
  exact ⟨by rw [HX.out]; rfl, Below.refl _ _⟩

theorem head_p (s : ByteArray) (hz : 0 < s.size) (h1x : (s[0]'hz).toNat = 48 → s.size = 1) : s.data.toList ≠ [] ∧ (s.data.toList.length = 1 ∨ s.data.toList.head? ≠ some 48) := by
  refine ⟨by intro e; have := len_data s; rw [e] at this; simp at this; omega, ?_⟩
  by_cases h : (s[0]'hz).toNat = 48
  · left; rw [len_data]; exact h1x h
  · right; rw [head_data s hz]; intro e; exact h (by rw [Option.some.inj e]; rfl)

set_option maxRecDepth 100000 in
set_option maxHeartbeats 4000000 in
theorem parse_p_l (s : ByteArray) (w : World) (hs : s.size ≤ 140737488351232) (hz : 0 < s.size) (h1x : (s[0]'hz).toNat = 48 → s.size = 1) (hm : minus s.data.toList true = false) (hr : laidK.Rng w) : Calls Tryd.prog 23 #[.string s, .bool true] w (Said s true w) := by
  have hway : s.size ≤ 1 ∨ (∃ h : 1 < s.size, ¬ (s[0]'(by omega)).toNat = 45) ∨ (∃ h : 1 < s.size, (s[0]'(by omega)).toNat = 45 ∧ (s[1]'h).toNat = 48) := by
    by_cases h1 : 1 < s.size
    · by_cases h2 : (s[0]'(by omega)).toNat = 45
      · by_cases h3 : (s[1]'h1).toNat = 48
        · exact .inr (.inr ⟨h1, h2, h3⟩)
        · exfalso
          have e0 : s[0]'(by omega) = 45 := UInt8.toNat_inj.1 h2
          have e1 : s[1]'h1 ≠ 48 := fun e => h3 (by rw [e]; rfl)
          have := hm
          simp only [minus, head_data s (by omega), tail_data s h1, len_data, e0] at this
          simp [h1, e1] at this
      · exact .inr (.inl ⟨h1, h2⟩)
    · exact .inl (by omega)
  obtain ⟨he0, hgh⟩ := head_p s hz h1x
  obtain ⟨tp, p, hvar⟩ := hr
  have HV := Lib.hid hvar; clear hvar
  unfold Said
  rcases hway with h1 | ⟨h1, h2⟩ | ⟨h1, h2, h3⟩
  · have HM := Lib.hid hm
    have HNE := Lib.hid he0
    have HGH := Lib.hid hgh
    have HBD := Lib.hid (body_plain hm)
    have HSZ := Lib.hid (show s.size = s.size from rfl)
    have he : (s.toList = []) = False := by rw [Lib.toList_data]; simpa using he0
    have he' : s.toList.isEmpty = false := by rw [Lib.toList_data]; simpa using he0
    clear hm he0 hgh
    have g1 : decide (1 < (s.size : Int)) = false := by simp; omega
    clear h1
    by_cases h48 : (s[0]'hz).toNat = 48
    · have gg : decide (1 < (s.size : Int)) = false := by have := h1x h48; simp; omega
      have c0 : (((s[0]'hz).toNat : Int) == 48) = true := by simp; omega
      have c45 : (((s[0]'hz).toNat : Int) == 45) = false := by simp; omega
      clear h1x h48
      go_enter Tryd.func23, Tryd.ntmps23
      go_wp2
      go_loop [46] (fun i => ∃ k : Nat, k ≤ s.size ∧ i = .int .i64 k ∧ (s.data.toList.take k).all isDig = true) (fun i => s.size - (intOf i).toNat)
      case atStart => exact ⟨0, Nat.zero_le _, rfl, rfl⟩
      case round =>
        obtain ⟨k, hk, rfl, hall⟩ := hrel
        have HA := Lib.hid hall; clear hall
        by_cases hlt : k < s.size
        · have hlt2 : k < s.size := by have := HSZ.out; omega
          have HTK := Lib.hid (take_data s k hlt2)
          by_cases hd : isDig (s[k]'hlt2) = true
          · have hdd := isDig_iff.1 hd
            have d1 : decide (((s[k]'hlt2).toNat : Int) < 48) = false := by simp; omega
            have d2 : decide (57 < ((s[k]'hlt2).toNat : Int)) = false := by simp; omega
            have HD := Lib.hid hd
            clear hd hdd
            go_wp2
            go_round
            case rel => exact ⟨k + 1, by omega, by go_num, by rw [HTK.out, List.all_append, HA.out]; simp [HD.out]⟩
            case measure => first | (simp [intOf]; done) | (simp [intOf]; omega)
          · have HX : Hid (pz s.data.toList true = (0, 8)) := by
              exact pz_bad (by rw [HBD.out]; exact bad_at (mem_data _ k hlt2) (by simpa using hd))
            by_cases d1 : ((s[k]'hlt2).toNat : Int) < 48
            · have e1 : decide (((s[k]'hlt2).toNat : Int) < 48) = true := by simpa using d1
              clear d1 hd
              go_wp2
              go_ret2
              exact ⟨by rw [HX.out]; rfl, Below.refl _ _⟩
            · have e1 : decide (((s[k]'hlt2).toNat : Int) < 48) = false := by simpa using d1
              have e2 : decide (57 < ((s[k]'hlt2).toNat : Int)) = true := by simp [isDig] at hd; simp; omega
              clear d1 hd
              go_wp2
              go_ret2
              exact ⟨by rw [HX.out]; rfl, Below.refl _ _⟩
        · have hall : s.data.toList.all isDig = true := by
            have := HA.out
            rwa [List.take_of_length_le (by rw [Array.length_toList]; have := HSZ.out; show s.size ≤ k; omega)] at this
          have hgood : good s.data.toList = true := good_mk HNE.out hall HGH.out
          have hpz := pz_plain HM.out hgood
          have hpu := parseI_plain HNE.out hall
          clear hgood hall HA
          generalize val s.data.toList = m at hpz hpu
          by_cases hv : m < 9223372036854775808
          · rw [if_pos hv] at hpu
            rw [if_neg (by simp; omega)] at hpz
            have HX := Lib.hid hpz; clear hpz
            have HP := Lib.hid hpu; clear hpu
            go_wp2_with fail
            refine (Tryd.strconv_ParseInt_10_at64_ok s (by omega) _ HP.out _).mono ?_
            rintro e w1 ⟨rfl, hw⟩
            have hb : Below w.heap.size w w1 := by
              rcases hw with rfl | ⟨t, rfl⟩
              · exact Below.refl _ _
              · exact Lib.bytesWorld_below _ _ _
            have HB := Lib.hid hb
            clear hb hw
            go_wp2
            go_ret2
            exact ⟨by rw [HX.out]; first | rfl | exact ret_int2e (by rw [IntKind.wrap_u64]; omega), HB.out⟩
          · rw [if_neg hv] at hpu
            rw [if_pos (by simp; omega)] at hpz
            have HX := Lib.hid hpz; clear hpz
            have HP := Lib.hid hpu; clear hpu
            go_wp2_with fail
            refine (Tryd.strconv_ParseInt_10_at64_range_var s (by omega) HP.out tp p _ HV.out).mono ?_
            rintro e w1 ⟨N, rfl, hN, hcell, hb⟩
            have HB := Lib.hid hb
            clear hb hN hcell
            go_wp2
            go_ret2
            exact ⟨by rw [HX.out]; rfl, HB.out⟩
    · have c0 : (((s[0]'hz).toNat : Int) == 48) = false := by simp; omega
      clear h1x h48
      go_enter Tryd.func23, Tryd.ntmps23
      go_wp2
      go_loop [46] (fun i => ∃ k : Nat, k ≤ s.size ∧ i = .int .i64 k ∧ (s.data.toList.take k).all isDig = true) (fun i => s.size - (intOf i).toNat)
      case atStart => exact ⟨0, Nat.zero_le _, rfl, rfl⟩
      case round =>
        obtain ⟨k, hk, rfl, hall⟩ := hrel
        have HA := Lib.hid hall; clear hall
        by_cases hlt : k < s.size
        · have hlt2 : k < s.size := by have := HSZ.out; omega
          have HTK := Lib.hid (take_data s k hlt2)
          by_cases hd : isDig (s[k]'hlt2) = true
          · have hdd := isDig_iff.1 hd
            have d1 : decide (((s[k]'hlt2).toNat : Int) < 48) = false := by simp; omega
            have d2 : decide (57 < ((s[k]'hlt2).toNat : Int)) = false := by simp; omega
            have HD := Lib.hid hd
            clear hd hdd
            go_wp2
            go_round
            case rel => exact ⟨k + 1, by omega, by go_num, by rw [HTK.out, List.all_append, HA.out]; simp [HD.out]⟩
            case measure => first | (simp [intOf]; done) | (simp [intOf]; omega)
          · have HX : Hid (pz s.data.toList true = (0, 8)) := by
              exact pz_bad (by rw [HBD.out]; exact bad_at (mem_data _ k hlt2) (by simpa using hd))
            by_cases d1 : ((s[k]'hlt2).toNat : Int) < 48
            · have e1 : decide (((s[k]'hlt2).toNat : Int) < 48) = true := by simpa using d1
              clear d1 hd
              go_wp2
              go_ret2
              exact ⟨by rw [HX.out]; rfl, Below.refl _ _⟩
            · have e1 : decide (((s[k]'hlt2).toNat : Int) < 48) = false := by simpa using d1
              have e2 : decide (57 < ((s[k]'hlt2).toNat : Int)) = true := by simp [isDig] at hd; simp; omega
              clear d1 hd
              go_wp2
              go_ret2
              exact ⟨by rw [HX.out]; rfl, Below.refl _ _⟩
        · have hall : s.data.toList.all isDig = true := by
            have := HA.out
            rwa [List.take_of_length_le (by rw [Array.length_toList]; have := HSZ.out; show s.size ≤ k; omega)] at this
          have hgood : good s.data.toList = true := good_mk HNE.out hall HGH.out
          have hpz := pz_plain HM.out hgood
          have hpu := parseI_plain HNE.out hall
          clear hgood hall HA
          generalize val s.data.toList = m at hpz hpu
          by_cases hv : m < 9223372036854775808
          · rw [if_pos hv] at hpu
            rw [if_neg (by simp; omega)] at hpz
            have HX := Lib.hid hpz; clear hpz
            have HP := Lib.hid hpu; clear hpu
            go_wp2_with fail
            refine (Tryd.strconv_ParseInt_10_at64_ok s (by omega) _ HP.out _).mono ?_
            rintro e w1 ⟨rfl, hw⟩
            have hb : Below w.heap.size w w1 := by
              rcases hw with rfl | ⟨t, rfl⟩
              · exact Below.refl _ _
              · exact Lib.bytesWorld_below _ _ _
            have HB := Lib.hid hb
            clear hb hw
            go_wp2
            go_ret2
            exact ⟨by rw [HX.out]; first | rfl | exact ret_int2e (by rw [IntKind.wrap_u64]; omega), HB.out⟩
          · rw [if_neg hv] at hpu
            rw [if_pos (by simp; omega)] at hpz
            have HX := Lib.hid hpz; clear hpz
            have HP := Lib.hid hpu; clear hpu
            go_wp2_with fail
            refine (Tryd.strconv_ParseInt_10_at64_range_var s (by omega) HP.out tp p _ HV.out).mono ?_
            rintro e w1 ⟨N, rfl, hN, hcell, hb⟩
            have HB := Lib.hid hb
            clear hb hN hcell
            go_wp2
            go_ret2
            exact ⟨by rw [HX.out]; rfl, HB.out⟩
  · have HM := Lib.hid hm
    have HNE := Lib.hid he0
    have HGH := Lib.hid hgh
    have HBD := Lib.hid (body_plain hm)
    have HSZ := Lib.hid (show s.size = s.size from rfl)
    have he : (s.toList = []) = False := by rw [Lib.toList_data]; simpa using he0
    have he' : s.toList.isEmpty = false := by rw [Lib.toList_data]; simpa using he0
    clear hm he0 hgh
    have g1 : decide (1 < (s.size : Int)) = true := by simp; omega
    have g0 : 0 < s.size := by omega
    have g2 : (((s[0]'(by omega)).toNat : Int) == 45) = false := by simp; omega
    clear h2
    have h48 : ¬ (s[0]'hz).toNat = 48 := fun h => by have := h1x h; omega
    have c0 : (((s[0]'hz).toNat : Int) == 48) = false := by simp; omega
    clear h1x h48
    go_enter Tryd.func23, Tryd.ntmps23
    go_wp2
    go_loop [46] (fun i => ∃ k : Nat, k ≤ s.size ∧ i = .int .i64 k ∧ (s.data.toList.take k).all isDig = true) (fun i => s.size - (intOf i).toNat)
    case atStart => exact ⟨0, Nat.zero_le _, rfl, rfl⟩
    case round =>
      obtain ⟨k, hk, rfl, hall⟩ := hrel
      have HA := Lib.hid hall; clear hall
      by_cases hlt : k < s.size
      · have hlt2 : k < s.size := by have := HSZ.out; omega
        have HTK := Lib.hid (take_data s k hlt2)
        by_cases hd : isDig (s[k]'hlt2) = true
        · have hdd := isDig_iff.1 hd
          have d1 : decide (((s[k]'hlt2).toNat : Int) < 48) = false := by simp; omega
          have d2 : decide (57 < ((s[k]'hlt2).toNat : Int)) = false := by simp; omega
          have HD := Lib.hid hd
          clear hd hdd
          go_wp2
          go_round
          case rel => exact ⟨k + 1, by omega, by go_num, by rw [HTK.out, List.all_append, HA.out]; simp [HD.out]⟩
          case measure => first | (simp [intOf]; done) | (simp [intOf]; omega)
        · have HX : Hid (pz s.data.toList true = (0, 8)) := by
            exact pz_bad (by rw [HBD.out]; exact bad_at (mem_data _ k hlt2) (by simpa using hd))
          by_cases d1 : ((s[k]'hlt2).toNat : Int) < 48
          · have e1 : decide (((s[k]'hlt2).toNat : Int) < 48) = true := by simpa using d1
            clear d1 hd
            go_wp2
            go_ret2
            exact ⟨by rw [HX.out]; rfl, Below.refl _ _⟩
          · have e1 : decide (((s[k]'hlt2).toNat : Int) < 48) = false := by simpa using d1
            have e2 : decide (57 < ((s[k]'hlt2).toNat : Int)) = true := by simp [isDig] at hd; simp; omega
            clear d1 hd
            go_wp2
            go_ret2
            exact ⟨by rw [HX.out]; rfl, Below.refl _ _⟩
      · have hall : s.data.toList.all isDig = true := by
          have := HA.out
          rwa [List.take_of_length_le (by rw [Array.length_toList]; have := HSZ.out; show s.size ≤ k; omega)] at this
        have hgood : good s.data.toList = true := good_mk HNE.out hall HGH.out
        have hpz := pz_plain HM.out hgood
        have hpu := parseI_plain HNE.out hall
        clear hgood hall HA
        generalize val s.data.toList = m at hpz hpu
        by_cases hv : m < 9223372036854775808
        · rw [if_pos hv] at hpu
          rw [if_neg (by simp; omega)] at hpz
          have HX := Lib.hid hpz; clear hpz
          have HP := Lib.hid hpu; clear hpu
          go_wp2_with fail
          refine (Tryd.strconv_ParseInt_10_at64_ok s (by omega) _ HP.out _).mono ?_
          rintro e w1 ⟨rfl, hw⟩
          have hb : Below w.heap.size w w1 := by
            rcases hw with rfl | ⟨t, rfl⟩
            · exact Below.refl _ _
            · exact Lib.bytesWorld_below _ _ _
          have HB := Lib.hid hb
          clear hb hw
          go_wp2
          go_ret2
          exact ⟨by rw [HX.out]; first | rfl | exact ret_int2e (by rw [IntKind.wrap_u64]; omega), HB.out⟩
        · rw [if_neg hv] at hpu
          rw [if_pos (by simp; omega)] at hpz
          have HX := Lib.hid hpz; clear hpz
          have HP := Lib.hid hpu; clear hpu
          go_wp2_with fail
          refine (Tryd.strconv_ParseInt_10_at64_range_var s (by omega) HP.out tp p _ HV.out).mono ?_
          rintro e w1 ⟨N, rfl, hN, hcell, hb⟩
          have HB := Lib.hid hb
          clear hb hN hcell
          go_wp2
          go_ret2
          exact ⟨by rw [HX.out]; rfl, HB.out⟩
  · have HM := Lib.hid hm
    have HNE := Lib.hid he0
    have HGH := Lib.hid hgh
    have HBD := Lib.hid (body_plain hm)
    have HSZ := Lib.hid (show s.size = s.size from rfl)
    have he : (s.toList = []) = False := by rw [Lib.toList_data]; simpa using he0
    have he' : s.toList.isEmpty = false := by rw [Lib.toList_data]; simpa using he0
    clear hm he0 hgh
    have g1 : decide (1 < (s.size : Int)) = true := by simp; omega
    have g0 : 0 < s.size := by omega
    have g2 : (((s[0]'(by omega)).toNat : Int) == 45) = true := by simp; omega
    have g3 : (((s[1]'h1).toNat : Int) != 48) = false := by simp; omega
    clear h2 h3
    have h48 : ¬ (s[0]'hz).toNat = 48 := fun h => by have := h1x h; omega
    have c0 : (((s[0]'hz).toNat : Int) == 48) = false := by simp; omega
    clear h1x h48
    go_enter Tryd.func23, Tryd.ntmps23
    go_wp2
    go_loop [46] (fun i => ∃ k : Nat, k ≤ s.size ∧ i = .int .i64 k ∧ (s.data.toList.take k).all isDig = true) (fun i => s.size - (intOf i).toNat)
    case atStart => exact ⟨0, Nat.zero_le _, rfl, rfl⟩
    case round =>
      obtain ⟨k, hk, rfl, hall⟩ := hrel
      have HA := Lib.hid hall; clear hall
      by_cases hlt : k < s.size
      · have hlt2 : k < s.size := by have := HSZ.out; omega
        have HTK := Lib.hid (take_data s k hlt2)
        by_cases hd : isDig (s[k]'hlt2) = true
        · have hdd := isDig_iff.1 hd
          have d1 : decide (((s[k]'hlt2).toNat : Int) < 48) = false := by simp; omega
          have d2 : decide (57 < ((s[k]'hlt2).toNat : Int)) = false := by simp; omega
          have HD := Lib.hid hd
          clear hd hdd
          go_wp2
          go_round
          case rel => exact ⟨k + 1, by omega, by go_num, by rw [HTK.out, List.all_append, HA.out]; simp [HD.out]⟩
          case measure => first | (simp [intOf]; done) | (simp [intOf]; omega)
        · have HX : Hid (pz s.data.toList true = (0, 8)) := by
            exact pz_bad (by rw [HBD.out]; exact bad_at (mem_data _ k hlt2) (by simpa using hd))
          by_cases d1 : ((s[k]'hlt2).toNat : Int) < 48
          · have e1 : decide (((s[k]'hlt2).toNat : Int) < 48) = true := by simpa using d1
            clear d1 hd
            go_wp2
            go_ret2
            exact ⟨by rw [HX.out]; rfl, Below.refl _ _⟩
          · have e1 : decide (((s[k]'hlt2).toNat : Int) < 48) = false := by simpa using d1
            have e2 : decide (57 < ((s[k]'hlt2).toNat : Int)) = true := by simp [isDig] at hd; simp; omega
            clear d1 hd
            go_wp2
            go_ret2
            exact ⟨by rw [HX.out]; rfl, Below.refl _ _⟩
      · have hall : s.data.toList.all isDig = true := by
          have := HA.out
          rwa [List.take_of_length_le (by rw [Array.length_toList]; have := HSZ.out; show s.size ≤ k; omega)] at this
        have hgood : good s.data.toList = true := good_mk HNE.out hall HGH.out
        have hpz := pz_plain HM.out hgood
        have hpu := parseI_plain HNE.out hall
        clear hgood hall HA
        generalize val s.data.toList = m at hpz hpu
        by_cases hv : m < 9223372036854775808
        · rw [if_pos hv] at hpu
          rw [if_neg (by simp; omega)] at hpz
          have HX := Lib.hid hpz; clear hpz
          have HP := Lib.hid hpu; clear hpu
          go_wp2_with fail
          refine (Tryd.strconv_ParseInt_10_at64_ok s (by omega) _ HP.out _).mono ?_
          rintro e w1 ⟨rfl, hw⟩
          have hb : Below w.heap.size w w1 := by
            rcases hw with rfl | ⟨t, rfl⟩
            · exact Below.refl _ _
            · exact Lib.bytesWorld_below _ _ _
          have HB := Lib.hid hb
          clear hb hw
          go_wp2
          go_ret2
          exact ⟨by rw [HX.out]; first | rfl | exact ret_int2e (by rw [IntKind.wrap_u64]; omega), HB.out⟩
        · rw [if_neg hv] at hpu
          rw [if_pos (by simp; omega)] at hpz
          have HX := Lib.hid hpz; clear hpz
          have HP := Lib.hid hpu; clear hpu
          go_wp2_with fail
          refine (Tryd.strconv_ParseInt_10_at64_range_var s (by omega) HP.out tp p _ HV.out).mono ?_
          rintro e w1 ⟨N, rfl, hN, hcell, hb⟩
          have HB := Lib.hid hb
          clear hb hN hcell
          go_wp2
          go_ret2
          exact ⟨by rw [HX.out]; rfl, HB.out⟩

def SaidR (s : ByteArray) (sg : Bool) (w : World) (e : Ending) (w' : World) : Prop := e = .returned (.tuple #[.int .u64 (pz s.data.toList sg).1, .int .i64 (pz s.data.toList sg).2]) ∧ Below w.heap.size w w'
theorem ext_size (s : ByteArray) : (s.extract 1 s.size).size = s.size - 1 := by rw [ByteArray.size_extract]; omega
theorem ext_lt (s : ByteArray) (k : Nat) (h : k + 1 < s.size) : k < (s.extract 1 s.size).size := by rw [ext_size]; omega
theorem ext_data (s : ByteArray) : (s.extract 1 s.size).data.toList = s.data.toList.tail := by
  rw [ByteArray.data_extract, Array.toList_extract, List.extract_eq_drop_take', List.drop_one]
  rw [List.take_of_length_le (by rw [len_data]; omega)]
theorem cons_data (s : ByteArray) (h : 0 < s.size) : s.data.toList = s[0] :: s.data.toList.tail := by
  have h1 := head_data s h
  cases hl : s.data.toList with
  | nil => rw [hl] at h1; cases h1
  | cons x y => rw [hl] at h1; simp at h1; simp [h1]
theorem ext_head (s : ByteArray) (h : 1 < s.size) : (s.extract 1 s.size)[0]'(ext_lt s 0 h) = s[1] := by
  have h1 := head_data (s.extract 1 s.size) (ext_lt s 0 h)
  rw [ext_data, tail_data s h] at h1
  exact (Option.some.inj h1).symm
theorem minus_of (s : ByteArray) (h1 : 1 < s.size) (h45 : (s[0]'(by omega)).toNat = 45) (h48 : ¬ (s[1]'h1).toNat = 48) : minus s.data.toList true = true := by
  have e0 : s[0]'(by omega) = 45 := UInt8.toNat_inj.1 h45
  have e1 : s[1]'h1 ≠ 48 := fun e => h48 (by rw [e]; rfl)
  simp only [minus, head_data s (by omega), tail_data s h1, len_data, e0]
  simp [h1, e1]

set_option maxRecDepth 100000 in
set_option maxHeartbeats 4000000 in
theorem parse_m (s : ByteArray) (w : World) (hs : s.size ≤ 140737488351232) (h1 : 1 < s.size) (h45 : (s[0]'(by omega)).toNat = 45) (h48 : ¬ (s[1]'h1).toNat = 48) (hr : laidK.Rng w) :
    Calls Tryd.prog 23 #[.string s, .bool true] w (Said s true w) := by
  obtain ⟨tp, p, hvar⟩ := hr
  have HV := Lib.hid hvar; clear hvar
  have hm := minus_of s h1 h45 h48
  have HM := Lib.hid hm
  have HBD : Hid (body s.data.toList true = (s.extract 1 s.size).data.toList) := by rw [ext_data, body, hm]; exact Lib.hid rfl
  have g1 : decide (1 < (s.size : Int)) = true := by simp; omega
  have g0 : 0 < s.size := by omega
  have g2 : (((s[0]'(by omega)).toNat : Int) == 45) = true := by simp; omega
  have g3 : (((s[1]'h1).toNat : Int) != 48) = true := by simp; omega
  have hsz := ext_size s
  have he0 : (s.extract 1 s.size).data.toList ≠ [] := by intro e; have := len_data (s.extract 1 s.size); rw [e, hsz] at this; simp at this; omega
  have he : ((s.extract 1 s.size).toList = []) = False := by rw [Lib.toList_data]; simpa using he0
  have he' : (s.extract 1 s.size).toList.isEmpty = false := by rw [Lib.toList_data]; simpa using he0
  have hh1 := ext_head s h1
  have c0 : ((((s.extract 1 s.size)[0]'(ext_lt s 0 h1)).toNat : Int) == 48) = false := by rw [hh1]; simp; omega
  have HNE := Lib.hid he0
  have HH : Hid ((s.extract 1 s.size).data.toList.head? ≠ some 48) := by
    rw [head_data _ (ext_lt s 0 h1), hh1]
    exact Lib.hid (fun e => h48 (by rw [Option.some.inj e]; rfl))
  have HCONS : Hid (s.data.toList = 45 :: (s.extract 1 s.size).data.toList) := by
    have := cons_data s g0
    rw [← ext_data, UInt8.toNat_inj.1 (show (s[0]'g0).toNat = (45 : UInt8).toNat from h45)] at this
    exact Lib.hid this
  have HSZ := Lib.hid hsz
  clear h45 h48 he0 hsz hh1 hm
  unfold Said
  go_enter Tryd.func23, Tryd.ntmps23
  go_wp2
  go_loop [46] (fun i => ∃ k : Nat, k ≤ (s.size - 1) ∧ i = .int .i64 k ∧ ((s.extract 1 s.size).data.toList.take k).all isDig = true) (fun i => (s.size - 1) - (intOf i).toNat)
  case atStart => exact ⟨0, Nat.zero_le _, rfl, rfl⟩
  case round =>
    obtain ⟨k, hk, rfl, hall⟩ := hrel
    have HA := Lib.hid hall; clear hall
    by_cases hlt : k < (s.size - 1)
    · have hlt2 : k < (s.extract 1 s.size).size := by have := HSZ.out; omega
      have HTK := Lib.hid (take_data (s.extract 1 s.size) k hlt2)
      by_cases hd : isDig ((s.extract 1 s.size)[k]'hlt2) = true
      · have hdd := isDig_iff.1 hd
        have d1 : decide ((((s.extract 1 s.size)[k]'hlt2).toNat : Int) < 48) = false := by simp; omega
        have d2 : decide (57 < (((s.extract 1 s.size)[k]'hlt2).toNat : Int)) = false := by simp; omega
        have HD := Lib.hid hd
        clear hd hdd
        go_wp2
        go_round
        case rel => exact ⟨k + 1, by omega, by go_num, by rw [HTK.out, List.all_append, HA.out]; simp [HD.out]⟩
        case measure => first | (simp [intOf]; done) | (simp [intOf]; omega)
      · have HX : Hid (pz s.data.toList true = (0, 8)) := by
          exact pz_bad (by rw [HBD.out]; exact bad_at (mem_data _ k hlt2) (by simpa using hd))
        by_cases d1 : (((s.extract 1 s.size)[k]'hlt2).toNat : Int) < 48
        · have e1 : decide ((((s.extract 1 s.size)[k]'hlt2).toNat : Int) < 48) = true := by simpa using d1
          clear d1 hd
          go_wp2
          go_ret2
          exact ⟨by rw [HX.out]; rfl, Below.refl _ _⟩
        · have e1 : decide ((((s.extract 1 s.size)[k]'hlt2).toNat : Int) < 48) = false := by simpa using d1
          have e2 : decide (57 < (((s.extract 1 s.size)[k]'hlt2).toNat : Int)) = true := by simp [isDig] at hd; simp; omega
          clear d1 hd
          go_wp2
          go_ret2
          exact ⟨by rw [HX.out]; rfl, Below.refl _ _⟩
    · have hall : (s.extract 1 s.size).data.toList.all isDig = true := by
        have := HA.out
        rwa [List.take_of_length_le (by rw [Array.length_toList]; have := HSZ.out; show (s.extract 1 s.size).size ≤ k; omega)] at this
      have hgood : good (s.extract 1 s.size).data.toList = true := good_mk HNE.out hall (.inr HH.out)
      have hpz := pz_minus HM.out (by rw [← ext_data]; exact hgood)
      have hpu := parseI_minus HNE.out hall
      rw [← HCONS.out] at hpu
      rw [← ext_data] at hpz
      clear hgood hall HA
      generalize val (s.extract 1 s.size).data.toList = m at hpz hpu
      by_cases hv : m ≤ 9223372036854775808
      · rw [if_pos hv] at hpu
        rw [if_neg (by omega)] at hpz
        have HX := Lib.hid hpz; clear hpz
        have HP := Lib.hid hpu; clear hpu
        go_wp2_with fail
        refine (Tryd.strconv_ParseInt_10_at64_ok s (by omega) _ HP.out _).mono ?_
        rintro e w1 ⟨rfl, hw⟩
        have hb : Below w.heap.size w w1 := by
          rcases hw with rfl | ⟨t, rfl⟩
          · exact Below.refl _ _
          · exact Lib.bytesWorld_below _ _ _
        have HB := Lib.hid hb
        clear hb hw
        go_wp2
        go_ret2
        exact ⟨by rw [HX.out]; rfl, HB.out⟩
      · rw [if_neg hv] at hpu
        rw [if_pos (by omega)] at hpz
        have HX := Lib.hid hpz; clear hpz
        have HP := Lib.hid hpu; clear hpu
        go_wp2_with fail
        refine (Tryd.strconv_ParseInt_10_at64_range_var s (by omega) HP.out tp p _ HV.out).mono ?_
        rintro e w1 ⟨N, rfl, hN, hcell, hb⟩
        have HB := Lib.hid hb
        clear hb hN hcell
        go_wp2
        go_ret2
        exact ⟨by rw [HX.out]; rfl, HB.out⟩

theorem not_minus_short (s : ByteArray) (sg : Bool) (h : s.size ≤ 1) : minus s.data.toList sg = false := by
  simp only [minus, len_data]
  simp; intro _ h'; omega

theorem parse_any (s : ByteArray) (sg : Bool) (w : World) (hs : s.size ≤ 140737488351232) (hr : laidK.Rng w) :
    Calls Tryd.prog 23 #[.string s, .bool sg] w (Said s sg w) := by
  by_cases hm : minus s.data.toList sg = true
  · obtain rfl : sg = true := by cases sg; · cases hm
                                 · rfl
    have h1 : 1 < s.size := by
      rcases Nat.lt_or_ge 1 s.size with h | h
      · exact h
      · rw [not_minus_short s true h] at hm; cases hm
    have hm' := hm
    simp only [minus, head_data s (by omega), tail_data s h1, len_data] at hm'
    simp at hm'
    exact parse_m s w hs h1 (by rw [hm'.1.2]; rfl) (fun e => hm'.2 (UInt8.toNat_inj.1 e)) hr
  · have hm' : minus s.data.toList sg = false := by simpa using hm
    by_cases hz : s.size = 0
    · cases sg
      · exact parse_u_z s w hz hm'
      · exact parse_p_z s w hz hm'
    · by_cases hb : ∃ h : 1 < s.size, (s[0]'(by omega)).toNat = 48
      · obtain ⟨h1, h48⟩ := hb
        cases sg
        · exact parse_u_b s w h1 h48 hm'
        · exact parse_p_b s w h1 h48 hm'
      · have hx : (s[0]'(by omega)).toNat = 48 → s.size = 1 := fun e => by
          rcases Nat.lt_or_ge 1 s.size with h | h
          · exact absurd ⟨h, e⟩ hb
          · omega
        cases sg
        · exact parse_u_l s w hs (by omega) hx hm' hr
        · exact parse_p_l s w hs (by omega) hx hm' hr

end rawQ
end Go.Proofs.YtfigkgpolpggcaaDoor
