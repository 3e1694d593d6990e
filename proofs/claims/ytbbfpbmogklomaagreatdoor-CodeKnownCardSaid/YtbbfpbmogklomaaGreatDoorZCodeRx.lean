/- busbarref12's digits, word, Name, Print: the document's lines. Condition: numbers in their types' bounds. -/
import Derived.Test.YtbbfpbmogklomaaGreatDoorZKc
import Derived.Test.YtbbfpbmogklomaaGreatDoorZCodeQf
import Derived.Laws.DeepStrings4
import Derived.Deep.RegionWith
import Derived.RegionTactic
namespace Go.Proofs.YtbbfpbmogklomaaGreatDoor
open Go.RowKit Go.Bus Go.Bus.cellK Go.Bus.codeK Go.Bus.hexK
set_option linter.unusedVariables false
set_option linter.unusedSimpArgs false
namespace codeW
theorem strCons (c : UInt8) (t : List UInt8) : (⟨#[c]⟩ : ByteArray) ++ ⟨t.toArray⟩ = ⟨(c :: t).toArray⟩ := by
  apply ByteArray.ext
  simp
theorem strApp (s t : List UInt8) : (⟨s.toArray⟩ : ByteArray) ++ ⟨t.toArray⟩ = ⟨(s ++ t).toArray⟩ := by
  apply ByteArray.ext
  simp
theorem strMid (P Q : List UInt8) : ((⟨P.toArray⟩ : ByteArray) ++ ⟨#[32]⟩) ++ ⟨Q.toArray⟩ = ⟨(P ++ 32 :: Q).toArray⟩ := by
  apply ByteArray.ext
  simp
theorem strData (s : ByteArray) : s = ⟨s.data.toList.toArray⟩ := by
  apply ByteArray.ext
  simp
def namesV : Array Value := #[.string ⟨#[104, 97, 108, 116]⟩, .string ⟨#[99, 111, 110, 115, 116]⟩, .string ⟨#[109, 111, 118, 101]⟩, .string ⟨#[97, 110, 100]⟩, .string ⟨#[111, 114]⟩, .string ⟨#[120, 111, 114]⟩, .string ⟨#[115, 104, 108]⟩, .string ⟨#[115, 104, 114]⟩, .string ⟨#[109, 97, 115, 107]⟩, .string ⟨#[108, 111, 97, 100]⟩, .string ⟨#[108, 111, 97, 100, 98, 105, 103]⟩, .string ⟨#[115, 116, 111, 114, 101]⟩, .string ⟨#[115, 116, 111, 114, 101, 98, 105, 103]⟩, .string ⟨#[98, 108, 101, 110, 100]⟩, .string ⟨#[115, 105, 103, 110]⟩, .string ⟨#[105, 110]⟩, .string ⟨#[111, 117, 116]⟩, .string ⟨#[102, 105, 116, 115]⟩, .string ⟨#[115, 107, 105, 112]⟩, .string ⟨#[115, 107, 105, 112, 110, 101]⟩]
theorem namesV_at : ∀ k, k < 20 → namesV[k]? = some (.string ⟨(nameN k).toArray⟩)
  | 0, _ => rfl
  | 1, _ => rfl
  | 2, _ => rfl
  | 3, _ => rfl
  | 4, _ => rfl
  | 5, _ => rfl
  | 6, _ => rfl
  | 7, _ => rfl
  | 8, _ => rfl
  | 9, _ => rfl
  | 10, _ => rfl
  | 11, _ => rfl
  | 12, _ => rfl
  | 13, _ => rfl
  | 14, _ => rfl
  | 15, _ => rfl
  | 16, _ => rfl
  | 17, _ => rfl
  | 18, _ => rfl
  | 19, _ => rfl
  | k + 20, h => absurd h (by omega)
set_option maxRecDepth 100000 in
set_option maxHeartbeats 1000000 in
theorem rname_any (k : Nat) (hk : k < 20) (w : World) : Calls Tryz.prog 64 #[.int .i64 (k : Nat)] w fun e w' => e = .returned (.string ⟨(nameN k).toArray⟩) ∧ Below w.heap.size w w' := by
  have hc : (w.alloc (.cells namesV 9)).cell? ⟨w.heap.size, k, none⟩ = some (.string ⟨(nameN k).toArray⟩) := ((Has.new w _ namesV).cell k).trans (namesV_at k hk)
  unfold namesV at hc
  have d1 : decide ((k : Int) < 0) = false := by simp
  have d2 : decide (20 ≤ (k : Int)) = false := by simp; omega
  obtain ⟨S, hS⟩ : ∃ S : ByteArray, S = ⟨(nameN k).toArray⟩ := ⟨_, rfl⟩
  rw [← hS] at hc ⊢
  clear hS
  go_enter Tryz.func64, Tryz.ntmps64
  go_wp2
  go_ret
  exact ⟨rfl, (by repeat' (first | (with_reducible assumption) | (with_reducible refine Below.setCell ?_ ?_ _) | (with_reducible refine Below.alloc ?_ ?_ _) | (with_reducible refine Below.drew ?_) | (with_reducible refine below_drewN ?_ _) | (with_reducible exact Below.refl _ _) | (show _ ≤ _; (try simp); (try omega); done) | exact Below.refl _ _ | assumption))⟩
theorem dig_pow {b u k : Nat} (hb : 2 ≤ b) (h : u * b ^ k < 18446744073709551616) : u / b * b ^ (k + 1) < 18446744073709551616 := by
  have h1 : u / b * b ^ (k + 1) ≤ u * b ^ k := by
    rw [Nat.pow_succ, Nat.mul_comm (b ^ k) b, ← Nat.mul_assoc]
    exact Nat.mul_le_mul_right _ (Nat.div_mul_le_self u b)
  omega
theorem dig_end {b u k : Nat} (hb : 10 ≤ b) (h : u * b ^ k < 18446744073709551616) (hk : k = 20) : u = 0 := by
  subst hk
  have h1 : (10 : Nat) ^ 20 ≤ b ^ 20 := Nat.pow_le_pow_left hb 20
  have h2 : (10 : Nat) ^ 20 = 100000000000000000000 := by decide
  rcases Nat.eq_zero_or_pos u with h0 | h0
  · exact h0
  · have : b ^ 20 ≤ u * b ^ 20 := Nat.le_mul_of_pos_left _ h0
    omega
theorem dig_lt {b u k : Nat} (hb : 2 ≤ b) (h : u * b ^ k < 18446744073709551616) : u < 18446744073709551616 := Nat.lt_of_le_of_lt (Nat.le_mul_of_pos_right u (Nat.pow_pos (by omega))) h
abbrev dig16 : ByteArray := ⟨#[48, 49, 50, 51, 52, 53, 54, 55, 56, 57, 97, 98, 99, 100, 101, 102]⟩
theorem dig16_at : ∀ d : Nat, d < 16 → (dig16.extract d (d + 1)) = ⟨#[hexd d]⟩ := by
  have key : ∀ d : Fin 16, (dig16.extract d.val (d.val + 1)).data = #[hexd d.val] := by decide
  intro d h
  exact ByteArray.ext (key ⟨d, h⟩)
set_option maxRecDepth 100000 in
set_option maxHeartbeats 2000000 in
theorem rdigits10 (m : Nat) (hm : m < 18446744073709551616) (w : World) : Calls Tryz.prog 107 #[.int .u64 (m : Nat), .int .u64 10] w fun e w' => e = .returned (.string ⟨(digsB 10 m).toArray⟩) ∧ w = w' := by
  obtain ⟨T, hT⟩ : ∃ T, T = digsB 10 m := ⟨_, rfl⟩
  rw [← hT]
  have HT := Lib.hid hT
  clear hT
  go_enter Tryz.func107, Tryz.ntmps107
  go_wp2
  go_loop [0, 5, 6] (fun v s i => ∃ (k u : Nat) (t : List UInt8), k ≤ 20 ∧ t.length = k ∧ v = .int .u64 (u : Nat) ∧ i = .int .i64 (k : Nat) ∧ s = .string ⟨t.toArray⟩ ∧ Hid (u * 10 ^ k < 18446744073709551616) ∧ Hid ((if k = 0 ∨ 0 < u then digsB 10 u else []) ++ t = T)) (fun _ _ i => 20 - (intOf i).toNat)
  case atStart => exact ⟨0, m, [], Nat.zero_le _, rfl, rfl, rfl, rfl, Lib.hid (by simpa using hm), Lib.hid (by rw [if_pos (.inl rfl), HT.out, List.append_nil])⟩
  case round =>
    obtain ⟨k, u, t, hk, htl, rfl, rfl, rfl, HU, HE⟩ := hrel
    have HTLK := Lib.hid htl
    have htb : t.length ≤ 20 := by omega
    clear htl
    have hu64 := dig_lt (by decide) HU.out
    by_cases hgo : k = 0 ∨ 0 < u
    · have hk10 : k < 20 := by
        rcases Nat.lt_or_ge k 20 with h | h
        · exact h
        · have := dig_end (by decide) HU.out (by omega); omega
      have d1 : decide ((k : Int) < 20) = true := by simp; omega
      have HG : Hid (digsB 10 u ++ t = T) := Lib.hid (by rw [← HE.out, if_pos hgo])
      have HU1 := Lib.hid (dig_pow (by decide) HU.out)
      have hd : u % 10 < 16 := by omega
      have hd2 : u % 10 < 10 := by omega
      have HN : Hid ((if k + 1 = 0 ∨ 0 < u / 10 then digsB 10 (u / 10) else []) ++ (hexd (u % 10) :: t) = T) := Lib.hid (by
        by_cases hlt : u < 10
        · rw [if_neg (by omega), ← HG.out, digsB_lt hlt, Nat.mod_eq_of_lt hlt]; rfl
        · rw [if_pos (.inr (by omega)), ← HG.out, digsB_ge hlt (by decide), List.append_assoc]; rfl)
      have hsl : ∀ W, (Instr.slice 9 (.string dig16) (some (.int .u64 ((u : Int) % 10))) (some (.int .u64 ((u : Int) % 10 + 1))) none).run Tryz.prog W = .ok (.string ⟨#[hexd (u % 10)]⟩) W := fun W => by
        rw [run_slice_string_if W _ _ _ _ _ _ Tryz.underlying9, if_pos ⟨by omega, by show (u : Int) % 10 + 1 ≤ 16; omega⟩, if_pos ⟨by omega, by omega⟩]
        rw [show ((u : Int) % 10).toNat = u % 10 from by omega, show ((u : Int) % 10 + 1).toNat = u % 10 + 1 from by omega, dig16_at _ hd]
      have hnot : ¬ 9223372036854775807 < 1 + t.length := by omega
      have HLK : Hid ((hexd (u % 10) :: t).length = k + 1) := Lib.hid (by rw [List.length_cons, HTLK.out])
      have hkk : k = 0 ∨ (k ≠ 0 ∧ 0 < u) := by omega
      clear hgo HE HU
      rcases hkk with h0 | ⟨h0, h1⟩
      · have e0 : ((k : Int) == 0) = true := by simp; omega
        go_wp2
        go_round
        case rel => exact ⟨k + 1, u / 10, hexd (u % 10) :: t, by omega, HLK.out, by first | rfl | go_num, by go_num, congrArg Value.string (strCons _ _), HU1, HN⟩
        case measure => simp [intOf]; omega
      · have e0 : ((k : Int) == 0) = false := by simp; omega
        have d5 : decide (0 < (u : Int)) = true := by simp; omega
        go_wp2
        go_round
        case rel => exact ⟨k + 1, u / 10, hexd (u % 10) :: t, by omega, HLK.out, by first | rfl | go_num, by go_num, congrArg Value.string (strCons _ _), HU1, HN⟩
        case measure => simp [intOf]; omega
    · obtain rfl : u = 0 := by omega
      have hk0 : k ≠ 0 := by omega
      have HT2 : Hid (t = T) := Lib.hid (by rw [← HE.out, if_neg hgo, List.nil_append])
      have e0 : ((k : Int) == 0) = false := by simp; omega
      clear hgo HE HU
      rcases Nat.lt_or_ge k 20 with hk2 | hk2
      · have d1 : decide ((k : Int) < 20) = true := by simp; omega
        go_wp2
        go_ret
        exact ⟨by rw [← HT2.out]; rfl, rfl⟩
      · have d1 : decide ((k : Int) < 20) = false := by simp; omega
        go_wp2
        go_ret
        exact ⟨by rw [← HT2.out]; rfl, rfl⟩
set_option maxRecDepth 100000 in
set_option maxHeartbeats 2000000 in
theorem rdigits16 (m : Nat) (hm : m < 18446744073709551616) (w : World) : Calls Tryz.prog 107 #[.int .u64 (m : Nat), .int .u64 16] w fun e w' => e = .returned (.string ⟨(digsB 16 m).toArray⟩) ∧ w = w' := by
  obtain ⟨T, hT⟩ : ∃ T, T = digsB 16 m := ⟨_, rfl⟩
  rw [← hT]
  have HT := Lib.hid hT
  clear hT
  go_enter Tryz.func107, Tryz.ntmps107
  go_wp2
  go_loop [0, 5, 6] (fun v s i => ∃ (k u : Nat) (t : List UInt8), k ≤ 20 ∧ t.length = k ∧ v = .int .u64 (u : Nat) ∧ i = .int .i64 (k : Nat) ∧ s = .string ⟨t.toArray⟩ ∧ Hid (u * 16 ^ k < 18446744073709551616) ∧ Hid ((if k = 0 ∨ 0 < u then digsB 16 u else []) ++ t = T)) (fun _ _ i => 20 - (intOf i).toNat)
  case atStart => exact ⟨0, m, [], Nat.zero_le _, rfl, rfl, rfl, rfl, Lib.hid (by simpa using hm), Lib.hid (by rw [if_pos (.inl rfl), HT.out, List.append_nil])⟩
  case round =>
    obtain ⟨k, u, t, hk, htl, rfl, rfl, rfl, HU, HE⟩ := hrel
    have HTLK := Lib.hid htl
    have htb : t.length ≤ 20 := by omega
    clear htl
    have hu64 := dig_lt (by decide) HU.out
    by_cases hgo : k = 0 ∨ 0 < u
    · have hk10 : k < 20 := by
        rcases Nat.lt_or_ge k 20 with h | h
        · exact h
        · have := dig_end (by decide) HU.out (by omega); omega
      have d1 : decide ((k : Int) < 20) = true := by simp; omega
      have HG : Hid (digsB 16 u ++ t = T) := Lib.hid (by rw [← HE.out, if_pos hgo])
      have HU1 := Lib.hid (dig_pow (by decide) HU.out)
      have hd : u % 16 < 16 := by omega
      have hd2 : u % 16 < 16 := by omega
      have HN : Hid ((if k + 1 = 0 ∨ 0 < u / 16 then digsB 16 (u / 16) else []) ++ (hexd (u % 16) :: t) = T) := Lib.hid (by
        by_cases hlt : u < 16
        · rw [if_neg (by omega), ← HG.out, digsB_lt hlt, Nat.mod_eq_of_lt hlt]; rfl
        · rw [if_pos (.inr (by omega)), ← HG.out, digsB_ge hlt (by decide), List.append_assoc]; rfl)
      have hsl : ∀ W, (Instr.slice 9 (.string dig16) (some (.int .u64 ((u : Int) % 16))) (some (.int .u64 ((u : Int) % 16 + 1))) none).run Tryz.prog W = .ok (.string ⟨#[hexd (u % 16)]⟩) W := fun W => by
        rw [run_slice_string_if W _ _ _ _ _ _ Tryz.underlying9, if_pos ⟨by omega, by show (u : Int) % 16 + 1 ≤ 16; omega⟩, if_pos ⟨by omega, by omega⟩]
        rw [show ((u : Int) % 16).toNat = u % 16 from by omega, show ((u : Int) % 16 + 1).toNat = u % 16 + 1 from by omega, dig16_at _ hd]
      have hnot : ¬ 9223372036854775807 < 1 + t.length := by omega
      have HLK : Hid ((hexd (u % 16) :: t).length = k + 1) := Lib.hid (by rw [List.length_cons, HTLK.out])
      have hkk : k = 0 ∨ (k ≠ 0 ∧ 0 < u) := by omega
      clear hgo HE HU
      rcases hkk with h0 | ⟨h0, h1⟩
      · have e0 : ((k : Int) == 0) = true := by simp; omega
        go_wp2
        go_round
        case rel => exact ⟨k + 1, u / 16, hexd (u % 16) :: t, by omega, HLK.out, by first | rfl | go_num, by go_num, congrArg Value.string (strCons _ _), HU1, HN⟩
        case measure => simp [intOf]; omega
      · have e0 : ((k : Int) == 0) = false := by simp; omega
        have d5 : decide (0 < (u : Int)) = true := by simp; omega
        go_wp2
        go_round
        case rel => exact ⟨k + 1, u / 16, hexd (u % 16) :: t, by omega, HLK.out, by first | rfl | go_num, by go_num, congrArg Value.string (strCons _ _), HU1, HN⟩
        case measure => simp [intOf]; omega
    · obtain rfl : u = 0 := by omega
      have hk0 : k ≠ 0 := by omega
      have HT2 : Hid (t = T) := Lib.hid (by rw [← HE.out, if_neg hgo, List.nil_append])
      have e0 : ((k : Int) == 0) = false := by simp; omega
      clear hgo HE HU
      rcases Nat.lt_or_ge k 20 with hk2 | hk2
      · have d1 : decide ((k : Int) < 20) = true := by simp; omega
        go_wp2
        go_ret
        exact ⟨by rw [← HT2.out]; rfl, rfl⟩
      · have d1 : decide ((k : Int) < 20) = false := by simp; omega
        go_wp2
        go_ret
        exact ⟨by rw [← HT2.out]; rfl, rfl⟩
theorem digs_len10 {m : Nat} (h : m < 18446744073709551616) : (digsB 10 m).length ≤ 20 := by
  rw [digs10]; exact dec_len (by rw [show (10 : Nat) ^ 20 = 100000000000000000000 from by decide]; omega) (by decide)
theorem digs_len16 {m : Nat} (h : m < 18446744073709551616) : (digsB 16 m).length ≤ 16 := by
  rw [digs16]; exact hexs_len (by rw [show (16 : Nat) ^ 16 = 18446744073709551616 from by decide]; omega) (by decide)
theorem rdig10 (v : Int) (m : Nat) (hv : v = m) (hm : m < 18446744073709551616) (w : World) : Calls Tryz.prog 107 #[.int .u64 v, .int .u64 10] w fun e w' => e = .returned (.string ⟨(digsB 10 m).toArray⟩) ∧ w = w' := by subst hv; exact rdigits10 m hm w
theorem rdig16 (v : Int) (m : Nat) (hv : v = m) (hm : m < 18446744073709551616) (w : World) : Calls Tryz.prog 107 #[.int .u64 v, .int .u64 16] w fun e w' => e = .returned (.string ⟨(digsB 16 m).toArray⟩) ∧ w = w' := by subst hv; exact rdigits16 m hm w
set_option maxRecDepth 100000 in
set_option maxHeartbeats 4000000 in
theorem rword_any (l : Le) {x : Ins} (hx : x.Ok) (ho : okF l.fk x = true) (w : World) : Calls Tryz.prog 66 #[.agg (insC x).toArray, .int .u8 (l.c.toNat : Nat)] w fun e w' => e = .returned (.string ⟨(wordL l x).toArray⟩) ∧ Below w.heap.size w w' := by
  obtain ⟨op, a, b, n, imm⟩ := x
  have him := hx.imm
  have hma := hx.a
  have hmb := hx.b
  have hmn := hx.n
  clear hx
  simp only at him hma hmb hmn
  unfold insC
  cases l with
  | a =>
    have hn : 0 ≤ a := lo_of ho
    obtain ⟨m, hm⟩ : ∃ m : Nat, m = a.toNat := ⟨_, rfl⟩
    have hm1 : a = (m : Int) := by omega
    have HM1 := Lib.hid hm1
    have hm2 : m < 18446744073709551616 := by omega
    have hlen := digs_len10 hm2
    have HE : Hid (wordL .a ⟨op, a, b, n, imm⟩ = 114 :: digsB 10 m) := Lib.hid (by simp only [wordL]; rw [hm])
    show Calls Tryz.prog 66 #[.agg #[.int .i64 op, .int .i64 a, .int .i64 b, .int .i64 n, .int .u64 imm], .int .u8 97] w _
    rw [HE.out]
    clear hm hm1 ho hma hmb hmn him
    generalize hD : digsB 10 m = D at *
    have HDG := Lib.hid (fun (v : Int) (hv : v = (m : Int)) (W : World) => (rdig10 v m hv hm2 W).mono (R' := fun e w' => e = .returned (.string ⟨D.toArray⟩) ∧ W = w') (fun e w' h => ⟨by rw [h.1, hD], h.2⟩))
    clear hD
    have hnot : ¬ 9223372036854775807 < 1 + D.length := by omega
    go_enter Tryz.func66, Tryz.ntmps66
    go_wp2_with (go_at_call 107; refine (HDG.out _ (by have := HM1.out; first | exact this | (rw [IntKind.wrap_u64]; omega)) _).mono ?_; rintro e w1 ⟨rfl, rfl⟩)
    go_ret
    exact ⟨congrArg (fun s : ByteArray => Ending.returned (Value.string s)) (strCons 114 D), (by repeat' (first | (with_reducible assumption) | (with_reducible refine Below.setCell ?_ ?_ _) | (with_reducible refine Below.alloc ?_ ?_ _) | (with_reducible refine Below.drew ?_) | (with_reducible refine below_drewN ?_ _) | (with_reducible exact Below.refl _ _) | (show _ ≤ _; (try simp); (try omega); done) | exact Below.refl _ _ | assumption))⟩
  | b =>
    have hn : 0 ≤ b := lo_of ho
    obtain ⟨m, hm⟩ : ∃ m : Nat, m = b.toNat := ⟨_, rfl⟩
    have hm1 : b = (m : Int) := by omega
    have HM1 := Lib.hid hm1
    have hm2 : m < 18446744073709551616 := by omega
    have hlen := digs_len10 hm2
    have HE : Hid (wordL .b ⟨op, a, b, n, imm⟩ = 114 :: digsB 10 m) := Lib.hid (by simp only [wordL]; rw [hm])
    show Calls Tryz.prog 66 #[.agg #[.int .i64 op, .int .i64 a, .int .i64 b, .int .i64 n, .int .u64 imm], .int .u8 98] w _
    rw [HE.out]
    clear hm hm1 ho hma hmb hmn him
    generalize hD : digsB 10 m = D at *
    have HDG := Lib.hid (fun (v : Int) (hv : v = (m : Int)) (W : World) => (rdig10 v m hv hm2 W).mono (R' := fun e w' => e = .returned (.string ⟨D.toArray⟩) ∧ W = w') (fun e w' h => ⟨by rw [h.1, hD], h.2⟩))
    clear hD
    have hnot : ¬ 9223372036854775807 < 1 + D.length := by omega
    go_enter Tryz.func66, Tryz.ntmps66
    go_wp2_with (go_at_call 107; refine (HDG.out _ (by have := HM1.out; first | exact this | (rw [IntKind.wrap_u64]; omega)) _).mono ?_; rintro e w1 ⟨rfl, rfl⟩)
    go_ret
    exact ⟨congrArg (fun s : ByteArray => Ending.returned (Value.string s)) (strCons 114 D), (by repeat' (first | (with_reducible assumption) | (with_reducible refine Below.setCell ?_ ?_ _) | (with_reducible refine Below.alloc ?_ ?_ _) | (with_reducible refine Below.drew ?_) | (with_reducible refine below_drewN ?_ _) | (with_reducible exact Below.refl _ _) | (show _ ≤ _; (try simp); (try omega); done) | exact Below.refl _ _ | assumption))⟩
  | k =>
    have hn : 0 ≤ b := lo_of ho
    obtain ⟨m, hm⟩ : ∃ m : Nat, m = b.toNat := ⟨_, rfl⟩
    have hm1 : b = (m : Int) := by omega
    have HM1 := Lib.hid hm1
    have hm2 : m < 18446744073709551616 := by omega
    have hlen := digs_len10 hm2
    have HE : Hid (wordL .k ⟨op, a, b, n, imm⟩ = digsB 10 m) := Lib.hid (by simp only [wordL]; rw [hm])
    show Calls Tryz.prog 66 #[.agg #[.int .i64 op, .int .i64 a, .int .i64 b, .int .i64 n, .int .u64 imm], .int .u8 107] w _
    rw [HE.out]
    clear hm hm1 ho hma hmb hmn him
    generalize hD : digsB 10 m = D at *
    have HDG := Lib.hid (fun (v : Int) (hv : v = (m : Int)) (W : World) => (rdig10 v m hv hm2 W).mono (R' := fun e w' => e = .returned (.string ⟨D.toArray⟩) ∧ W = w') (fun e w' h => ⟨by rw [h.1, hD], h.2⟩))
    clear hD
    have hnot : ¬ 9223372036854775807 < 1 + D.length := by omega
    go_enter Tryz.func66, Tryz.ntmps66
    go_wp2_with (go_at_call 107; refine (HDG.out _ (by have := HM1.out; first | exact this | (rw [IntKind.wrap_u64]; omega)) _).mono ?_; rintro e w1 ⟨rfl, rfl⟩)
    go_ret
    exact ⟨rfl, (by repeat' (first | (with_reducible assumption) | (with_reducible refine Below.setCell ?_ ?_ _) | (with_reducible refine Below.alloc ?_ ?_ _) | (with_reducible refine Below.drew ?_) | (with_reducible refine below_drewN ?_ _) | (with_reducible exact Below.refl _ _) | (show _ ≤ _; (try simp); (try omega); done) | exact Below.refl _ _ | assumption))⟩
  | n =>
    have hn : 0 ≤ n := by have h9 : 1 ≤ n := lo_of3 (a := 1) ho; omega
    obtain ⟨m, hm⟩ : ∃ m : Nat, m = n.toNat := ⟨_, rfl⟩
    have hm1 : n = (m : Int) := by omega
    have HM1 := Lib.hid hm1
    have hm2 : m < 18446744073709551616 := by omega
    have hlen := digs_len10 hm2
    have HE : Hid (wordL .n ⟨op, a, b, n, imm⟩ = digsB 10 m) := Lib.hid (by simp only [wordL]; rw [hm])
    show Calls Tryz.prog 66 #[.agg #[.int .i64 op, .int .i64 a, .int .i64 b, .int .i64 n, .int .u64 imm], .int .u8 110] w _
    rw [HE.out]
    clear hm hm1 ho hma hmb hmn him
    generalize hD : digsB 10 m = D at *
    have HDG := Lib.hid (fun (v : Int) (hv : v = (m : Int)) (W : World) => (rdig10 v m hv hm2 W).mono (R' := fun e w' => e = .returned (.string ⟨D.toArray⟩) ∧ W = w') (fun e w' h => ⟨by rw [h.1, hD], h.2⟩))
    clear hD
    have hnot : ¬ 9223372036854775807 < 1 + D.length := by omega
    go_enter Tryz.func66, Tryz.ntmps66
    go_wp2_with (go_at_call 107; refine (HDG.out _ (by have := HM1.out; first | exact this | (rw [IntKind.wrap_u64]; omega)) _).mono ?_; rintro e w1 ⟨rfl, rfl⟩)
    go_ret
    exact ⟨rfl, (by repeat' (first | (with_reducible assumption) | (with_reducible refine Below.setCell ?_ ?_ _) | (with_reducible refine Below.alloc ?_ ?_ _) | (with_reducible refine Below.drew ?_) | (with_reducible refine below_drewN ?_ _) | (with_reducible exact Below.refl _ _) | (show _ ≤ _; (try simp); (try omega); done) | exact Below.refl _ _ | assumption))⟩
  | s =>
    have hn : 0 ≤ b := lo_of ho
    obtain ⟨m, hm⟩ : ∃ m : Nat, m = b.toNat := ⟨_, rfl⟩
    have hm1 : b = (m : Int) := by omega
    have HM1 := Lib.hid hm1
    have hm2 : m < 18446744073709551616 := by omega
    have hlen := digs_len10 hm2
    have HE : Hid (wordL .s ⟨op, a, b, n, imm⟩ = digsB 10 m) := Lib.hid (by simp only [wordL]; rw [hm])
    show Calls Tryz.prog 66 #[.agg #[.int .i64 op, .int .i64 a, .int .i64 b, .int .i64 n, .int .u64 imm], .int .u8 115] w _
    rw [HE.out]
    clear hm hm1 ho hma hmb hmn him
    generalize hD : digsB 10 m = D at *
    have HDG := Lib.hid (fun (v : Int) (hv : v = (m : Int)) (W : World) => (rdig10 v m hv hm2 W).mono (R' := fun e w' => e = .returned (.string ⟨D.toArray⟩) ∧ W = w') (fun e w' h => ⟨by rw [h.1, hD], h.2⟩))
    clear hD
    have hnot : ¬ 9223372036854775807 < 1 + D.length := by omega
    go_enter Tryz.func66, Tryz.ntmps66
    go_wp2_with (go_at_call 107; refine (HDG.out _ (by have := HM1.out; first | exact this | (rw [IntKind.wrap_u64]; omega)) _).mono ?_; rintro e w1 ⟨rfl, rfl⟩)
    go_ret
    exact ⟨rfl, (by repeat' (first | (with_reducible assumption) | (with_reducible refine Below.setCell ?_ ?_ _) | (with_reducible refine Below.alloc ?_ ?_ _) | (with_reducible refine Below.drew ?_) | (with_reducible refine below_drewN ?_ _) | (with_reducible exact Below.refl _ _) | (show _ ≤ _; (try simp); (try omega); done) | exact Below.refl _ _ | assumption))⟩
  | h =>
    have hn : 0 ≤ n := lo_of ho
    obtain ⟨m, hm⟩ : ∃ m : Nat, m = n.toNat := ⟨_, rfl⟩
    have hm1 : n = (m : Int) := by omega
    have HM1 := Lib.hid hm1
    have hm2 : m < 18446744073709551616 := by omega
    have hlen := digs_len10 hm2
    have HE : Hid (wordL .h ⟨op, a, b, n, imm⟩ = digsB 10 m) := Lib.hid (by simp only [wordL]; rw [hm])
    show Calls Tryz.prog 66 #[.agg #[.int .i64 op, .int .i64 a, .int .i64 b, .int .i64 n, .int .u64 imm], .int .u8 104] w _
    rw [HE.out]
    clear hm hm1 ho hma hmb hmn him
    generalize hD : digsB 10 m = D at *
    have HDG := Lib.hid (fun (v : Int) (hv : v = (m : Int)) (W : World) => (rdig10 v m hv hm2 W).mono (R' := fun e w' => e = .returned (.string ⟨D.toArray⟩) ∧ W = w') (fun e w' h => ⟨by rw [h.1, hD], h.2⟩))
    clear hD
    have hnot : ¬ 9223372036854775807 < 1 + D.length := by omega
    go_enter Tryz.func66, Tryz.ntmps66
    go_wp2_with (go_at_call 107; refine (HDG.out _ (by have := HM1.out; first | exact this | (rw [IntKind.wrap_u64]; omega)) _).mono ?_; rintro e w1 ⟨rfl, rfl⟩)
    go_ret
    exact ⟨rfl, (by repeat' (first | (with_reducible assumption) | (with_reducible refine Below.setCell ?_ ?_ _) | (with_reducible refine Below.alloc ?_ ?_ _) | (with_reducible refine Below.drew ?_) | (with_reducible refine below_drewN ?_ _) | (with_reducible exact Below.refl _ _) | (show _ ≤ _; (try simp); (try omega); done) | exact Below.refl _ _ | assumption))⟩
  | w =>
    have hn : 0 ≤ n := by have h9 : 1 ≤ n := lo_of (a := 1) ho; omega
    obtain ⟨m, hm⟩ : ∃ m : Nat, m = n.toNat := ⟨_, rfl⟩
    have hm1 : n = (m : Int) := by omega
    have HM1 := Lib.hid hm1
    have hm2 : m < 18446744073709551616 := by omega
    have hlen := digs_len10 hm2
    have HE : Hid (wordL .w ⟨op, a, b, n, imm⟩ = digsB 10 m) := Lib.hid (by simp only [wordL]; rw [hm])
    show Calls Tryz.prog 66 #[.agg #[.int .i64 op, .int .i64 a, .int .i64 b, .int .i64 n, .int .u64 imm], .int .u8 119] w _
    rw [HE.out]
    clear hm hm1 ho hma hmb hmn him
    generalize hD : digsB 10 m = D at *
    have HDG := Lib.hid (fun (v : Int) (hv : v = (m : Int)) (W : World) => (rdig10 v m hv hm2 W).mono (R' := fun e w' => e = .returned (.string ⟨D.toArray⟩) ∧ W = w') (fun e w' h => ⟨by rw [h.1, hD], h.2⟩))
    clear hD
    have hnot : ¬ 9223372036854775807 < 1 + D.length := by omega
    go_enter Tryz.func66, Tryz.ntmps66
    go_wp2_with (go_at_call 107; refine (HDG.out _ (by have := HM1.out; first | exact this | (rw [IntKind.wrap_u64]; omega)) _).mono ?_; rintro e w1 ⟨rfl, rfl⟩)
    go_ret
    exact ⟨rfl, (by repeat' (first | (with_reducible assumption) | (with_reducible refine Below.setCell ?_ ?_ _) | (with_reducible refine Below.alloc ?_ ?_ _) | (with_reducible refine Below.drew ?_) | (with_reducible refine below_drewN ?_ _) | (with_reducible exact Below.refl _ _) | (show _ ≤ _; (try simp); (try omega); done) | exact Below.refl _ _ | assumption))⟩
  | j =>
    have hn : 0 ≤ n := lo_of ho
    obtain ⟨m, hm⟩ : ∃ m : Nat, m = n.toNat := ⟨_, rfl⟩
    have hm1 : n = (m : Int) := by omega
    have HM1 := Lib.hid hm1
    have hm2 : m < 18446744073709551616 := by omega
    have hlen := digs_len10 hm2
    have HE : Hid (wordL .j ⟨op, a, b, n, imm⟩ = digsB 10 m) := Lib.hid (by simp only [wordL]; rw [hm])
    show Calls Tryz.prog 66 #[.agg #[.int .i64 op, .int .i64 a, .int .i64 b, .int .i64 n, .int .u64 imm], .int .u8 106] w _
    rw [HE.out]
    clear hm hm1 ho hma hmb hmn him
    generalize hD : digsB 10 m = D at *
    have HDG := Lib.hid (fun (v : Int) (hv : v = (m : Int)) (W : World) => (rdig10 v m hv hm2 W).mono (R' := fun e w' => e = .returned (.string ⟨D.toArray⟩) ∧ W = w') (fun e w' h => ⟨by rw [h.1, hD], h.2⟩))
    clear hD
    have hnot : ¬ 9223372036854775807 < 1 + D.length := by omega
    go_enter Tryz.func66, Tryz.ntmps66
    go_wp2_with (go_at_call 107; refine (HDG.out _ (by have := HM1.out; first | exact this | (rw [IntKind.wrap_u64]; omega)) _).mono ?_; rintro e w1 ⟨rfl, rfl⟩)
    go_ret
    exact ⟨rfl, (by repeat' (first | (with_reducible assumption) | (with_reducible refine Below.setCell ?_ ?_ _) | (with_reducible refine Below.alloc ?_ ?_ _) | (with_reducible refine Below.drew ?_) | (with_reducible refine below_drewN ?_ _) | (with_reducible exact Below.refl _ _) | (show _ ≤ _; (try simp); (try omega); done) | exact Below.refl _ _ | assumption))⟩
  | i =>
    obtain ⟨m, hm⟩ : ∃ m : Nat, m = imm.toNat := ⟨_, rfl⟩
    have hm1 : imm = (m : Int) := by omega
    have HM1 := Lib.hid hm1
    have hm2 : m < 18446744073709551616 := by omega
    have hlen := digs_len16 hm2
    have HE : Hid (wordL .i ⟨op, a, b, n, imm⟩ = [48, 120] ++ digsB 16 m) := Lib.hid (by simp only [wordL]; rw [hm])
    show Calls Tryz.prog 66 #[.agg #[.int .i64 op, .int .i64 a, .int .i64 b, .int .i64 n, .int .u64 imm], .int .u8 105] w _
    rw [HE.out]
    clear hm hm1 ho hma hmb hmn him
    generalize hD : digsB 16 m = D at *
    have HDG := Lib.hid (fun (v : Int) (hv : v = (m : Int)) (W : World) => (rdig16 v m hv hm2 W).mono (R' := fun e w' => e = .returned (.string ⟨D.toArray⟩) ∧ W = w') (fun e w' h => ⟨by rw [h.1, hD], h.2⟩))
    clear hD
    have hnot : ¬ 9223372036854775807 < 2 + D.length := by omega
    go_enter Tryz.func66, Tryz.ntmps66
    go_wp2_with (go_at_call 107; refine (HDG.out _ (by have := HM1.out; exact this) _).mono ?_; rintro e w1 ⟨rfl, rfl⟩)
    go_ret
    exact ⟨congrArg (fun s : ByteArray => Ending.returned (Value.string s)) (strApp [48, 120] D), (by repeat' (first | (with_reducible assumption) | (with_reducible refine Below.setCell ?_ ?_ _) | (with_reducible refine Below.alloc ?_ ?_ _) | (with_reducible refine Below.drew ?_) | (with_reducible refine below_drewN ?_ _) | (with_reducible exact Below.refl _ _) | (show _ ≤ _; (try simp); (try omega); done) | exact Below.refl _ _ | assumption))⟩
  | g =>
    show Calls Tryz.prog 66 #[.agg #[.int .i64 op, .int .i64 a, .int .i64 b, .int .i64 n, .int .u64 imm], .int .u8 103] w _
    by_cases h1 : imm = 1
    · have HE : Hid (wordL .g ⟨op, a, b, n, imm⟩ = signedT) := Lib.hid (by simp [wordL, h1])
      have e1 : (imm == 1) = true := by simpa using h1
      rw [HE.out]
      clear h1 ho hma hmb hmn him
      go_enter Tryz.func66, Tryz.ntmps66
      go_wp2
      go_ret
      exact ⟨rfl, (by repeat' (first | (with_reducible assumption) | (with_reducible refine Below.setCell ?_ ?_ _) | (with_reducible refine Below.alloc ?_ ?_ _) | (with_reducible refine Below.drew ?_) | (with_reducible refine below_drewN ?_ _) | (with_reducible exact Below.refl _ _) | (show _ ≤ _; (try simp); (try omega); done) | exact Below.refl _ _ | assumption))⟩
    · have HE : Hid (wordL .g ⟨op, a, b, n, imm⟩ = unsignedT) := Lib.hid (by simp [wordL, h1])
      have e1 : (imm == 1) = false := by simpa using h1
      rw [HE.out]
      clear h1 ho hma hmb hmn him
      go_enter Tryz.func66, Tryz.ntmps66
      go_wp2
      go_ret
      exact ⟨rfl, (by repeat' (first | (with_reducible assumption) | (with_reducible refine Below.setCell ?_ ?_ _) | (with_reducible refine Below.alloc ?_ ?_ _) | (with_reducible refine Below.drew ?_) | (with_reducible refine below_drewN ?_ _) | (with_reducible exact Below.refl _ _) | (show _ ≤ _; (try simp); (try omega); done) | exact Below.refl _ _ | assumption))⟩
theorem rword_lit (l : Le) {x : Ins} (hx : x.Ok) (ho : okF l.fk x = true) (w : World) : Calls Tryz.prog 66 #[.agg #[.int .i64 x.op, .int .i64 x.a, .int .i64 x.b, .int .i64 x.n, .int .u64 x.imm], .int .u8 (l.c.toNat : Nat)] w fun e w' => e = .returned (.string ⟨(wordL l x).toArray⟩) ∧ Below w.heap.size w w' := rword_any l hx ho w
theorem word_len {l : Le} {x : Ins} (hx : x.Ok) (ho : okF l.fk x = true) : (wordL l x).length ≤ 30 := by
  have him := hx.imm
  have hma := hx.a
  have hmb := hx.b
  have hmn := hx.n
  have ha := digs_len10 (m := x.a.toNat) (by omega)
  have hb := digs_len10 (m := x.b.toNat) (by omega)
  have hn := digs_len10 (m := x.n.toNat) (by omega)
  have hi := digs_len16 (m := x.imm.toNat) (by omega)
  cases l <;> simp only [wordL, List.length_cons, List.length_append, List.length_nil] <;> (try split) <;> first | omega | decide
set_option maxRecDepth 100000 in
set_option maxHeartbeats 4000000 in
theorem rprint_bad {x : Ins} (hx : x.Ok) (hr : rightB x = false) (w : World) : Calls Tryz.prog 30 #[.agg (insC x).toArray] w fun e w' => e = .returned (.tuple #[.string ⟨#[]⟩, .int .i64 20]) ∧ Below w.heap.size w w' := by
  have HRT := Lib.hid (fun (W : World) => rright_any hx W)
  rw [hr] at HRT
  obtain ⟨op, a, b, n, imm⟩ := x
  clear hx hr
  unfold insC
  go_enter Tryz.func30, Tryz.ntmps30
  go_wp2_with (go_at_call 63; refine (HRT.out _).mono ?_; rintro e w1 ⟨rfl, hb⟩; have HB : Hid (Below w.heap.size w w1) := Lib.hid (Below.trans (by repeat' (first | (with_reducible assumption) | (with_reducible refine Below.setCell ?_ ?_ _) | (with_reducible refine Below.alloc ?_ ?_ _) | (with_reducible refine Below.drew ?_) | (with_reducible refine below_drewN ?_ _) | (with_reducible exact Below.refl _ _) | (show _ ≤ _; (try simp); (try omega); done) | exact Below.refl _ _ | assumption)) (hb.mono (by (try simp); (try omega)))); clear hb)
  go_ret2
  exact ⟨rfl, HB.out⟩
set_option maxRecDepth 100000 in
set_option maxHeartbeats 4000000 in
theorem rprint_good {x : Ins} (hx : x.Ok) (hr : rightB x = true) (w : World) : Calls Tryz.prog 30 #[.agg (insC x).toArray] w fun e w' => e = .returned (.tuple #[.string ⟨(lineI x).toArray⟩, .int .i64 0]) ∧ Below w.heap.size w w' := by
  have HRT := Lib.hid (fun (W : World) => rright_any hx W)
  rw [hr] at HRT
  cases hl : lettersOf x.op with
  | none => rw [right_none hl] at hr; cases hr
  | some ls =>
  obtain ⟨fs0, hfs0, hok0, -⟩ := right_some hr
  rw [letters_fields hl] at hfs0
  obtain rfl := Option.some.inj hfs0
  have hlen : ls.length ≤ 4 := by have := fields_len (letters_fields hl); simpa using this
  obtain ⟨T, hTL⟩ : ∃ T, T = lineI x := ⟨_, rfl⟩
  rw [← hTL]
  obtain ⟨k, hk, hk20, -⟩ := letters_cases hl
  have HTL : Hid (T = nameN k ++ lineL ls x) := Lib.hid (by rw [hTL, ← line_words hl hr, hk]; rfl)
  have hnl : (nameN k).length ≤ 8 := by
    have key : ∀ k : Fin 20, (nameN k.val).length ≤ 8 := by decide
    exact key ⟨k, hk20⟩
  have HOK := Lib.hid (fun l (h : l ∈ ls) => hok0 l.fk (List.mem_map.2 ⟨l, h, rfl⟩))
  have HLN : Hid (∀ j, (lineL (ls.take j) x).length ≤ 31 * 4) := Lib.hid (fun j => by
    have key : ∀ qs : List Le, (∀ q ∈ qs, okF q.fk x = true) → (lineL qs x).length ≤ 31 * qs.length := by
      intro qs
      induction qs with
      | nil => intro _; simp [lineL]
      | cons q qs ih =>
        intro hq
        have h1 := word_len hx (hq q (List.mem_cons_self ..))
        have h2 := ih (fun f hf => hq f (List.mem_cons_of_mem _ hf))
        unfold lineL at h2 ⊢
        rw [List.flatMap_cons, List.length_append, List.length_cons, List.length_cons]
        omega
    have h1 := key (ls.take j) (fun q hq => HOK.out q (List.mem_of_mem_take hq))
    have h2 : (ls.take j).length ≤ 4 := by rw [List.length_take]; omega
    omega)
  have HX := Lib.hid hx
  have hf : fldTxt x.op = textOf ls := by unfold fldTxt; rw [hl]
  have HF := Lib.hid (fun (W : World) => rfields_any x.op W)
  rw [hf] at HF
  have HNM := Lib.hid (fun (W : World) => rname_any k hk20 W)
  have hsz := textOf_size ls
  have HGET := Lib.hid (textOf_get ls)
  obtain ⟨S, hS⟩ : ∃ S, S = textOf ls := ⟨_, rfl⟩
  rw [← hS] at HF hsz HGET
  have HSZ := Lib.hid hsz
  obtain ⟨op, a, b, n, imm⟩ := x
  obtain rfl : op = (k : Int) := hk
  clear hl hf hx hr hfs0 hsz hS hok0 hTL
  unfold insC
  go_enter Tryz.func30, Tryz.ntmps30
  go_wp2_with (first
    | (go_at_call 63; refine (HRT.out _).mono ?_; rintro e w1 ⟨rfl, hb⟩; have hj := (Has.new w 25 #[.int .i64 (k : Int), .int .i64 a, .int .i64 b, .int .i64 n, .int .u64 imm]).below hb (by simp); have x0 : w1.cell? ⟨w.heap.size, 0, none⟩ = some (.int .i64 (k : Int)) := hj.cell 0; have z1 : w.heap.size < w1.heap.size := hj.lt; have HJ := Lib.hid hj; have HB : Hid (Below w.heap.size w w1) := Lib.hid (Below.trans (by repeat' (first | (with_reducible assumption) | (with_reducible refine Below.setCell ?_ ?_ _) | (with_reducible refine Below.alloc ?_ ?_ _) | (with_reducible refine Below.drew ?_) | (with_reducible refine below_drewN ?_ _) | (with_reducible exact Below.refl _ _) | (show _ ≤ _; (try simp); (try omega); done) | exact Below.refl _ _ | assumption)) (hb.mono (by (try simp); (try omega)))); clear hb hj)
    | (go_at_call 64; refine (HNM.out _).mono ?_; rintro e w2 ⟨rfl, hb⟩; have hj := HJ.out.below hb HJ.out.lt; have x2 : w2.cell? ⟨w.heap.size, 0, none⟩ = some (.int .i64 (k : Int)) := hj.cell 0; have z2 : w.heap.size < w2.heap.size := hj.lt; have HJ2 := Lib.hid hj; have HB2 : Hid (Below w.heap.size w w2) := Lib.hid (HB.out.trans (hb.mono HB.out.size)); clear hb hj)
    | (go_at_call 65; refine (HF.out _).mono ?_; rintro e w3 ⟨rfl, hb⟩; have hj := HJ2.out.below hb HJ2.out.lt; have z3 : w.heap.size < w3.heap.size := hj.lt; have HJ3 := Lib.hid hj; have HB3 : Hid (Below w.heap.size w w3) := Lib.hid (HB2.out.trans (hb.mono HB2.out.size)); clear hb hj))
  go_loopw [4, 6] (fun sv i wr => ∃ j : Nat, j ≤ ls.length ∧ i = .int .i64 (j : Nat) ∧ sv = .string ⟨(nameN k ++ lineL (ls.take j) ⟨(k : Int), a, b, n, imm⟩).toArray⟩ ∧ Hid (Has wr w.heap.size 25 #[.int .i64 (k : Int), .int .i64 a, .int .i64 b, .int .i64 n, .int .u64 imm]) ∧ Hid (Below w.heap.size w wr)) (fun _ i _ => ls.length - (intOf i).toNat)
  case atStart => exact ⟨0, Nat.zero_le _, rfl, by simp [lineL], HJ3, HB3⟩
  case round =>
    obtain ⟨j, hj, rfl, rfl, HJr, HBr⟩ := hrel
    have hzr := HBr.out.size
    have hPl : (nameN k ++ lineL (ls.take j) ⟨(k : Int), a, b, n, imm⟩).length ≤ 132 := by
      have h2 := HLN.out j
      rw [List.length_append]; omega
    clear HJ3 HB3 x0 x2
    by_cases hlt : j < ls.length
    · have hltS : j < S.size := by rw [HSZ.out]; exact hlt
      have hget := HGET.out j hltS hlt
      obtain ⟨cv, hcv⟩ : ∃ cv : Int, cv = ((ls[j]).c.toNat : Nat) := ⟨_, rfl⟩
      have hcc : ((S[j]'hltS).toNat : Int) = cv := by rw [hget, hcv]
      have hok := HOK.out ls[j] (List.getElem_mem hlt)
      have HWD := Lib.hid (fun (W : World) => rword_lit ls[j] HX.out hok W)
      rw [← hcv] at HWD
      have HLT : Hid (nameN k ++ lineL (ls.take (j + 1)) ⟨(k : Int), a, b, n, imm⟩ = (nameN k ++ lineL (ls.take j) ⟨(k : Int), a, b, n, imm⟩) ++ (32 :: wordL ls[j] ⟨(k : Int), a, b, n, imm⟩)) := Lib.hid (by rw [lineL_take ls _ hlt, List.append_assoc])
      have hQl := word_len HX.out hok
      have j0 : wr.cell? ⟨w.heap.size, 0, none⟩ = some (.int .i64 (k : Int)) := HJr.out.cell 0
      have j1 : wr.cell? ⟨w.heap.size, 1, none⟩ = some (.int .i64 a) := HJr.out.cell 1
      have j2 : wr.cell? ⟨w.heap.size, 2, none⟩ = some (.int .i64 b) := HJr.out.cell 2
      have j3 : wr.cell? ⟨w.heap.size, 3, none⟩ = some (.int .i64 n) := HJr.out.cell 3
      have j4 : wr.cell? ⟨w.heap.size, 4, none⟩ = some (.int .u64 imm) := HJr.out.cell 4
      have zjr : w.heap.size < wr.heap.size := HJr.out.lt
      clear hget hcv hok
      generalize nameN k ++ lineL (ls.take j) ⟨(k : Int), a, b, n, imm⟩ = P at *
      generalize wordL ls[j] ⟨(k : Int), a, b, n, imm⟩ = Q at *
      have hn1 : ¬ 9223372036854775807 < P.length + 1 := by omega
      have hn2 : ¬ 9223372036854775807 < P.length + 1 + Q.length := by omega
      go_wp2_with fail
      go_region_law (go_simp; go_at_call 66; refine (HWD.out _).mono ?_; rintro e w6 ⟨rfl, hb6⟩; have hB6 : Below wr.heap.size wr w6 := Below.trans (by repeat' (first | (with_reducible assumption) | (with_reducible refine Below.setCell ?_ ?_ _) | (with_reducible refine Below.alloc ?_ ?_ _) | (with_reducible refine Below.drew ?_) | (with_reducible refine below_drewN ?_ _) | (with_reducible exact Below.refl _ _) | (show _ ≤ _; (try simp); (try omega); done) | exact Below.refl _ _ | assumption)) (hb6.mono (by (try simp); (try omega))); have HJ6 := Lib.hid (HJr.out.below hB6 HJr.out.lt); have HB6 := Lib.hid (HBr.out.trans (hB6.mono hzr)); clear hb6 hB6)
      all_goals
        go_wp2
        go_roundw
      all_goals first
        | exact ⟨j + 1, by omega, by go_num, by rw [HLT.out]; exact congrArg Value.string (strMid P Q), HJ6, HB6⟩
        | (simp [intOf]; omega)
    · obtain rfl : j = ls.length := by omega
      have hft : ls.take ls.length = ls := List.take_of_length_le (Nat.le_refl _)
      have hdec : decide ((ls.length : Int) < (S.size : Int)) = false := by rw [HSZ.out]; simp
      have hdec2 : decide (ls.length < S.size) = false := by rw [HSZ.out]; simp
      have hdec3 : S.size ≤ ls.length := by rw [HSZ.out]; exact Nat.le_refl _
      go_wp2
      go_ret2
      rw [hft, ← HTL.out]
      exact ⟨rfl, HBr.out⟩
end codeW
end Go.Proofs.YtbbfpbmogklomaaGreatDoor
