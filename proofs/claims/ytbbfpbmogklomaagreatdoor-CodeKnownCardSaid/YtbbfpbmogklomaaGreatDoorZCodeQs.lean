/- busbarref12.sevens: a number in sevens. Condition: it is of 64 bits. -/
import Derived.Test.YtbbfpbmogklomaaGreatDoorZKc
import Derived.Test.YtbbfpbmogklomaaGreatDoorZKi
namespace Go.Proofs.YtbbfpbmogklomaaGreatDoor
open Go.RowKit Go.Bus Go.Bus.cellK Go.Bus.codeK
set_option linter.unusedVariables false
set_option linter.unusedSimpArgs false
namespace codeW
theorem or128b (k : Nat) : bits BinOp.or IntKind.u8 ((k : Int) % 128) 128 = ((k % 128 + 128 : Nat) : Int) := by
  have h := or128 (k % 128)
  rw [show (((k % 128 : Nat) : Int) % 256) = (k : Int) % 128 from by omega] at h
  rw [h]; congr 1; omega
theorem and127n {u : Nat} (h : u < 18446744073709551616) : bits BinOp.and IntKind.u64 (u : Int) 127 = ((u % 128 : Nat) : Int) := by
  have h1 := bits_and_u64_nat u 127 h (by decide)
  rw [show ((127 : Nat) : Int) = 127 from rfl] at h1
  rw [h1, show (127 : Nat) = 2 ^ 7 - 1 from rfl, Nat.and_two_pow_sub_one_eq_mod]
theorem u_ten {u k : Nat} (h : u * 128 ^ k < 18446744073709551616) (hk : k = 10) : u = 0 := by
  subst hk
  have : (128 : Nat) ^ 10 = 1180591620717411303424 := by decide
  rw [this] at h; omega
theorem uk1 {u k : Nat} (h : u * 128 ^ k < 18446744073709551616) : u / 128 * 128 ^ (k + 1) < 18446744073709551616 := by
  have h1 : u / 128 * 128 ^ (k + 1) ≤ u * 128 ^ k := by
    rw [Nat.pow_succ, Nat.mul_comm (128 ^ k) 128, ← Nat.mul_assoc]
    exact Nat.mul_le_mul_right _ (by omega)
  omega
theorem u64k {u k : Nat} (h : u * 128 ^ k < 18446744073709551616) : u < 18446744073709551616 := Nat.lt_of_le_of_lt (Nat.le_mul_of_pos_right u (Nat.pow_pos (by decide))) h
set_option maxRecDepth 100000 in
set_option maxHeartbeats 2000000 in
theorem rsev_any (m : Nat) (hm : m < 18446744073709551616) (w : World) : Calls Tryz.prog 109 #[.int .u64 (m : Nat)] w fun e w' => ∃ v, e = .returned v ∧ w'.ownsRow w.heap.size 5 1 v (sev m).length ((sev m).map byteV) ∧ Below w.heap.size w w' := by
  obtain ⟨i0, hi, hz0, hz1, hz2⟩ := info_parts Tryz.infoB
  obtain ⟨T, hT⟩ : ∃ T, T = sev m := ⟨_, rfl⟩
  rw [← hT]
  have HT := Lib.hid hT
  clear hT
  go_enter Tryz.func109, Tryz.ntmps109
  go_wp2
  go_loopw [0, 3, 4] (fun v l i wr => ∃ (k u : Nat) (bs : List Int), k ≤ 10 ∧ v = .int .u64 (u : Nat) ∧ i = .int .i64 (k : Nat) ∧ Hid (u * 128 ^ k < 18446744073709551616) ∧ bs.length = k ∧ Hid (wr.ownsRow w.heap.size 5 1 l k (bs.map byteV)) ∧ Hid (bs ++ (if k = 0 ∨ 0 < u then sev u else []) = T) ∧ Hid (Below w.heap.size w wr)) (fun _ _ i _ => 10 - (intOf i).toNat)
  case atStart => exact ⟨0, m, [], Nat.zero_le _, rfl, rfl, Lib.hid (by simpa using hm), rfl, Lib.hid (World.ownsRow_nil _ _ _ _), Lib.hid (by rw [if_pos (.inl rfl), HT.out]; rfl), Lib.hid (Below.refl _ _)⟩
  case round =>
    obtain ⟨k, u, bs, hk, rfl, rfl, HU, hbl, HO, HE, HB⟩ := hrel
    have HBL := Lib.hid hbl
    clear hbl
    have hu64 := u64k HU.out
    have hsz := HB.out.size
    by_cases hgo : k = 0 ∨ 0 < u
    · have hk10 : k < 10 := by
        rcases Nat.lt_or_ge k 10 with h | h
        · exact h
        · have := u_ten HU.out (by omega); omega
      have d1 : decide ((k : Int) < 10) = true := by simp; omega
      have d2 : (((k : Int) == 0) || decide (0 < (u : Int))) = true := by
        rcases hgo with h | h
        · simp [h]
        · have : decide (0 < (u : Int)) = true := by simp; omega
          rw [this, Bool.or_true]
      have HG : Hid (bs ++ sev u = T) := Lib.hid (by rw [← HE.out, if_pos hgo])
      have HU1 := Lib.hid (uk1 HU.out)
      have hkk : k = 0 ∨ (k ≠ 0 ∧ 0 < u) := by omega
      clear hgo HE HU
      have hA := and127n hu64
      by_cases hlt : u < 128
      · have HX : Hid (bits BinOp.and IntKind.u64 (u : Int) 127 % 256 = (u : Int)) := Lib.hid (by rw [hA]; omega)
        have HN : Hid ((bs ++ [(u : Int)]) ++ (if k + 1 = 0 ∨ 0 < u / 128 then sev (u / 128) else []) = T) := Lib.hid (by rw [if_neg (by omega), List.append_nil, ← HG.out, sev_lt hlt])
        clear hA
        rcases hkk with h0 | ⟨h0, h1⟩
        · subst h0
          have d4 : decide (0 < (u : Int) / 128) = false := by simp; omega
          go_wp2_with (at_builtin; refine wpList_append_own _ rfl _ _ 28 (by rfl) w.heap.size 5 i0 (.int .u8 0) 1 1 Tryz.underlying28 hi hz0 hz1 hz2 (by rfl) (by decide) _ 0 (bs.map byteV) (by rfl) (by exact HO.out.alloc _) ⟨wr.heap.size, 0, none⟩ 1 1 [.int .u8 (bits BinOp.and IntKind.u64 (u : Int) 127 % 256)] (by rfl) (by rfl) (by exact one_new _ _ _) (by intro u hu; simp at hu; subst hu; rfl) (by unfold maxLen; omega) (by omega) (by simp; omega) ?_; intro v1 w1 ho1 hg1 _; rw [HX.out] at ho1; have HO1 := Lib.hid ho1; have HB1 : Hid (Below w.heap.size w w1) := Lib.hid (Below.grown (HB.out.alloc (by omega) _) hg1 (by simp; omega) fun r hr => (HO.out.lt r hr).1); clear ho1 hg1)
          go_roundw
          case rel => exact ⟨0 + 1, u / 128, bs ++ [(u : Int)], by omega, by first | rfl | go_num | (simp; done), by first | rfl | go_num, HU1, by rw [List.length_append, HBL.out]; rfl, Lib.hid (by have := HO1.out; simpa [byteV] using this), HN, HB1⟩
          case measure => simp [intOf]; first | done | omega
        · have d3 : ((k : Int) == 0) = false := by simp; omega
          have d5 : decide (0 < (u : Int)) = true := by simp; omega
          clear d2
          have d4 : decide (0 < (u : Int) / 128) = false := by simp; omega
          go_wp2_with (at_builtin; refine wpList_append_own _ rfl _ _ 28 (by rfl) w.heap.size 5 i0 (.int .u8 0) 1 1 Tryz.underlying28 hi hz0 hz1 hz2 (by rfl) (by decide) _ k (bs.map byteV) (by rfl) (by exact HO.out.alloc _) ⟨wr.heap.size, 0, none⟩ 1 1 [.int .u8 (bits BinOp.and IntKind.u64 (u : Int) 127 % 256)] (by rfl) (by rfl) (by exact one_new _ _ _) (by intro u hu; simp at hu; subst hu; rfl) (by unfold maxLen; omega) (by omega) (by simp; omega) ?_; intro v1 w1 ho1 hg1 _; rw [HX.out] at ho1; have HO1 := Lib.hid ho1; have HB1 : Hid (Below w.heap.size w w1) := Lib.hid (Below.grown (HB.out.alloc (by omega) _) hg1 (by simp; omega) fun r hr => (HO.out.lt r hr).1); clear ho1 hg1)
          go_roundw
          case rel => exact ⟨k + 1, u / 128, bs ++ [(u : Int)], by omega, by first | rfl | go_num | (simp; done), by first | rfl | go_num, HU1, by rw [List.length_append, HBL.out]; rfl, Lib.hid (by have := HO1.out; simpa [byteV] using this), HN, HB1⟩
          case measure => simp [intOf]; first | done | omega
      · have HX : Hid (bits BinOp.or IntKind.u8 (bits BinOp.and IntKind.u64 (u : Int) 127 % 256) 128 = ((u % 128 + 128 : Nat) : Int)) := Lib.hid (by rw [hA, show (((u % 128 : Nat) : Int) % 256) = (u : Int) % 128 from by omega]; exact or128b u)
        have HN : Hid ((bs ++ [((u % 128 + 128 : Nat) : Int)]) ++ (if k + 1 = 0 ∨ 0 < u / 128 then sev (u / 128) else []) = T) := Lib.hid (by rw [if_pos (.inr (by omega)), List.append_assoc, ← HG.out, sev_ge hlt]; rfl)
        clear hA
        rcases hkk with h0 | ⟨h0, h1⟩
        · subst h0
          have d4 : decide (0 < (u : Int) / 128) = true := by simp; omega
          go_wp2_with (at_builtin; refine wpList_append_own _ rfl _ _ 28 (by rfl) w.heap.size 5 i0 (.int .u8 0) 1 1 Tryz.underlying28 hi hz0 hz1 hz2 (by rfl) (by decide) _ 0 (bs.map byteV) (by rfl) (by exact HO.out.alloc _) ⟨wr.heap.size, 0, none⟩ 1 1 [.int .u8 (bits BinOp.or IntKind.u8 (bits BinOp.and IntKind.u64 (u : Int) 127 % 256) 128)] (by rfl) (by rfl) (by exact one_new _ _ _) (by intro u hu; simp at hu; subst hu; rfl) (by unfold maxLen; omega) (by omega) (by simp; omega) ?_; intro v1 w1 ho1 hg1 _; rw [HX.out] at ho1; have HO1 := Lib.hid ho1; have HB1 : Hid (Below w.heap.size w w1) := Lib.hid (Below.grown (HB.out.alloc (by omega) _) hg1 (by simp; omega) fun r hr => (HO.out.lt r hr).1); clear ho1 hg1)
          go_roundw
          case rel => exact ⟨0 + 1, u / 128, bs ++ [((u % 128 + 128 : Nat) : Int)], by omega, by first | rfl | go_num | (simp; done), by first | rfl | go_num, HU1, by rw [List.length_append, HBL.out]; rfl, Lib.hid (by have := HO1.out; simpa [byteV] using this), HN, HB1⟩
          case measure => simp [intOf]; first | done | omega
        · have d3 : ((k : Int) == 0) = false := by simp; omega
          have d5 : decide (0 < (u : Int)) = true := by simp; omega
          clear d2
          have d4 : decide (0 < (u : Int) / 128) = true := by simp; omega
          go_wp2_with (at_builtin; refine wpList_append_own _ rfl _ _ 28 (by rfl) w.heap.size 5 i0 (.int .u8 0) 1 1 Tryz.underlying28 hi hz0 hz1 hz2 (by rfl) (by decide) _ k (bs.map byteV) (by rfl) (by exact HO.out.alloc _) ⟨wr.heap.size, 0, none⟩ 1 1 [.int .u8 (bits BinOp.or IntKind.u8 (bits BinOp.and IntKind.u64 (u : Int) 127 % 256) 128)] (by rfl) (by rfl) (by exact one_new _ _ _) (by intro u hu; simp at hu; subst hu; rfl) (by unfold maxLen; omega) (by omega) (by simp; omega) ?_; intro v1 w1 ho1 hg1 _; rw [HX.out] at ho1; have HO1 := Lib.hid ho1; have HB1 : Hid (Below w.heap.size w w1) := Lib.hid (Below.grown (HB.out.alloc (by omega) _) hg1 (by simp; omega) fun r hr => (HO.out.lt r hr).1); clear ho1 hg1)
          go_roundw
          case rel => exact ⟨k + 1, u / 128, bs ++ [((u % 128 + 128 : Nat) : Int)], by omega, by first | rfl | go_num | (simp; done), by first | rfl | go_num, HU1, by rw [List.length_append, HBL.out]; rfl, Lib.hid (by have := HO1.out; simpa [byteV] using this), HN, HB1⟩
          case measure => simp [intOf]; first | done | omega
    · obtain rfl : u = 0 := by omega
      have hk0 : k ≠ 0 := by omega
      have HT2 : Hid (bs = T) := Lib.hid (by rw [← HE.out, if_neg hgo, List.append_nil])
      have d3 : ((k : Int) == 0) = false := by simp; omega
      clear hgo HE HU
      rcases Nat.lt_or_ge k 10 with hk2 | hk2
      · have d1 : decide ((k : Int) < 10) = true := by simp; omega
        go_wp2
        go_ret
        exact ⟨_, rfl, by rw [← HT2.out, HBL.out]; exact HO.out, HB.out⟩
      · have d1 : decide ((k : Int) < 10) = false := by simp; omega
        go_wp2
        go_ret
        exact ⟨_, rfl, by rw [← HT2.out, HBL.out]; exact HO.out, HB.out⟩
end codeW
end Go.Proofs.YtbbfpbmogklomaaGreatDoor
