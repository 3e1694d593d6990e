/- busbarref20.Next, Sum, With and busbarref22.header, Bits, Encode: the document's bits of a frame, or what is wrong. -/
import Derived.Test.YthjjockimpndbaaDoorZRefWire
import Derived.Test.YthjjockimpndbaaDoorZKit
import Derived.WalkLawsBesides
namespace Go.Bus.bitK
open Go.RowKit
theorem one_bit (n i : Nat) : n &&& 2 ^ i = 0 ↔ n.testBit i = false := by
  constructor
  · intro h
    have h1 := congrArg (fun m => Nat.testBit m i) h
    simpa [Nat.testBit_and, Nat.testBit_two_pow] using h1
  · intro h
    apply Nat.eq_of_testBit_eq
    intro j
    rw [Nat.testBit_and, Nat.testBit_two_pow, Nat.zero_testBit]
    by_cases hj : i = j
    · subst hj; rw [h]; rfl
    · rw [decide_eq_false hj, Bool.and_false]
theorem high_eq {r : Int} (h : 0 ≤ r) (h' : r < 32768) : (bits BinOp.and IntKind.u16 (r / 16384) 1 == 1) = (bits BinOp.and IntKind.u16 r 16384 != 0) := by
  have h1 := bit16 (v := r) 14 h (by omega)
  rw [show ((2 : Int) ^ 14) = 16384 from rfl] at h1
  rw [h1, u16_and _ _ (by omega) (by omega) (by omega) (by omega), show (16384 : Int).toNat = 2 ^ 14 from rfl]
  unfold bitI
  obtain ⟨n, rfl⟩ := Int.eq_ofNat_of_zero_le h
  have h3 : (n : Int).toNat = n := rfl
  rw [h3]
  have h4 : ((n : Int) / 2 ^ 14 % 2 = 1) ↔ (n / 2 ^ 14 % 2 = 1) := by omega
  have h6 := one_bit n 14
  rw [Nat.testBit_eq_decide_div_mod_eq, decide_eq_false_iff_not] at h6
  rw [Bool.eq_iff_iff, decide_eq_true_iff, bne_iff_ne, h4]
  constructor
  · intro h5 h7; exact (h6.1 (Int.ofNat.inj h7)) h5
  · intro h5; exact Decidable.byContradiction fun h7 => h5 (by rw [h6.2 h7]; rfl)
end Go.Bus.bitK
namespace Go.Proofs.YthjjockimpndbaaDoor
open Go.RowKit Go.Bus Go.Bus.bitK
set_option linter.unusedVariables false
namespace refW
open putK Go.Bus.stuffK Go.Bus.decK
set_option maxRecDepth 100000 in
set_option maxHeartbeats 1000000 in
theorem next_any (r : Int) (bit : Bool) (w : World) (hr : 0 ≤ r) (hr' : r < 32768) :
    Calls Tryd.prog 98 #[.int .u16 r, .bool bit] w fun e w' => e = .returned (.int .u16 (crcI r bit)) ∧ w = w' := by
  have HH := Lib.hid (high_eq hr hr')
  by_cases ht : (!((bits BinOp.and IntKind.u16 (r / 16384) 1 == 1) == bit)) = true
  · have HT := Lib.hid ht
    go_enter Tryd.func98, Tryd.ntmps98
    go_wp2
    go_ret
    exact ⟨ret_int (by rw [crcI, if_pos (by rw [← HH.out]; exact HT.out)]), rfl⟩
  · have ht' : (!((bits BinOp.and IntKind.u16 (r / 16384) 1 == 1) == bit)) = false := by simpa using ht
    clear ht
    have HT := Lib.hid ht'
    go_enter Tryd.func98, Tryd.ntmps98
    go_wp2
    go_ret
    exact ⟨ret_int (by rw [crcI, if_neg (by rw [← HH.out, HT.out]; simp)]), rfl⟩

set_option maxRecDepth 100000 in
set_option maxHeartbeats 1000000 in
theorem rsum_any (v : Value) (l : List Bool) (w : World) (h : Sl w w.heap.size Value.bool v l) :
    Calls Tryd.prog 84 #[v] w fun e w' => e = .returned (.int .u16 (crcS l)) ∧ w = w' := by
  obtain ⟨A, cap, rfl, hcap, hmax⟩ := h.form
  have HL := Lib.hid h; clear h
  unfold maxLen at hmax
  go_enter Tryd.func84, Tryd.ntmps84
  go_wp2
  go_loop [3, 4] (fun s i => ∃ k : Nat, k ≤ l.length ∧ i = .int .i64 k ∧ s = .int .u16 (crcS (l.take k))) (fun _ i => l.length - (intOf i).toNat)
  case atStart => exact ⟨0, Nat.zero_le _, rfl, rfl⟩
  case round =>
    obtain ⟨k, hk, rfl, rfl⟩ := hrel
    by_cases hlt : k < l.length
    · obtain ⟨b, off, rfl, hb, hc⟩ := HL.out.at_ hlt
      have hs := crcS_snoc (l.take k) l[k]
      rw [← take_snoc l k hlt] at hs
      have HS := Lib.hid hs; clear hs
      have HB := Lib.hid (crcS_bd (l.take k))
      go_wp2_with (go_at_call 98; refine (next_any _ _ _ HB.out.1 HB.out.2).mono ?_; rintro e w' ⟨rfl, rfl⟩)
      go_round
      case rel => exact ⟨k + 1, by omega, by go_num, by rw [HS.out]⟩
      case measure => first | (simp [intOf]; done) | (simp [intOf]; omega)
    · obtain rfl : k = l.length := by omega
      go_wp2
      go_ret
      exact ⟨ret_int (by simp), rfl⟩

set_option maxRecDepth 100000 in
set_option maxHeartbeats 1000000 in
theorem with_any (v : Value) (l : List Bool) (w : World) (h : Sl w w.heap.size Value.bool v l) (hlen : l.length ≤ 1000000000) :
    Calls Tryd.prog 49 #[v] w (Own w.heap.size w (l ++ msb (crcS l) 15)) := by
  obtain ⟨A, cap, rfl, hcap, hmax⟩ := h.form
  obtain ⟨i0, hi, hz0, hz1, hz2⟩ := info_parts Tryd.infoBool
  have HL := Lib.hid h; clear h
  unfold maxLen at hmax
  have hcb := crcS_bd l
  obtain ⟨hcb1, hcb2⟩ := hcb
  obtain ⟨x, hx⟩ : ∃ x, x = crcS l := ⟨_, rfl⟩
  rw [← hx] at hcb1 hcb2
  have HX := Lib.hid hx; clear hx
  rw [← HX.out]
  go_enter Tryd.func49, Tryd.ntmps49
  go_wp2_with fail
  refine (rsum_any _ l _ HL.out).mono ?_
  rintro e w' ⟨rfl, rfl⟩
  rw [← HX.out]
  go_wp2
  go_loopw [4, 5] (fun o i wr => ∃ k : Nat, k ≤ l.length ∧ i = .int .i64 k ∧ wr.ownsRow w.heap.size 4 1 o k ((l.map Value.bool).take k) ∧ Below w.heap.size w wr) (fun _ i _ => l.length - (intOf i).toNat)
  case atStart => exact ⟨0, Nat.zero_le _, rfl, World.ownsRow_nil _ _ _ _, Below.refl _ _⟩
  case round =>
    obtain ⟨k, hk, rfl, hown, hbel⟩ := hrel
    by_cases hlt : k < l.length
    · obtain ⟨b, off, rfl, hb, hc0⟩ := HL.out.at_ hlt
      have hc : wr.cell? ⟨b, off + k, none⟩ = some (.bool l[k]) := (hbel.cell (p := ⟨b, off + k, none⟩) hb).trans hc0
      clear hc0
      go_wp2_with (at_builtin; refine wpList_append_own _ rfl _ _ 48 rfl w.heap.size 4 i0 (.bool false) 1 1 Tryd.underlying48 hi hz0 hz1 hz2 rfl (by decide) _ _ _ rfl (hown.alloc _) ⟨wr.heap.size, 0, none⟩ 1 1 [.bool l[k]] rfl rfl ?c1 ?c2 ?c3 ?c4 ?c5 ?_)
      case c1 => exact one_new wr _ _
      case c2 => intro u hu; simp at hu; subst hu; rfl
      case c3 => unfold maxLen; omega
      case c4 => omega
      case c5 => have := hbel.size; simp; omega
      intro v' w1 hown' hgrow _
      have hr := Round.step hbel hown hown' hgrow (hxs := take_map_snoc _ l k hlt)
      clear hown hown' hgrow hbel hc
      obtain ⟨hown1, hbel1⟩ := hr
      go_wp2
      go_roundw
      case rel => exact ⟨k + 1, by omega, by go_num, hown1, hbel1⟩
      case measure => first | (simp [intOf]; done) | (simp [intOf]; omega)
    · obtain rfl : k = l.length := by omega
      rw [List.take_of_length_le (by simp)] at hown
      have HO := Lib.hid hown; clear hown
      obtain ⟨wo, rfl⟩ : ∃ wo : World, wo = wr := ⟨_, rfl⟩
      have hbz := hbel.size
      go_wp2
      go_loopw [4, 6] (fun o i wr => ∃ k : Nat, k ≤ 15 ∧ i = .int .i64 ((15 : Int) - 1 - k) ∧ wr.ownsRow w.heap.size 4 1 o (l.length + k) (l.map Value.bool ++ ((msb x 15).map Value.bool).take k) ∧ Below w.heap.size w wr) (fun _ i _ => (intOf i + 1).toNat)
      case atStart => exact ⟨0, Nat.zero_le _, by go_num, by simpa using HO.out, hbel⟩
      case round =>
        clear hbel HO hbz
        obtain ⟨k, hk, rfl, hown, hbel⟩ := hrel
        have hbz := hbel.size
        by_cases hlt : k < 15
        · obtain ⟨j, hj⟩ : ∃ j : Nat, (15 : Int) - 1 - k = j := ⟨15 - 1 - k, by omega⟩
          have hjn : 15 - 1 - k = j := by omega
          have hjb : (j : Int) ≤ 64 := by omega
          have hj0 : (0 : Int) ≤ (j : Int) := by omega
          have hbit : (bits BinOp.and IntKind.u16 (x / 2 ^ min j 16) 1 == 1) = bitI x j := by rw [show min j 16 = j from by omega]; exact bit16 (v := x) j hcb1 (by omega)
          have HJ := Lib.hid hjn; clear hjn
          have hm := msb_take x 15 k hlt
          rw [HJ.out] at hm
          have HM := Lib.hid hm; clear hm
          have HJ2 := Lib.hid hj
          rw [hj]
          clear hj
          go_wp2_with (at_builtin; refine wpList_append_own _ rfl _ _ 48 rfl w.heap.size 4 i0 (.bool false) 1 1 Tryd.underlying48 hi hz0 hz1 hz2 rfl (by decide) _ _ _ rfl (hown.alloc _) ⟨wr.heap.size, 0, none⟩ 1 1 [.bool (bitI x j)] rfl rfl ?f1 ?f2 ?f3 ?f4 ?f5 ?_)
          case f1 => exact one_new wr _ _
          case f2 => intro u hu; simp at hu; subst hu; rfl
          case f3 => unfold maxLen; omega
          case f4 => omega
          case f5 => simp; omega
          intro v' w1 hown' hgrow _
          have hr := Round.step (B := w.heap.size) hbel hown hown' hgrow hbz (hxs := by first | rw [List.append_assoc, HM.out] | rw [HM.out])
          clear hown hown' hgrow hbel hbz
          obtain ⟨hown1, hbel1⟩ := hr
          go_wp2
          have hj := HJ2.out
          go_roundw
          case rel => exact ⟨k + 1, by omega, by go_num, hown1, hbel1⟩
          case measure => first | (simp [intOf]; done) | (simp [intOf]; omega)
        · obtain rfl : k = 15 := by omega
          have e : (15 : Int) - 1 - ((15 : Nat) : Int) = -1 := by omega
          rw [e]
          clear e
          go_wp2
          go_ret
          rw [msb_all] at hown
          exact ⟨_, rfl, by rw [List.length_append, msb_length, List.map_append]; exact hown, hbel⟩

set_option maxRecDepth 100000 in
set_option maxHeartbeats 1000000 in
theorem header_any (id : Int) (wide : Bool) (A : Option Addr) (n c : Nat) (w : World) (h0 : 0 ≤ id) (h : id ≤ 536870911) (hn : n ≤ 8) :
    Calls Tryd.prog 47 #[.agg #[.int .u32 id, .bool wide, .slice A n c]] w (Own w.heap.size w ([false] ++ headF id wide ++ msb n 4)) := by
  cases wide
  · go_enter Tryd.func47, Tryd.ntmps47
    go_wp2_with fail
    refine (rput_any (w.heap.size + 1) _ [] 0 1 1 _ (World.ownsRow_nil _ _ _ _) (by simp) rfl (by omega) (by omega) (by omega) (by simp)).mono ?_
    rintro e w1 ⟨v1, rfl, ho1, hb_w1⟩
    have HO1 := Lib.hid ho1; clear ho1
    obtain ⟨hc_w1, hf_w1⟩ := bcell hb_w1; have hz_w1 := hb_w1.size; (try simp at hz_w1); have hB_w1 : Below w.heap.size w w1 := Below.trans (by repeat (first | exact Below.refl _ _ | assumption | refine Below.drew ?_ | refine below_drewN ?_ _ | (refine Below.alloc ?_ (by (try simp); (try omega)) _) | (refine Below.setCell ?_ (by (try simp); (try omega)) _))) (hb_w1.mono (by (try simp); (try omega))); have z_w1_0 : w.heap.size < w1.heap.size := (by omega)
    go_wp2_with fail
    refine (rput_any (w.heap.size + 1) _ _ id 11 11 _ HO1.out (by omega) rfl (by omega) (by omega) (by omega) (by simp [msb_length])).mono ?_
    rintro e w2 ⟨v2, rfl, ho2, hb_w2⟩
    have HO2 := Lib.hid ho2; clear ho2
    have hb2 : Below (w.heap.size + 1) w1 w2 := hb_w2
    have hc2 := hb2.cell (p := ⟨w.heap.size, 2, none⟩) (by dsimp only; omega)
    have hz2 := hb2.size
    have HB2 := Lib.hid (hB_w1.trans (hb2.mono (by omega)))
    clear hb2 hb_w2
    go_wp2_with fail
    refine (rput_any (w.heap.size + 1) _ _ 0 3 3 _ HO2.out (by omega) rfl (by omega) (by omega) (by omega) (by simp [msb_length])).mono ?_
    rintro e w3 ⟨v3, rfl, ho3, hb_w3⟩
    have HO3 := Lib.hid ho3; clear ho3
    have hc3 := (hb_w3.cell (p := ⟨w.heap.size, 2, none⟩) (by dsimp only; omega)).trans hc2
    have hz3 := hb_w3.size
    have HB3 := Lib.hid (HB2.out.trans (hb_w3.mono (by omega)))
    clear hb_w3 hc2
    go_wp2_with fail
    refine (rput_any (w.heap.size + 1) _ _ (n : Int) 4 4 _ HO3.out (by omega) rfl (by omega) (by omega) (by omega) (by simp [msb_length])).mono ?_
    rintro e w4 ⟨v4, rfl, ho4, hb_w4⟩
    have HO4 := Lib.hid ho4; clear ho4
    have HB4 := Lib.hid (HB3.out.trans (hb_w4.mono (by omega)))
    clear hb_w4
    go_wp2
    go_ret
    refine ⟨_, rfl, ?_, HB4.out⟩
    have e : [] ++ msb 0 1 ++ msb id 11 ++ msb 0 3 ++ msb (n : Int) 4 = [false] ++ headF id false ++ msb n 4 := by
      rw [show ([] : List Bool) ++ msb 0 1 = [false] from by decide]; simp [headF]
    have h9 := own_base HO4.out (show w.heap.size ≤ w.heap.size + 1 by omega)
    rw [e] at h9
    exact h9
  · go_enter Tryd.func47, Tryd.ntmps47
    go_wp2_with fail
    refine (rput_any (w.heap.size + 1) _ [] 0 1 1 _ (World.ownsRow_nil _ _ _ _) (by simp) rfl (by omega) (by omega) (by omega) (by simp)).mono ?_
    rintro e w1 ⟨v1, rfl, ho1, hb_w1⟩
    have HO1 := Lib.hid ho1; clear ho1
    obtain ⟨hc_w1, hf_w1⟩ := bcell hb_w1; have hz_w1 := hb_w1.size; (try simp at hz_w1); have hB_w1 : Below w.heap.size w w1 := Below.trans (by repeat (first | exact Below.refl _ _ | assumption | refine Below.drew ?_ | refine below_drewN ?_ _ | (refine Below.alloc ?_ (by (try simp); (try omega)) _) | (refine Below.setCell ?_ (by (try simp); (try omega)) _))) (hb_w1.mono (by (try simp); (try omega))); have z_w1_0 : w.heap.size < w1.heap.size := (by omega)
    go_wp2_with fail
    refine (rput_any (w.heap.size + 1) _ _ (id / 262144) 11 11 _ HO1.out (by omega) rfl (by omega) (by omega) (by omega) (by simp [msb_length])).mono ?_
    rintro e w2 ⟨v2, rfl, ho2, hb_w2⟩
    have HO2 := Lib.hid ho2; clear ho2
    have hb2 : Below (w.heap.size + 1) w1 w2 := hb_w2
    obtain ⟨hc2, hf2⟩ := bcell hb2
    have hz2 := hb2.size
    have HB2 := Lib.hid (hB_w1.trans (hb2.mono (by omega)))
    have HK2 := Lib.hid hb2
    clear hb2 hb_w2 hf2
    go_wp2_with fail
    refine (rput_any (w.heap.size + 1) _ _ 3 2 2 _ HO2.out (by omega) rfl (by omega) (by omega) (by omega) (by simp [msb_length])).mono ?_
    rintro e w3 ⟨v3, rfl, ho3, hb_w3⟩
    have HO3 := Lib.hid ho3; clear ho3 hc2
    have hK3 := HK2.out.trans hb_w3
    have HK3 := Lib.hid hK3
    obtain ⟨hc3, hf3⟩ := bcell hK3
    have hz3 := hK3.size
    have HB3 := Lib.hid (HB2.out.trans (hb_w3.mono (by omega)))
    clear hb_w3 hK3 hf3
    go_wp2_with fail
    refine (rput_any (w.heap.size + 1) _ _ id 18 18 _ HO3.out (by omega) rfl (by omega) (by omega) (by omega) (by simp [msb_length])).mono ?_
    rintro e w4 ⟨v4, rfl, ho4, hb_w4⟩
    have HO4 := Lib.hid ho4; clear ho4 hc3
    have hK4 := HK3.out.trans hb_w4
    have HK4 := Lib.hid hK4
    have hz4 := hK4.size
    have HB4 := Lib.hid (HB3.out.trans (hb_w4.mono (by omega)))
    clear hb_w4 hK4
    go_wp2_with fail
    refine (rput_any (w.heap.size + 1) _ _ 0 3 3 _ HO4.out (by omega) rfl (by omega) (by omega) (by omega) (by simp [msb_length])).mono ?_
    rintro e w5 ⟨v5, rfl, ho5, hb_w5⟩
    have HO5 := Lib.hid ho5; clear ho5
    have hK5 := HK4.out.trans hb_w5
    obtain ⟨hc5, hf5⟩ := bcell hK5
    have hz5 := hK5.size
    have HB5 := Lib.hid (HB4.out.trans (hb_w5.mono (by omega)))
    clear hb_w5 hK5 hf5
    go_wp2_with fail
    refine (rput_any (w.heap.size + 1) _ _ (n : Int) 4 4 _ HO5.out (by omega) rfl (by omega) (by omega) (by omega) (by simp [msb_length])).mono ?_
    rintro e w6 ⟨v6, rfl, ho6, hb_w6⟩
    have HO6 := Lib.hid ho6; clear ho6
    have HB6 := Lib.hid (HB5.out.trans (hb_w6.mono (by omega)))
    clear hb_w6
    go_wp2
    go_ret
    refine ⟨_, rfl, ?_, HB6.out⟩
    have e : [] ++ msb 0 1 ++ msb (id / 262144) 11 ++ msb 3 2 ++ msb id 18 ++ msb 0 3 ++ msb (n : Int) 4 = [false] ++ headF id true ++ msb n 4 := by
      rw [show ([] : List Bool) ++ msb 0 1 = [false] from by decide]; simp [headF]
    have h9 := own_base HO6.out (show w.heap.size ≤ w.heap.size + 1 by omega)
    rw [e] at h9
    exact h9
end refW
end Go.Proofs.YthjjockimpndbaaDoor
