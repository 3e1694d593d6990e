/- busbarref22.put, busbarref21.Stuff, busbarref22.Wire: the document's row on the wire. -/
import Derived.Test.YthjjockimpndbaaDoorZKit
import Derived.Deep.QuietTactic
import Derived.BigQuiet
import Derived.Outline
namespace Go.Proofs.YthjjockimpndbaaDoor
open Go.RowKit Go.Bus Go.Bus.bitK
set_option linter.unusedVariables false
namespace refW
open putK Go.Bus.stuffK Go.Bus.decK
set_option maxRecDepth 100000 in
set_option maxHeartbeats 1000000 in
theorem rput_any (base : Nat) (v : Value) (xs : List Bool) (x z : Int) (n : Nat) (w : World) (hown : w.ownsRow base 4 1 v xs.length (xs.map Value.bool)) (hbase : base ≤ w.heap.size)
    (hz : z = n) (hn : n ≤ 32) (hx : 0 ≤ x) (hx' : x < 18446744073709551616) (hlen : xs.length ≤ 1000000000) :
    Calls Tryd.prog 48 #[v, .int .u64 x, .int .i64 z] w (Own base w (xs ++ msb x n)) := by
  subst hz
  obtain ⟨i0, hi, hz0, hz1, hz2⟩ := info_parts Tryd.infoBool
  have HO := Lib.hid hown; clear hown
  go_enter Tryd.func48, Tryd.ntmps48
  go_wp2
  go_loopw [0, 7] (fun o i wr => ∃ k : Nat, k ≤ n ∧ i = .int .i64 ((n : Int) - 1 - k) ∧ wr.ownsRow base 4 1 o (xs.length + k) (xs.map Value.bool ++ ((msb x n).map Value.bool).take k) ∧ Below base w wr ∧ base ≤ wr.heap.size) (fun _ i _ => (intOf i + 1).toNat)
  case atStart => exact ⟨0, Nat.zero_le _, by go_num, by simpa using HO.out, Below.refl _ _, hbase⟩
  case round =>
    clear hbase
    obtain ⟨k, hk, rfl, hown, hbel, hbase⟩ := hrel
    by_cases hlt : k < n
    · obtain ⟨j, hj⟩ : ∃ j : Nat, (n : Int) - 1 - k = j := ⟨n - 1 - k, by omega⟩
      have hjn : n - 1 - k = j := by omega
      have hjb : (j : Int) ≤ 64 := by omega
      have hj0 : (0 : Int) ≤ (j : Int) := by omega
      have hbit : (bits BinOp.and IntKind.u64 (x / 2 ^ j) 1 == 1) = bitI x j := bit64 (v := x) j hx hx'
      have HJ := Lib.hid hjn; clear hjn
      have hm := msb_take x n k hlt
      rw [HJ.out] at hm
      have HM := Lib.hid hm; clear hm
      have HJ2 := Lib.hid hj
      rw [hj]
      clear hj
      go_wp2_with (at_builtin; refine wpList_append_own _ rfl _ _ 48 rfl base 4 i0 (.bool false) 1 1 Tryd.underlying48 hi hz0 hz1 hz2 rfl (by decide) _ _ _ rfl (hown.alloc _) ⟨wr.heap.size, 0, none⟩ 1 1 [.bool (bitI x j)] rfl rfl ?c1 ?c2 ?c3 ?c4 ?c5 ?_)
      case c1 => exact one_new wr _ _
      case c2 => intro u hu; simp at hu; subst hu; rfl
      case c3 => unfold maxLen; omega
      case c4 => omega
      case c5 => simp; omega
      intro v' w1 hown' hgrow _
      have hg := hgrow.size
      simp at hg
      have hr := Round.step (B := base) hbel hown hown' hgrow hbase (hxs := by first | rw [List.append_assoc, HM.out] | rw [HM.out])
      clear hown hown' hgrow hbel
      obtain ⟨hown1, hbel1⟩ := hr
      go_wp2
      have hj := HJ2.out
      go_roundw
      case rel => exact ⟨k + 1, by omega, by go_num, hown1, hbel1, by omega⟩
      case measure => first | (simp [intOf]; done) | (simp [intOf]; omega)
    · obtain rfl : k = n := by omega
      have e : (k : Int) - 1 - k = -1 := by omega
      rw [e]
      clear e
      go_wp2
      go_ret
      rw [msb_all] at hown
      exact ⟨_, rfl, by rw [List.length_append, msb_length, List.map_append]; exact hown, hbel⟩

theorem run_last (l : List Bool) : (0 < (runS l).1.2 → (runS l).2.getLast? = some (runS l).1.1) ∧ (0 < l.length → 0 < (runS l).1.2) := by
  rcases List.eq_nil_or_concat l with rfl | ⟨r, b, h⟩
  · simp [runS]
  · obtain rfl : l = r ++ [b] := by simpa using h
    rw [runS_snoc]
    unfold stepS
    split
    · simp
    · refine ⟨fun _ => ?_, fun _ => ?_⟩
      · rw [List.getLast?_append]; simp [seeN]; split <;> rfl
      · show 0 < (seeN _ _).2
        unfold seeN; split <;> simp

set_option maxRecDepth 100000 in
set_option maxHeartbeats 1000000 in
theorem rstuff_any (v : Value) (l : List Bool) (w : World) (h : Sl w w.heap.size Value.bool v l) (hlen : l.length ≤ 1000000000) :
    Calls Tryd.prog 85 #[v] w (putK.Own w.heap.size w (stuffF l)) := by
  obtain ⟨A, cap, rfl, hcap, hmax⟩ := h.form
  obtain ⟨i0, hi, hz0, hz1, hz2⟩ := info_parts Tryd.infoBool
  have HL := Lib.hid h; clear h
  unfold maxLen at hmax
  go_enter Tryd.func85, Tryd.ntmps85
  go_wp2
  go_loopw [3, 4, 5] (fun o c i wr => ∃ k : Nat, k ≤ l.length ∧ i = .int .i64 k ∧ c = .int .i64 ((runS (l.take k)).1.2 : Nat) ∧ wr.ownsRow w.heap.size 4 1 o (runS (l.take k)).2.length ((runS (l.take k)).2.map Value.bool) ∧ Below w.heap.size w wr) (fun _ _ i _ => l.length - (intOf i).toNat)
  case atStart => exact ⟨0, Nat.zero_le _, rfl, rfl, World.ownsRow_nil _ _ _ _, Below.refl _ _⟩
  case round =>
    obtain ⟨k, hk, rfl, rfl, hown, hbel⟩ := hrel
    have hbs := hbel.size
    have hbd := run_bd (l.take k)
    rw [List.length_take, Nat.min_eq_left hk] at hbd
    by_cases hlt : k < l.length
    · obtain ⟨b, off, rfl, hb, hc0⟩ := HL.out.at_ hlt
      have hc : wr.cell? ⟨b, off + k, none⟩ = some (.bool l[k]) := (hbel.cell (p := ⟨b, off + k, none⟩) hb).trans hc0
      clear hc0
      have hst := runS_take l k hlt
      have hla := (run_last (l.take k)).1
      generalize l[k] = bit at *
      obtain ⟨⟨⟨s, n⟩, out⟩, hrs⟩ : ∃ p, p = runS (l.take k) := ⟨_, rfl⟩
      rw [← hrs] at hown hbd hst hla
      rw [← hrs]
      clear hrs
      simp only at hown hbd hla
      obtain ⟨hbd1, hbd2⟩ := hbd
      have HST := Lib.hid hst; clear hst
      have HC0 := Lib.hid ((hbel.cell (p := ⟨b, off + k, none⟩) hb).symm.trans hc)
      by_cases h0 : 0 < n
      · have hl1 := hla h0
        have ho1 : 0 < out.length := by
          rcases Nat.eq_zero_or_pos out.length with h | h
          · rw [List.eq_nil_of_length_eq_zero h] at hl1; cases hl1
          · exact h
        obtain ⟨g, oc, rfl, hoc1, hoc2⟩ := own_form hown ho1
        have hcl : wr.cell? ⟨g, out.length - 1, none⟩ = some (.bool s) := by
          rw [hown.cellAt (out.length - 1) (by omega), List.getElem?_map, ← List.getLast?_eq_getElem?, hl1]; rfl
        have e1 : ((out.length : Int) - 1).toNat = out.length - 1 := by omega
        have HO := Lib.hid hown; clear hown hla hl1
        by_cases hs : s = bit
        · subst hs
          by_cases h5 : n = 4
          · subst h5
            have HST' : Hid (runS (l.take (k + 1)) = ((!s, 1), out ++ [s, !s])) := by have := HST.out; rw [stepS, if_pos (by simp [seeN])] at this; exact this
            clear HST
            go_wp2
            go_quiet (fail)
            clear hcl e1
            go_wp2_with (at_builtin; refine wpList_append_own _ rfl _ _ 48 rfl w.heap.size 4 i0 (.bool false) 1 1 Tryd.underlying48 hi hz0 hz1 hz2 rfl (by decide) _ _ _ rfl (by exact HO.out.alloc _) ⟨wr.heap.size, 0, none⟩ 1 1 [.bool s] rfl rfl ?c1 ?c2 ?c3 ?c4 ?c5 ?_)
            case c1 => exact one_new wr _ _
            case c2 => intro u hu; simp at hu; subst hu; rfl
            case c3 => (try simp only [List.length_append, List.length_cons, List.length_nil]); unfold maxLen; omega
            case c4 => (try simp only [List.length_append, List.length_cons, List.length_nil]); omega
            case c5 => simp; omega
            intro v1 w1 hown_w1 hg_w1 _
            have hr_w1 := Round.step (wr := wr) (c := #[.bool s]) (t := 4) hbel HO.out hown_w1 ⟨hg_w1.os, hg_w1.tape, hg_w1.output, hg_w1.size, hg_w1.block⟩ (hxs := rfl)
            have hbel_w1 := hr_w1.2
            have hbs_w1 := hbel_w1.size
            have HO_w1 : Hid (w1.ownsRow w.heap.size 4 1 v1 (out ++ [s]).length ((out ++ [s]).map Value.bool)) := by simpa [Hid] using hown_w1
            clear hown_w1 hg_w1 hr_w1
            have hc1 : w1.cell? ⟨b, off + k, none⟩ = some (.bool s) := (hbel_w1.cell (p := ⟨b, off + k, none⟩) hb).trans HC0.out
            clear hc hbel HO
            go_wp2_with (at_builtin; refine wpList_append_own _ rfl _ _ 48 rfl w.heap.size 4 i0 (.bool false) 1 1 Tryd.underlying48 hi hz0 hz1 hz2 rfl (by decide) _ _ _ rfl (by exact HO_w1.out.alloc _) ⟨w1.heap.size, 0, none⟩ 1 1 [.bool (!s)] rfl rfl ?d1 ?d2 ?d3 ?d4 ?d5 ?_)
            case d1 => exact one_new w1 _ _
            case d2 => intro u hu; simp at hu; subst hu; rfl
            case d3 => (try simp only [List.length_append, List.length_cons, List.length_nil]); unfold maxLen; omega
            case d4 => (try simp only [List.length_append, List.length_cons, List.length_nil]); omega
            case d5 => simp; omega
            intro v2 w2 hown_w2 hg_w2 _
            have hr_w2 := Round.step (wr := w1) (c := #[.bool (!s)]) (t := 4) hbel_w1 HO_w1.out hown_w2 ⟨hg_w2.os, hg_w2.tape, hg_w2.output, hg_w2.size, hg_w2.block⟩ (hxs := rfl)
            have hbel_w2 := hr_w2.2
            have hbs_w2 := hbel_w2.size
            have HO_w2 : Hid (w2.ownsRow w.heap.size 4 1 v2 (out ++ [s, !s]).length ((out ++ [s, !s]).map Value.bool)) := by simpa [Hid] using hown_w2
            clear hown_w2 hg_w2 hr_w2
            clear hc1 hbel_w1 HO_w1
            go_wp2
            go_roundw
            case rel => exact ⟨k + 1, by omega, by go_num, by rw [HST'.out]; rfl, by rw [HST'.out]; exact HO_w2.out, hbel_w2⟩
            case measure => first | (simp [intOf]; done) | (simp [intOf]; omega)
          · have d5 : ((n : Int) + 1 == 5) = false := by rw [beq_eq_false_iff_ne]; omega
            have HST' : Hid (runS (l.take (k + 1)) = ((s, n + 1), out ++ [s])) := by
              unfold Hid
              have := HST.out
              rw [stepS, if_neg (by simp [seeN, h0]; omega)] at this
              rw [this]; simp [seeN, h0]
            clear HST h5
            go_wp2
            go_quiet (fail)
            clear hcl e1
            go_wp2_with (at_builtin; refine wpList_append_own _ rfl _ _ 48 rfl w.heap.size 4 i0 (.bool false) 1 1 Tryd.underlying48 hi hz0 hz1 hz2 rfl (by decide) _ _ _ rfl (by exact HO.out.alloc _) ⟨wr.heap.size, 0, none⟩ 1 1 [.bool s] rfl rfl ?c1 ?c2 ?c3 ?c4 ?c5 ?_)
            case c1 => exact one_new wr _ _
            case c2 => intro u hu; simp at hu; subst hu; rfl
            case c3 => (try simp only [List.length_append, List.length_cons, List.length_nil]); unfold maxLen; omega
            case c4 => (try simp only [List.length_append, List.length_cons, List.length_nil]); omega
            case c5 => simp; omega
            intro v1 w1 hown_w1 hg_w1 _
            have hr_w1 := Round.step (wr := wr) (c := #[.bool s]) (t := 4) hbel HO.out hown_w1 ⟨hg_w1.os, hg_w1.tape, hg_w1.output, hg_w1.size, hg_w1.block⟩ (hxs := rfl)
            have hbel_w1 := hr_w1.2
            have hbs_w1 := hbel_w1.size
            have HO_w1 : Hid (w1.ownsRow w.heap.size 4 1 v1 (out ++ [s]).length ((out ++ [s]).map Value.bool)) := by simpa [Hid] using hown_w1
            clear hown_w1 hg_w1 hr_w1
            clear hc hbel HO
            go_wp2
            go_roundw
            case rel => exact ⟨k + 1, by omega, by go_num, by rw [HST'.out]; go_num, by rw [HST'.out]; exact HO_w1.out, hbel_w1⟩
            case measure => first | (simp [intOf]; done) | (simp [intOf]; omega)
        · have d6 : (s == bit) = false := by simp [hs]
          have HST' : Hid (runS (l.take (k + 1)) = ((bit, 1), out ++ [bit])) := by
            unfold Hid
            have := HST.out
            rw [stepS, if_neg (by simp [seeN, hs])] at this
            rw [this]; simp [seeN, hs]
          clear HST hs
          go_wp2
          go_quiet (fail)
          clear hcl e1
          go_wp2_with (at_builtin; refine wpList_append_own _ rfl _ _ 48 rfl w.heap.size 4 i0 (.bool false) 1 1 Tryd.underlying48 hi hz0 hz1 hz2 rfl (by decide) _ _ _ rfl (by exact HO.out.alloc _) ⟨wr.heap.size, 0, none⟩ 1 1 [.bool bit] rfl rfl ?c1 ?c2 ?c3 ?c4 ?c5 ?_)
          case c1 => exact one_new wr _ _
          case c2 => intro u hu; simp at hu; subst hu; rfl
          case c3 => (try simp only [List.length_append, List.length_cons, List.length_nil]); unfold maxLen; omega
          case c4 => (try simp only [List.length_append, List.length_cons, List.length_nil]); omega
          case c5 => simp; omega
          intro v1 w1 hown_w1 hg_w1 _
          have hr_w1 := Round.step (wr := wr) (c := #[.bool bit]) (t := 4) hbel HO.out hown_w1 ⟨hg_w1.os, hg_w1.tape, hg_w1.output, hg_w1.size, hg_w1.block⟩ (hxs := rfl)
          have hbel_w1 := hr_w1.2
          have hbs_w1 := hbel_w1.size
          have HO_w1 : Hid (w1.ownsRow w.heap.size 4 1 v1 (out ++ [bit]).length ((out ++ [bit]).map Value.bool)) := by simpa [Hid] using hown_w1
          clear hown_w1 hg_w1 hr_w1
          clear hc hbel HO
          go_wp2
          go_roundw
          case rel => exact ⟨k + 1, by omega, by go_num, by rw [HST'.out]; rfl, by rw [HST'.out]; exact HO_w1.out, hbel_w1⟩
          case measure => first | (simp [intOf]; done) | (simp [intOf]; omega)
      · obtain rfl : n = 0 := by omega
        have HST' : Hid (runS (l.take (k + 1)) = ((bit, 1), out ++ [bit])) := by
          unfold Hid
          have := HST.out
          rw [stepS, if_neg (by simp [seeN])] at this
          rw [this]; simp [seeN]
        have HO := Lib.hid hown
        clear HST hla hown h0
        go_wp2
        go_quiet (fail)
        go_wp2_with (at_builtin; refine wpList_append_own _ rfl _ _ 48 rfl w.heap.size 4 i0 (.bool false) 1 1 Tryd.underlying48 hi hz0 hz1 hz2 rfl (by decide) _ _ _ rfl (by exact HO.out.alloc _) ⟨wr.heap.size, 0, none⟩ 1 1 [.bool bit] rfl rfl ?c1 ?c2 ?c3 ?c4 ?c5 ?_)
        case c1 => exact one_new wr _ _
        case c2 => intro u hu; simp at hu; subst hu; rfl
        case c3 => (try simp only [List.length_append, List.length_cons, List.length_nil]); unfold maxLen; omega
        case c4 => (try simp only [List.length_append, List.length_cons, List.length_nil]); omega
        case c5 => simp; omega
        intro v1 w1 hown_w1 hg_w1 _
        have hr_w1 := Round.step (wr := wr) (c := #[.bool bit]) (t := 4) hbel HO.out hown_w1 ⟨hg_w1.os, hg_w1.tape, hg_w1.output, hg_w1.size, hg_w1.block⟩ (hxs := rfl)
        have hbel_w1 := hr_w1.2
        have hbs_w1 := hbel_w1.size
        have HO_w1 : Hid (w1.ownsRow w.heap.size 4 1 v1 (out ++ [bit]).length ((out ++ [bit]).map Value.bool)) := by simpa [Hid] using hown_w1
        clear hown_w1 hg_w1 hr_w1
        clear hc hbel HO
        go_wp2
        go_roundw
        case rel => exact ⟨k + 1, by omega, by go_num, by rw [HST'.out]; rfl, by rw [HST'.out]; exact HO_w1.out, hbel_w1⟩
        case measure => first | (simp [intOf]; done) | (simp [intOf]; omega)
    · obtain rfl : k = l.length := by omega
      rw [List.take_of_length_le (Nat.le_refl _)] at hown
      have HO := Lib.hid hown; clear hown
      go_wp2
      go_ret
      exact ⟨_, rfl, HO.out, hbel⟩

set_option maxRecDepth 100000 in
set_option maxHeartbeats 1000000 in
theorem rwire_any (v : Value) (l : List Bool) (w : World) (h : Sl w w.heap.size Value.bool v l) (hlen : l.length ≤ 100000000) :
    Calls Tryd.prog 50 #[v] w (putK.Own w.heap.size w (onF l)) := by
  have hbd := (run_bd l).2
  have HL := Lib.hid h; clear h
  go_enter Tryd.func50, Tryd.ntmps50
  go_wp2_with fail
  refine (rstuff_any _ l _ HL.out (by omega)).mono ?_
  rintro e w1 ⟨v1, rfl, hown1, hb1⟩
  have HO := Lib.hid hown1; clear hown1
  go_wp2_with fail
  refine (rput_any w.heap.size _ (stuffF l) _ 10 10 _ HO.out hb1.size rfl (by omega) (by omega) (by omega) (by have : (stuffF l).length ≤ 2 * l.length := hbd; omega)).mono ?_
  rintro e w2 ⟨v2, rfl, hown2, hb2⟩
  have HO2 := Lib.hid hown2; clear hown2
  go_wp2
  go_ret
  exact ⟨_, rfl, HO2.out, hb1.trans hb2⟩
end refW
end Go.Proofs.YthjjockimpndbaaDoor
