/- The walk of QueuePlays: the queue answers as the document's row does, whatever the script. Condition: errors.errorType is laid. -/
import Derived.Test.YthjjockimpndbaaDoorQSt
import Derived.Test.YthjjockimpndbaaDoorAsked
import Derived.Test.YthjjockimpndbaaDoorActsOpen
import Derived.Deep.RegionHeld3
namespace Go.Proofs.YthjjockimpndbaaDoor.queuePlaysW
open Go.RowKit Go.Shelf Go.Bus Go.Bus.ringK
open Go.Proofs.YthjjockimpndbaaDoor.stK Go.Proofs.YthjjockimpndbaaDoor.actsA
set_option linter.unusedVariables false
theorem pick_to {k n : Int} {r : Nat} (w : World) (hn : 0 < n) (hn' : n ≤ 9223372036854775807) (hk : (Lit.int .i64 k).wf = true) (hr : k % n = r) :
    Calls Tryd.prog 10 #[.int .i64 k, .int .i64 n] w fun e w' => e = .returned (.int .i64 (r : Int)) ∧ w = w' := by
  have hb := intsA.wf_int hk
  rw [← hr]
  exact pickK.pick_any k n w hn hn' hb.1 (by omega)
/-- asked, with what it leaves. -/
theorem asked_st {ws w : World} {q g fr rq B room : Nat} {v : Value} {L : List Int} (left : Int) (h : St ws w q g fr rq B room v L L) :
    Calls Tryd.prog 15 #[.pointer (some ⟨q, 0, none⟩), .pointer (some ⟨rq, 0, none⟩), .int .i64 left] w fun e w' => e = .returned (.bool true) ∧ St ws w' q g fr rq B room v L L :=
  (callsIn_wide.1 (askedK.asked_in 5 (Nat.le_refl _) q g room fr rq v L left h.room64 w h.ring h.ref.struct_ (Sl.of_own h.ref.row))).mono fun e w' ⟨h1, h2⟩ => ⟨h1, h.later h2⟩

set_option maxRecDepth 100000 in
set_option maxHeartbeats 1000000 in
set_option maxHeartbeats 4000000 in
theorem walk (room : Int) (v : Value) (l : List (Int × Int)) (w : World) (hA : Acts w v l) (hG : asK.ErrT w) :
    Calls Tryd.prog 3 #[.int .i64 room, v] w fun e w' => e = .returned (.bool true) ∧ Below w.heap.size w w' := by
  obtain ⟨A, cap, rfl, hcap, hmax, hcell⟩ := hA
  unfold maxLen at hmax
  have HC := Lib.hid hcell
  have HG := Lib.hid hG
  clear hcell hG
  by_cases hbad : room < 1 ∨ 64 < room
  · have HBAD := Lib.hid hbad
    clear hbad
    go_enter Tryd.func3, Tryd.ntmps3
    go_wp2_with fail
    refine (refQ.new_bad room _ HBAD.out).mono ?_
    rintro e w1 ⟨rfl, rfl⟩
    go_wp2_with fail
    refine (qint.new_bad room _ HBAD.out).mono ?_
    rintro e w1 ⟨rfl, rfl⟩
    go_wp2_with fail
    refine (asK.plain_no 1 _ (by omega) (by omega) HG.out).mono ?_
    rintro e w1 ⟨rfl, hb⟩
    have HB := Lib.hid hb
    clear hb
    go_wp2
    go_ret
    exact ⟨rfl, HB.out⟩
  · obtain ⟨r, rfl⟩ : ∃ r : Nat, room = (r : Int) := ⟨room.toNat, by omega⟩
    have hr1 : 1 ≤ r := by omega
    have hr64 : r ≤ 64 := by omega
    clear hbad
    go_enter Tryd.func3, Tryd.ntmps3
    go_wp2_with fail
    refine (refQ.new_ok (r : Int) _ (by omega) (by omega)).mono ?_
    rintro e w1 ⟨rfl, hq1, hb1⟩
    have HQ1 := Lib.hid hq1
    have HB1 := Lib.hid hb1
    clear hq1 hb1
    go_wp2_with fail
    refine (qint.new_ok r _ hr1 hr64).mono ?_
    rintro e w2 ⟨q, g, rfl, hR2, hb2, hqw, hgw⟩
    have HR2 := Lib.hid hR2
    have HB2 := Lib.hid hb2
    clear hR2 hb2
    go_wp2_with fail
    refine (asK.plain_nil _).mono ?_
    rintro e w3 ⟨rfl, hb3⟩
    have hst : St w w3 q g 0 w.heap.size w2.heap.size r (.slice none 0 0) [] [] := by
      have hl := HR2.out.lt
      have hz1 := HQ1.out.lt
      have hz2 := HB2.out.size
      have hz3 := hb3.size
      have hglo := asK.ErrT.lt HG.out
      have h12 := HB1.out.trans (HB2.out.mono HB1.out.size)
      refine ⟨HR2.out.below hb3 hl.1 hl.2, ⟨?_, World.ownsRow_nil _ _ _ _⟩, ((HG.out.at_below h12).at_below hb3), h12.trans (hb3.mono h12.size), by omega, hl.1, hl.2, hz3, by omega, by omega, Nat.le_refl _, by omega, by omega, hglo, hr64⟩
      exact (HQ1.out.below HB2.out hz1).below hb3 (by omega)
    have HST := Lib.hid hst
    have hBw : w.heap.size ≤ w2.heap.size := by have := HB1.out.size; have := HB2.out.size; omega
    obtain ⟨B, hB⟩ : ∃ B, B = w2.heap.size := ⟨_, rfl⟩
    rw [← hB] at HST hBw
    have hqnn : True := trivial
    clear hst hb3 HR2 HB2 HQ1 HB1 hqw hgw hB hqnn
    go_wp2
    go_loopw [9] (fun i wr => ∃ (k fr : Nat) (v' : Value) (L : List Int), i = .int .i64 k ∧ k ≤ l.length ∧ St w wr q g fr w.heap.size B r v' L L) (fun i _ => l.length - (intOf i).toNat)
    case atStart => exact ⟨0, 0, _, [], rfl, Nat.zero_le _, HST.out⟩
    case round =>
      obtain ⟨k, fr, v', L, rfl, hk, hst⟩ := hrel
      have HST := Lib.hid hst
      clear hst
      by_cases hlt : k < l.length
      · obtain ⟨b, off, rfl, hb, hcc⟩ := HC.out (by omega)
        obtain ⟨⟨K, N⟩, hx⟩ : ∃ p, l[k]? = some p := ⟨_, List.getElem?_eq_getElem hlt⟩
        obtain ⟨hK0, hN0, wK, wN⟩ := hcc k _ hx
        have hK : wr.cell? ⟨b, off + k * 2, none⟩ = some (.int .i64 K) := (HST.out.bel.cell (p := ⟨b, _, none⟩) hb).trans hK0
        have hN : wr.cell? ⟨b, off + k * 2 + 1, none⟩ = some (.int .i64 N) := (HST.out.bel.cell (p := ⟨b, _, none⟩) hb).trans hN0
        obtain ⟨m, hm, hm4⟩ : ∃ m : Nat, K % 4 = m ∧ m < 4 := ⟨(K % 4).toNat, by omega, by omega⟩
        have HP := Lib.hid (fun W => pick_to (n := 4) W (by omega) (by omega) wK hm)
        have hsx : SX w (wr.alloc (.cells #[.int .i64 K, .int .i64 N] 33)) q g fr w.heap.size B r v' L L wr.heap.size #[.int .i64 K, .int .i64 N] := ⟨HST.out.later ((Below.refl _ _).alloc (Nat.le_refl _) _), Has.new _ _ _, HST.out.Bw⟩
        have HSX := Lib.hid hsx
        clear hsx hcc hK0 hN0 hm HC wK wN hx
        go_wp2_with fail
        refine (HP.out _).mono ?_
        rintro e w4 ⟨rfl, rfl⟩
        have hor : m < 2 ∨ m = 2 ∨ m = 3 := by omega
        clear HP HST
        rcases hor with hm2 | rfl | rfl
        · have hm2' : (m : Int) < 2 := by omega
          have hs0 := HSX.out.drew
          by_cases hfull : L.length = r
          · have HF := Lib.hid hfull
            clear hfull
            go_wp2_with fail
            go_region_held3 (fun W => W.cell? ⟨wr.heap.size, 1, none⟩ = some (.int .i64 N))
              (first | exact (SX.x ‹_›).cell 1)
              (first | (go_at_call 11; refine (q_full _ HF.out (by assumption)).mono ?_; rintro e w5 ⟨rfl, hs5⟩)
                     | (go_at_call 12; refine (r_full _ HF.out (by assumption)).mono ?_; rintro e w5 ⟨v5, rfl, hs5⟩)
                     | (go_at_call 9; refine (p_no 24 (by omega) (by omega) (by assumption)).mono ?_; rintro e w5 ⟨rfl, hs5⟩))
            all_goals
              have HSE := Lib.hid hs5.st
              go_wp2
              go_roundw
            all_goals first
              | exact ⟨k + 1, _, _, _, by go_num, by omega, HSE.out⟩
              | (simp [intOf]; done)
              | (simp [intOf]; omega)
          · have HF : Hid (L.length < r) := Lib.hid (by have := HSX.out.st.ring.hlen; omega)
            clear hfull
            go_wp2_with fail
            go_region_held3 (fun W => W.cell? ⟨wr.heap.size, 1, none⟩ = some (.int .i64 N))
              (first | exact (SX.x ‹_›).cell 1)
              (first | (go_at_call 11; refine (q_ok _ HF.out (by assumption)).mono ?_; rintro e w5 ⟨rfl, hs5⟩)
                     | (go_at_call 12; refine (r_ok _ HF.out (by assumption)).mono ?_; rintro e w5 ⟨v5, rfl, hs5⟩)
                     | (go_at_call 9; refine (p_nil (by assumption)).mono ?_; rintro e w5 ⟨rfl, hs5⟩))
            all_goals
              have HSE := Lib.hid hs5.st
              go_wp2
              go_roundw
            all_goals first
              | exact ⟨k + 1, _, _, _, by go_num, by omega, HSE.out⟩
              | (simp [intOf]; done)
              | (simp [intOf]; omega)
        · have hm2' : ¬ ((2 : Nat) : Int) < 2 := by omega
          cases L with
          | nil =>
            go_wp2_with fail
            refine (r_none HSX.out).mono ?_
            rintro e w5 ⟨v5, rfl, hs5⟩
            have HS5 := Lib.hid hs5
            clear hs5 HSX
            go_wp2_with fail
            refine (q_none HS5.out).mono ?_
            rintro e w6 ⟨f6, rfl, hs6⟩
            have HS6 := Lib.hid hs6
            clear hs6 HS5
            go_wp2_with fail
            refine (p_no 25 (by omega) (by omega) HS6.out).mono ?_
            rintro e w7 ⟨rfl, hs5⟩
            all_goals
              have HSE := Lib.hid hs5.st
              go_wp2
              go_roundw
            all_goals first
              | exact ⟨k + 1, _, _, _, by go_num, by omega, HSE.out⟩
              | (simp [intOf]; done)
              | (simp [intOf]; omega)
          | cons y L =>
            have hl64 : L.length < 64 := by have := HSX.out.st.ring.hlen; simp at this; omega
            go_wp2_with fail
            refine (r_pop HSX.out hl64).mono ?_
            rintro e w5 ⟨v5, rfl, hs5⟩
            have HS5 := Lib.hid hs5
            clear hs5 HSX
            go_wp2_with fail
            refine (q_pop HS5.out).mono ?_
            rintro e w6 ⟨f6, rfl, hs6⟩
            have HS6 := Lib.hid hs6
            clear hs6 HS5
            go_wp2_with fail
            refine (p_nil HS6.out).mono ?_
            rintro e w7 ⟨rfl, hs5⟩
            have dyy : (y != y) = false := by simp
            all_goals
              have HSE := Lib.hid hs5.st
              go_wp2
              go_roundw
            all_goals first
              | exact ⟨k + 1, _, _, _, by go_num, by omega, HSE.out⟩
              | (simp [intOf]; done)
              | (simp [intOf]; omega)
        · have hm2' : ¬ ((3 : Nat) : Int) < 2 := by omega
          have hc1 := HSX.out.x.cell 1
          go_wp2_with fail
          refine (asked_st N HSX.out.st).mono ?_
          rintro e w5 ⟨rfl, hs5⟩
          have HSE := Lib.hid hs5
          clear hs5
          go_wp2
          go_roundw
          case rel => exact ⟨k + 1, _, _, _, by go_num, by omega, HSE.out⟩
          case measure => first | (simp [intOf]; done) | (simp [intOf]; omega)
      · obtain rfl : k = l.length := by omega
        go_wp2_with fail
        refine (asked_st 1 HST.out).mono ?_
        rintro e w4 ⟨rfl, h4⟩
        have hb4 := Lib.hid h4.bel
        clear h4
        go_wp2
        go_ret
        exact ⟨rfl, hb4.out⟩
end Go.Proofs.YthjjockimpndbaaDoor.queuePlaysW
