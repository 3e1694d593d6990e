/- chars.Name of any text. Condition: the text's length. -/
import Derived.Test.YtbhhfdajaoemnaaGreatDoorBase
import Derived.Test.YtbhhfdajaoemnaaGreatDoorProg
import Derived.Test.YtbhhfdajaoemnaaGreatDoorDumpTx
import Derived.Lib.OthersKept
import Derived.WalkSmall
namespace Go.Bus.dumpK
open Go.Bus.textK
set_option linter.unusedVariables false
/-- The bytes so far may begin a name. -/
def preB : List UInt8 → Bool
  | [] => true
  | c :: r => letB c && r.all fun c => letB c || isDig c
theorem nameB_pre (l : List UInt8) : nameB l = (!l.isEmpty && decide (l.length ≤ 64) && preB l) := by
  cases l with
  | nil => rfl
  | cons c r => simp [nameB, preB]
theorem preB_snoc (l : List UInt8) (c : UInt8) : preB (l ++ [c]) = (preB l && (letB c || (!l.isEmpty && isDig c))) := by
  cases l with
  | nil => simp [preB]
  | cons x r => simp [preB, List.all_append, Bool.and_assoc]
theorem preB_app {a : List UInt8} (b : List UInt8) (h : preB a = false) : preB (a ++ b) = false := by
  cases a with
  | nil => cases h
  | cons x r =>
    simp only [preB, List.cons_append, List.all_append] at h ⊢
    rw [← Bool.and_assoc, h]; rfl
def letN (r : Nat) : Bool := (decide (97 ≤ r) && decide (r ≤ 122)) || (decide (65 ≤ r) && decide (r ≤ 90)) || decide (r = 95)
theorem letB_letN (c : UInt8) : letB c = letN c.toNat := rfl
end Go.Bus.dumpK
namespace Go.Proofs.YtbhhfdajaoemnaaGreatDoor
open Go.RowKit Go.Bus Go.Bus.dumpK Go.Bus.textK
set_option linter.unusedVariables false
set_option linter.unusedSimpArgs false
namespace dumpW
set_option maxRecDepth 100000 in
set_option maxHeartbeats 1000000 in
theorem letter_any (r : Nat) (h : r ≤ 2147483647) (w : World) : Calls Tryz.prog 65 #[.int .i32 (r : Nat)] w fun e w' => e = .returned (.bool (letN r)) ∧ w = w' := by
  by_cases h1 : 97 ≤ r
  · by_cases h2 : r ≤ 122
    · have e : letN r = true := by simp [letN, h1, h2]
      rw [e]
      have d1 : decide ((97 : Int) ≤ (r : Int)) = true := by simp; omega
      have d2 : decide ((r : Int) ≤ 122) = true := by simp; omega
      clear e
      go_enter Tryz.func65, Tryz.ntmps65
      go_wp2
      go_ret
      exact ⟨rfl, rfl⟩
    · have e : letN r = false := by
        have a1 : ¬ r ≤ 90 := by omega
        have a2 : ¬ r = 95 := by omega
        simp [letN, h2, a1, a2]
      rw [e]
      have d1 : decide ((97 : Int) ≤ (r : Int)) = true := by simp; omega
      have d2 : decide ((r : Int) ≤ 122) = false := by simp; omega
      have d3 : decide ((65 : Int) ≤ (r : Int)) = true := by simp; omega
      have d4 : decide ((r : Int) ≤ 90) = false := by simp; omega
      have d5 : ((r : Int) == 95) = false := by simp; omega
      clear e
      go_enter Tryz.func65, Tryz.ntmps65
      go_wp2
      go_ret
      exact ⟨rfl, rfl⟩
  · have d1 : decide ((97 : Int) ≤ (r : Int)) = false := by simp; omega
    by_cases h3 : 65 ≤ r
    · have d3 : decide ((65 : Int) ≤ (r : Int)) = true := by simp; omega
      by_cases h4 : r ≤ 90
      · have e : letN r = true := by simp [letN, h3, h4]
        rw [e]
        have d4 : decide ((r : Int) ≤ 90) = true := by simp; omega
        clear e
        go_enter Tryz.func65, Tryz.ntmps65
        go_wp2
        go_ret
        exact ⟨rfl, rfl⟩
      · have d4 : decide ((r : Int) ≤ 90) = false := by simp; omega
        by_cases h5 : r = 95
        · subst h5
          go_enter Tryz.func65, Tryz.ntmps65
          go_wp2
          go_ret
          exact ⟨rfl, rfl⟩
        · have e : letN r = false := by simp [letN, h1, h4, h5]
          rw [e]
          have d5 : ((r : Int) == 95) = false := by simp; omega
          clear e
          go_enter Tryz.func65, Tryz.ntmps65
          go_wp2
          go_ret
          exact ⟨rfl, rfl⟩
    · have d3 : decide ((65 : Int) ≤ (r : Int)) = false := by simp; omega
      have e : letN r = false := by
        have a2 : ¬ r = 95 := by omega
        simp [letN, h1, h3, a2]
      rw [e]
      have d5 : ((r : Int) == 95) = false := by simp; omega
      clear e
      go_enter Tryz.func65, Tryz.ntmps65
      go_wp2
      go_ret
      exact ⟨rfl, rfl⟩
theorem name_bad {S : List UInt8} {pos : Nat} (h : preB (S.take pos) = true) (hlt : pos < S.length) (hl : letB S[pos] = false) (hd : pos = 0 ∨ isDig S[pos] = false) : nameB S = false := by
  have h1 : preB (S.take (pos + 1)) = false := by
    rw [List.take_succ_eq_append_getElem hlt, preB_snoc, h, hl]
    rcases hd with rfl | hd
    · simp
    · rw [hd]; simp
  have h2 := preB_app (S.drop (pos + 1)) h1
  rw [List.take_append_drop] at h2
  rw [nameB_pre, h2, Bool.and_false]
theorem name_step {S : List UInt8} {pos : Nat} (h : preB (S.take pos) = true) (hlt : pos < S.length) (hl : letB S[pos] = true ∨ (pos ≠ 0 ∧ isDig S[pos] = true)) : preB (S.take (pos + 1)) = true := by
  rw [List.take_succ_eq_append_getElem hlt, preB_snoc, h]
  rcases hl with hl | ⟨h0, hd⟩
  · rw [hl]; rfl
  · have : (S.take pos).isEmpty = false := by
      cases e : S.take pos with
      | nil => have := congrArg List.length e; rw [List.length_take, List.length_nil] at this; omega
      | cons x r => rfl
    rw [hd, this]; simp
set_option maxRecDepth 100000 in
set_option maxHeartbeats 2000000 in
theorem name_any (S : List UInt8) (hl : S.length ≤ 140737488355328) (w : World) : Calls Tryz.prog 30 #[.string ⟨S.toArray⟩] w fun e w' => e = .returned (.bool (nameB S)) ∧ Below w.heap.size w w' := by
  obtain ⟨SB, hSB⟩ : ∃ SB : ByteArray, SB = ⟨S.toArray⟩ := ⟨_, rfl⟩
  have hsz : SB.size = S.length := by rw [hSB]; show S.toArray.size = S.length; simp
  have HSB := Lib.hid hSB
  have HSZ := Lib.hid hsz
  rw [← hSB]
  clear hSB
  go_enter Tryz.func30, Tryz.ntmps30
  go_wp2
  go_loopw [] (fun wr => ∃ pos : Nat, wr.heap[w.heap.size]? = some (.stringIter SB pos) ∧ Below w.heap.size w wr ∧ pos ≤ S.length ∧ Hid (preB (S.take pos) = true)) (fun wr => S.length - wr.iterPos w.heap.size)
  case atStart =>
    refine ⟨0, ?_, (Below.refl _ w).alloc (Nat.le_refl _) _, Nat.zero_le _, Lib.hid rfl⟩
    have := World.iter_heap w SB 0
    simpa using this
  case round =>
    obtain ⟨pos, hit, hbw, hpl, HP⟩ := hrel
    have hk : w.heap.size < wr.heap.size := (Array.getElem?_eq_some_iff.1 hit).1
    by_cases hp : pos < SB.size
    · have hlt : pos < S.length := by omega
      have hcc : SB[pos]'hp = S[pos]'hlt := by
        have h0 := HSB.out
        subst h0
        rfl
      by_cases ha : (SB[pos]'hp).toNat < 128
      · have hnx : ∀ ty, (Instr.next (.pointer (some ⟨w.heap.size, 0, none⟩)) true ty).run Tryz.prog wr = _ := fun ty => Lib.run_next_ascii_at wr w.heap.size SB pos ty hit hp ha
        have hit2 := Lib.iterAt_heap wr w.heap.size SB pos (pos + 1) hit
        have hbw2 := Lib.below_iterAt hbw (k := w.heap.size) (Nat.le_refl _) SB (pos + 1)
        obtain ⟨W1, hW1⟩ : ∃ W1, W1 = wr.iterAt w.heap.size SB (pos + 1) := ⟨_, rfl⟩
        rw [← hW1] at hnx hit2 hbw2
        clear hW1
        obtain ⟨r, hr⟩ : ∃ r : Nat, (SB[pos]'hp).toNat = r := ⟨_, rfl⟩
        rw [hr] at hnx ha
        have hrS : (S[pos]'hlt).toNat = r := by rw [← hcc]; exact hr
        have hLB : letB (S[pos]'hlt) = letN r := by rw [letB_letN, hrS]
        have hDB : isDig (S[pos]'hlt) = (decide (48 ≤ r) && decide (r ≤ 57)) := by unfold isDig; rw [hrS]
        have HLT := Lib.hid (fun (W : World) => letter_any r (by omega) W)
        by_cases hlet : letN r = true
        · have HN : Hid (preB (S.take (pos + 1)) = true) := Lib.hid (name_step HP.out hlt (.inl (hLB.trans hlet)))
          rw [hlet] at HLT
          clear hlet hLB hDB hrS hr hcc HP
          go_wp2_with (go_at_call 65; refine (HLT.out _).mono ?_; rintro e w2 ⟨rfl, rfl⟩)
          go_roundw
          case rel => exact ⟨pos + 1, hit2, hbw2, by omega, HN⟩
          case measure => rw [iterPos_of hit2, iterPos_of hit]; omega
        · have hlet' : letN r = false := by simpa using hlet
          rw [hlet'] at HLT
          by_cases hp0 : pos = 0
          · have HN : Hid (nameB S = false) := Lib.hid (name_bad HP.out hlt (hLB.trans hlet') (.inl hp0))
            subst hp0
            clear hlet hlet' hLB hDB hrS hr hcc HP
            go_wp2_with (go_at_call 65; refine (HLT.out _).mono ?_; rintro e w2 ⟨rfl, rfl⟩)
            go_ret
            exact ⟨by rw [HN.out]; rfl, hbw2⟩
          · have e0 : ((pos : Int) == 0) = false := by simp; omega
            by_cases hd : 48 ≤ r ∧ r ≤ 57
            · have HN : Hid (preB (S.take (pos + 1)) = true) := Lib.hid (name_step HP.out hlt (.inr ⟨hp0, by rw [hDB]; simp [hd.1, hd.2]⟩))
              have d1 : decide ((r : Int) < 48) = false := by simp; omega
              have d2 : decide ((57 : Int) < (r : Int)) = false := by simp; omega
              clear hlet hlet' hLB hDB hrS hr hcc HP hd hp0
              go_wp2_with (go_at_call 65; refine (HLT.out _).mono ?_; rintro e w2 ⟨rfl, rfl⟩)
              go_roundw
              case rel => exact ⟨pos + 1, hit2, hbw2, by omega, HN⟩
              case measure => rw [iterPos_of hit2, iterPos_of hit]; omega
            · have HN : Hid (nameB S = false) := Lib.hid (name_bad HP.out hlt (hLB.trans hlet') (.inr (by rw [hDB]; simp; omega)))
              clear hlet hlet' hLB hDB hrS hr hcc HP hp0
              have hd2 : r < 48 ∨ (48 ≤ r ∧ 57 < r) := by omega
              clear hd
              rcases hd2 with h | ⟨h, h'⟩
              · have d1 : decide ((r : Int) < 48) = true := by simp; omega
                go_wp2_with (go_at_call 65; refine (HLT.out _).mono ?_; rintro e w2 ⟨rfl, rfl⟩)
                go_ret
                exact ⟨by rw [HN.out]; rfl, hbw2⟩
              · have d1 : decide ((r : Int) < 48) = false := by simp; omega
                have d2 : decide ((57 : Int) < (r : Int)) = true := by simp; omega
                go_wp2_with (go_at_call 65; refine (HLT.out _).mono ?_; rintro e w2 ⟨rfl, rfl⟩)
                go_ret
                exact ⟨by rw [HN.out]; rfl, hbw2⟩
      · have ha' : 128 ≤ (SB[pos]'hp).toNat := by omega
        have hnx : ∀ ty, (Instr.next (.pointer (some ⟨w.heap.size, 0, none⟩)) true ty).run Tryz.prog wr = _ := fun ty => Lib.run_next_any_at wr w.heap.size SB pos ty hit hp
        have hr1 := (decode_high SB pos hp ha').1
        have hr2 := decode_le SB pos
        have hbw2 := Lib.below_iterAt hbw (k := w.heap.size) (Nat.le_refl _) SB (pos + (Utf8.decode SB pos).2)
        obtain ⟨W1, hW1⟩ : ∃ W1, W1 = wr.iterAt w.heap.size SB (pos + (Utf8.decode SB pos).2) := ⟨_, rfl⟩
        rw [← hW1] at hnx hbw2
        clear hW1
        obtain ⟨r, hr⟩ : ∃ r : Nat, (Utf8.decode SB pos).1 = r := ⟨_, rfl⟩
        rw [hr] at hnx hr1 hr2
        have hN : letN r = false := by
          have a1 : ¬ r ≤ 122 := by omega
          have a2 : ¬ r ≤ 90 := by omega
          have a3 : ¬ r = 95 := by omega
          simp [letN, a1, a2, a3]
        have HLT := Lib.hid (fun (W : World) => letter_any r hr2 W)
        rw [hN] at HLT
        have HN : Hid (nameB S = false) := Lib.hid (name_bad HP.out hlt (by
          rw [← hcc]; unfold letB
          have a1 : ¬ (SB[pos]'hp).toNat ≤ 122 := by omega
          have a2 : ¬ (SB[pos]'hp).toNat ≤ 90 := by omega
          have a3 : ¬ (SB[pos]'hp).toNat = 95 := by omega
          simp [a1, a2, a3]) (.inr (by
          rw [← hcc]; unfold isDig
          have a1 : ¬ (SB[pos]'hp).toNat ≤ 57 := by omega
          simp [a1])))
        have d1 : decide ((r : Int) < 48) = false := by simp; omega
        have d2 : decide ((57 : Int) < (r : Int)) = true := by simp; omega
        clear ha ha' hr hN hcc HP hr1 hr2
        by_cases hp0 : pos = 0
        · subst hp0
          go_wp2_with (go_at_call 65; refine (HLT.out _).mono ?_; rintro e w2 ⟨rfl, rfl⟩)
          go_ret
          exact ⟨by rw [HN.out]; rfl, hbw2⟩
        · have e0 : ((pos : Int) == 0) = false := by simp; omega
          go_wp2_with (go_at_call 65; refine (HLT.out _).mono ?_; rintro e w2 ⟨rfl, rfl⟩)
          go_ret
          exact ⟨by rw [HN.out]; rfl, hbw2⟩
    · have hnx : ∀ ty, (Instr.next (.pointer (some ⟨w.heap.size, 0, none⟩)) true ty).run Tryz.prog wr = _ := fun ty => Lib.run_next_end_at wr w.heap.size SB pos ty hit hp
      have hpS : S.length ≤ pos := by omega
      have hpre : preB S = true := by have := HP.out; rw [List.take_of_length_le hpS] at this; exact this
      by_cases h0 : S = []
      · have HN : Hid (nameB S = false) := Lib.hid (by rw [h0]; rfl)
        have h1 : (SB.toList == []) = true := by rw [HSB.out, h0, ByteArray.toList_mk]; rfl
        have h2 : (SB.toList != []) = false := by rw [bne, h1]; rfl
        clear hpre
        go_wp2
        go_ret
        exact ⟨by rw [HN.out]; rfl, hbw⟩
      · have h1 : (SB.toList == []) = false := by
          rw [beq_eq_false_iff_ne]; intro e
          rw [HSB.out, ByteArray.toList_mk] at e
          exact h0 e
        have h2 : (SB.toList != []) = true := by rw [bne, h1]; rfl
        have he : S.isEmpty = false := by cases S with
          | nil => exact absurd rfl h0
          | cons x r => rfl
        by_cases h64 : S.length ≤ 64
        · have HN : Hid (nameB S = true) := Lib.hid (by rw [nameB_pre, hpre, he]; simp [h64])
          have d1 : decide ((S.length : Int) ≤ 64) = true := by simp; omega
          have d2 : decide (S.length ≤ 64) = true := by simp; omega
          clear hpre he
          go_wp2
          go_ret
          exact ⟨by rw [HN.out]; rfl, hbw⟩
        · have HN : Hid (nameB S = false) := Lib.hid (by rw [nameB_pre, hpre, he]; simp [h64])
          have d1 : decide ((S.length : Int) ≤ 64) = false := by simp; omega
          have d2 : decide (S.length ≤ 64) = false := by simp; omega
          clear hpre he
          go_wp2
          go_ret
          exact ⟨by rw [HN.out]; rfl, hbw⟩
end dumpW
end Go.Proofs.YtbhhfdajaoemnaaGreatDoor
