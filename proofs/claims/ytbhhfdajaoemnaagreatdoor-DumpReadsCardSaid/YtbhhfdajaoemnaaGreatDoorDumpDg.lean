/- dump.digits of any text. Condition: the text's length. -/
import Derived.Test.YtbhhfdajaoemnaaGreatDoorDumpRn
namespace Go.Bus.dumpK
open Go.Bus.textK
set_option linter.unusedVariables false
theorem allD_app {b : Nat} {a : List UInt8} (r : List UInt8) (h : allD b a = false) : allD b (a ++ r) = false := by
  unfold allD at h ⊢
  rw [List.all_append, h]; rfl
theorem allD_bad {b : Nat} {S : List UInt8} {pos : Nat} (hlt : pos < S.length) (h : isD b S[pos] = false) : allD b S = false := by
  have h1 : allD b (S.take (pos + 1)) = false := by
    rw [List.take_succ_eq_append_getElem hlt]
    unfold allD
    rw [List.all_append, List.all_cons, h]; simp
  have := allD_app (S.drop (pos + 1)) h1
  rwa [List.take_append_drop] at this
theorem allD_step {b : Nat} {S : List UInt8} {pos : Nat} (hlt : pos < S.length) (h : allD b (S.take pos) = true) (h1 : isD b S[pos] = true) : allD b (S.take (pos + 1)) = true := by
  rw [List.take_succ_eq_append_getElem hlt]
  unfold allD at h ⊢
  rw [List.all_append, h, List.all_cons, h1]; rfl
/-- Where a byte stands among the digits. -/
def ixD (c : UInt8) : Int := match dval c with
  | some d => (d : Nat)
  | none => -1
end Go.Bus.dumpK
namespace Go.Proofs.YtbhhfdajaoemnaaGreatDoor
open Go.RowKit Go.Bus Go.Bus.dumpK Go.Bus.textK
set_option linter.unusedVariables false
set_option linter.unusedSimpArgs false
namespace dumpW
theorem ix_dg : ∀ c : Fin 128, Lib.indexByte dgS.data.toList (((c.val : Nat) : Int).toNat.toUInt8) = ixD (UInt8.ofNat c.val) := by decide +kernel
set_option maxRecDepth 100000 in
set_option maxHeartbeats 2000000 in
theorem digits_any (S : List UInt8) (b : Nat) (hb : b = 10 ∨ b = 16) (hl : S.length ≤ 140737488355328) (w : World) : Calls Tryz.prog 73 #[.string ⟨S.toArray⟩, .int .i64 (b : Nat)] w fun e w' => e = .returned (.bool (allD b S)) ∧ Below w.heap.size w w' := by
  obtain ⟨SB, hSB⟩ : ∃ SB : ByteArray, SB = ⟨S.toArray⟩ := ⟨_, rfl⟩
  have hsz : SB.size = S.length := by rw [hSB]; show S.toArray.size = S.length; simp
  have HSB := Lib.hid hSB
  have HB16 := Lib.hid hb
  rw [← hSB]
  clear hSB hb
  go_enter Tryz.func73, Tryz.ntmps73
  go_wp2
  go_loopw [] (fun wr => ∃ pos : Nat, wr.heap[w.heap.size]? = some (.stringIter SB pos) ∧ Below w.heap.size w wr ∧ pos ≤ S.length ∧ Hid (allD b (S.take pos) = true)) (fun wr => S.length - wr.iterPos w.heap.size)
  case atStart =>
    refine ⟨0, ?_, (Below.refl _ w).alloc (Nat.le_refl _) _, Nat.zero_le _, Lib.hid rfl⟩
    have := World.iter_heap w SB 0
    simpa using this
  case round =>
    obtain ⟨pos, hit, hbw, hpl, HP⟩ := hrel
    have hk : w.heap.size < wr.heap.size := (Array.getElem?_eq_some_iff.1 hit).1
    by_cases hp : pos < SB.size
    · have hlt : pos < S.length := by omega
      have hcc : SB[pos]'hp = S[pos]'hlt := by
        have h0 := HSB.out
        subst h0
        rfl
      by_cases ha : (SB[pos]'hp).toNat < 128
      · have hnx : ∀ ty, (Instr.next (.pointer (some ⟨w.heap.size, 0, none⟩)) true ty).run Tryz.prog wr = _ := fun ty => Lib.run_next_ascii_at wr w.heap.size SB pos ty hit hp ha
        have hit2 := Lib.iterAt_heap wr w.heap.size SB pos (pos + 1) hit
        have hbw2 := Lib.below_iterAt hbw (k := w.heap.size) (Nat.le_refl _) SB (pos + 1)
        obtain ⟨W1, hW1⟩ : ∃ W1, W1 = wr.iterAt w.heap.size SB (pos + 1) := ⟨_, rfl⟩
        rw [← hW1] at hnx hit2 hbw2
        clear hW1
        obtain ⟨r, hr⟩ : ∃ r : Nat, (SB[pos]'hp).toNat = r := ⟨_, rfl⟩
        rw [hr] at hnx ha
        have hrS : S[pos]'hlt = UInt8.ofNat r := by rw [← hcc, ← hr]; simp
        have HIX : Hid (∀ W, Calls Tryz.prog 108 #[.string dgS, .int .i32 (r : Nat)] W fun e w' => e = .returned (.int .i64 (ixD (S[pos]'hlt))) ∧ W = w') := Lib.hid (fun W => (Tryz.strings_IndexRune_ascii dgS (r : Nat) W (by omega) (by omega)).mono (fun e w' ⟨he, hw⟩ => ⟨by rw [he, hrS, ← ix_dg ⟨r, ha⟩], hw.symm⟩))
        cases hd : dval (S[pos]'hlt) with
        | none =>
          have hx : ixD (S[pos]'hlt) = -1 := by unfold ixD; rw [hd]
          rw [hx] at HIX
          have HN : Hid (allD b S = false) := Lib.hid (allD_bad hlt (by unfold isD; rw [hd]))
          clear hx hd hrS hr hcc HP
          go_wp2_with (go_at_call 108; refine (HIX.out _).mono ?_; rintro e w2 ⟨rfl, rfl⟩)
          go_ret
          exact ⟨by rw [HN.out]; rfl, hbw2⟩
        | some d =>
          have hx : ixD (S[pos]'hlt) = (d : Nat) := by unfold ixD; rw [hd]
          rw [hx] at HIX
          by_cases hdb : d < b
          · have HN : Hid (allD b (S.take (pos + 1)) = true) := Lib.hid (allD_step hlt HP.out (by unfold isD; rw [hd]; simpa using hdb))
            have d0 : decide ((d : Int) < 0) = false := by simp
            have d1 : decide ((b : Int) ≤ (d : Int)) = false := by simp; omega
            clear hx hd hrS hr hcc HP
            go_wp2_with (go_at_call 108; refine (HIX.out _).mono ?_; rintro e w2 ⟨rfl, rfl⟩)
            go_roundw
            case rel => exact ⟨pos + 1, hit2, hbw2, by omega, HN⟩
            case measure => rw [iterPos_of hit2, iterPos_of hit]; omega
          · have HN : Hid (allD b S = false) := Lib.hid (allD_bad hlt (by unfold isD; rw [hd]; simpa using hdb))
            have d0 : decide ((d : Int) < 0) = false := by simp
            have d1 : decide ((b : Int) ≤ (d : Int)) = true := by simp; omega
            clear hx hd hrS hr hcc HP
            go_wp2_with (go_at_call 108; refine (HIX.out _).mono ?_; rintro e w2 ⟨rfl, rfl⟩)
            go_ret
            exact ⟨by rw [HN.out]; rfl, hbw2⟩
      · have ha' : 128 ≤ (SB[pos]'hp).toNat := by omega
        have hnx : ∀ ty, (Instr.next (.pointer (some ⟨w.heap.size, 0, none⟩)) true ty).run Tryz.prog wr = _ := fun ty => Lib.run_next_any_at wr w.heap.size SB pos ty hit hp
        have hr1 := (decode_high SB pos hp ha').1
        have hr2 := decode_le SB pos
        have hbw2 := Lib.below_iterAt hbw (k := w.heap.size) (Nat.le_refl _) SB (pos + (Utf8.decode SB pos).2)
        obtain ⟨W1, hW1⟩ : ∃ W1, W1 = wr.iterAt w.heap.size SB (pos + (Utf8.decode SB pos).2) := ⟨_, rfl⟩
        rw [← hW1] at hnx hbw2
        have hzW : w.heap.size ≤ W1.heap.size := hbw2.size
        clear hW1
        obtain ⟨r, hr⟩ : ∃ r : Nat, (Utf8.decode SB pos).1 = r := ⟨_, rfl⟩
        rw [hr] at hnx hr1 hr2
        have HIX := Lib.hid (fun (W : World) => ixr_high r hr1 hr2 W)
        have HN : Hid (allD b S = false) := Lib.hid (allD_bad hlt (by
          rw [← hcc]
          unfold isD dval
          rw [if_neg (by omega), if_neg (by omega)]))
        clear ha ha' hr hcc HP
        go_wp2_with (go_at_call 108; refine (HIX.out _).mono ?_; rintro e w2 ⟨rfl, hb⟩; have HB2 := Lib.hid (hbw2.trans (hb.mono hzW)); clear hb)
        go_ret
        exact ⟨by rw [HN.out]; rfl, HB2.out⟩
    · have hnx : ∀ ty, (Instr.next (.pointer (some ⟨w.heap.size, 0, none⟩)) true ty).run Tryz.prog wr = _ := fun ty => Lib.run_next_end_at wr w.heap.size SB pos ty hit hp
      have hpS : S.length ≤ pos := by omega
      have HN : Hid (allD b S = true) := Lib.hid (by have := HP.out; rw [List.take_of_length_le hpS] at this; exact this)
      go_wp2
      go_ret
      exact ⟨by rw [HN.out]; rfl, hbw⟩
end dumpW
end Go.Proofs.YtbhhfdajaoemnaaGreatDoor
