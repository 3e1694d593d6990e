/- busbarref27.Print of any line. Condition: numbers within their types' bounds. -/
import Derived.Test.YtpeeonfpmgddoaaDoorDumpRf
import Derived.Test.YtpeeonfpmgddoaaDoorDumpN3
import Derived.Test.YtpeeonfpmgddoaaDoorRes
import Derived.Deep.QuietTactic
import Derived.BigQuiet
import Derived.Laws.Strings3
import Derived.Deep.RegionHeld3
namespace Go.Bus.dumpK
open Go.Bus.textK Go.Lib
set_option linter.unusedVariables false
theorem dec7 {r : Nat} (h : r < 1000000) : decDigits (1000000 + r) = 49 :: numN 10 6 r := by
  have e10 : (10 : Nat) ^ 6 = 1000000 := by decide
  have hd : allD 10 (49 :: numN 10 6 r) = true := by
    have h1 := allD_numN (b := 10) (by decide) (by decide) 6 r
    unfold allD at h1 ⊢
    rw [List.all_cons, h1]; decide
  have hd' := hd
  rw [allD_dig] at hd'
  have hv : val (49 :: numN 10 6 r) = 1000000 + r := by
    rw [← valN_val _ _ rfl hd', show (49 : UInt8) :: numN 10 6 r = [49] ++ numN 10 6 r from rfl, valN_append, numN_len, valN_numN (by decide) (by decide) 6 r (by omega), e10]
    have : valN 10 [49] = 1 := by decide
    rw [this]
  have hg : good (49 :: numN 10 6 r) = true := by
    unfold good
    rw [hd']
    have : (49 :: numN 10 6 r).length = 7 := by rw [List.length_cons, numN_len]
    simp
  rw [← hv]
  exact textK.back hg
end Go.Bus.dumpK
namespace Go.Proofs.YtpeeonfpmgddoaaDoor
open Go.RowKit Go.Bus Go.Bus.dumpK Go.Bus.textK Go.Bus.hexK
set_option linter.unusedVariables false
set_option linter.unusedSimpArgs false
namespace dumpW
def RPr (l : Ln) (w : World) (e : Ending) (w' : World) : Prop := Below w.heap.size w w' ∧ ((wrong l = 0 ∧ e = .returned (.tuple #[.string ⟨(lineD l).toArray⟩, .int .i64 0])) ∨ (wrong l ≠ 0 ∧ e = .returned (.tuple #[.string ⟨#[]⟩, .int .i64 (wrong l)])))
theorem RPr.bad {l : Ln} {w w' : World} {no : Int} (h : wrong l = no) (h0 : no ≠ 0) (hb : Below w.heap.size w w') : RPr l w (.returned (.tuple #[.string ⟨#[]⟩, .int .i64 no])) w' := ⟨hb, .inr ⟨by rw [h]; exact h0, by rw [h]⟩⟩
theorem rpr_any (v : Nat) (hv : v < 18446744073709551616) (w : World) : Calls Tryd.prog 19 #[.int .u64 (v : Nat), .bool false] w fun e w' => e = .returned (.string ⟨(Lib.decDigits v).toArray⟩) ∧ Below w.heap.size w w' := by
  have := rprK.rprint_any (v : Nat) false w (by omega) (by omega)
  unfold prt at this
  simpa using this
set_option maxRecDepth 100000 in
set_option maxHeartbeats 16000000 in
theorem rdprint_true (time id : Nat) (port : List UInt8) (data : List Int) (ho : (⟨time, port, id, true, data⟩ : Ln).Ok) (hw : wrong ⟨time, port, id, true, data⟩ = 0) (A : Option Addr) (cap : Nat) (w : World) (hs : Sl w w.heap.size (Value.int .u8) (.slice A data.length cap) data) : Calls Tryd.prog 7 #[.agg #[.int .u64 (time : Nat), .string ⟨port.toArray⟩, .int .u32 (id : Nat), .bool true, .slice A data.length cap]] w (RPr ⟨time, port, id, true, data⟩ w) := by
  obtain ⟨hnm, hid, hdl8⟩ := right_of hw
  simp only at hnm hid hdl8
  obtain ⟨_, _, e0, hcap, hmax⟩ := hs.form
  cases e0
  have HS := Lib.hid hs
  have HO := Lib.hid ho
  have HW := Lib.hid hw
  have htm : time < 18446744073709551616 := ho.time
  have hport : port.length ≤ 64 := by
    rw [nameB_pre] at hnm
    simp only [Bool.and_eq_true] at hnm
    exact of_decide_eq_true hnm.1.2
  have HNM : Hid (∀ W, Calls Tryd.prog 17 #[.string ⟨port.toArray⟩] W fun e w' => e = .returned (.bool true) ∧ W = w') := Lib.hid (fun W => by have := rname_any port (by omega) W; rw [hnm] at this; exact this)
  have HMS : Hid (∀ W, Calls Tryd.prog 18 #[.bool true] W fun e w' => e = .returned (.int .u32 (most true : Nat)) ∧ W = w') := Lib.hid (fun W => rmost_any true W)
  have hidn : id < 16 ^ 8 := Nat.lt_of_le_of_lt hid (most_lt true)
  obtain ⟨M, hM⟩ : ∃ M, M = most true := ⟨_, rfl⟩
  rw [← hM] at HMS hid
  have d1 : decide ((M : Int) < (id : Int)) = false := by simp; omega
  have d1n : decide (M < id) = false := by simp; omega
  have d2 : decide ((8 : Int) < (data.length : Int)) = false := by simp; omega
  have d2n : decide (8 < data.length) = false := by simp; omega
  obtain ⟨A1, hA1⟩ : ∃ A1, A1 = secs time := ⟨_, rfl⟩
  obtain ⟨A2, hA2⟩ : ∃ A2, A2 = numN 10 6 (time % 1000000) := ⟨_, rfl⟩
  obtain ⟨A3, hA3⟩ : ∃ A3, A3 = numN 16 8 id := ⟨_, rfl⟩
  have h1l : A1.length ≤ 20 := by rw [hA1]; exact secs_len htm
  have h2l : A2.length ≤ 6 := by rw [hA2, numN_len]; exact Nat.le_refl _
  have h3l : A3.length ≤ 8 := by rw [hA3, numN_len]; decide
  have HHD : Hid (headD ⟨time, port, id, true, data⟩ = 40 :: (A1 ++ 46 :: (A2 ++ 41 :: 32 :: (port ++ 32 :: (A3 ++ [35]))))) := Lib.hid (by rw [hA1, hA2, hA3]; rfl)
  have HPM : Hid (∀ (v : Int) W, v = ((1000000 + time % 1000000 : Nat) : Int) → Calls Tryd.prog 19 #[.int .u64 v, .bool false] W fun e w' => e = .returned (.string ⟨(49 :: A2).toArray⟩) ∧ Below W.heap.size W w') := Lib.hid (fun v W hv => by
    subst hv
    rw [hA2, ← dec7 (show time % 1000000 < 1000000 by omega)]
    exact rpr_any _ (by omega) W)
  have HPS : Hid (∀ (v : Int) W, v = ((time / 1000000 : Nat) : Int) → Calls Tryd.prog 19 #[.int .u64 v, .bool false] W fun e w' => e = .returned (.string ⟨A1.toArray⟩) ∧ Below W.heap.size W w') := Lib.hid (fun v W hv => by
    subst hv
    rw [hA1]
    exact rpr_any _ (by omega) W)
  have HHX : Hid (∀ (v : Int) W, v = ((id : Nat) : Int) → Calls Tryd.prog 20 #[.int .u64 v, .int .i64 8] W fun e w' => e = .returned (.string ⟨A3.toArray⟩) ∧ Below W.heap.size W w') := Lib.hid (fun v W hv => by
    subst hv
    rw [hA3]
    exact rhex_any id 8 (by have := ho.id; simp only at this; omega) (by decide) W)
  have hid32 : (id : Int) < 4294967296 := by have := ho.id; simp only at this; omega
  have htm64 : (time : Int) < 18446744073709551616 := by omega
  obtain ⟨R7, hR7⟩ : ∃ R7 : ByteArray, R7 = ⟨(49 :: A2).toArray⟩ := ⟨_, rfl⟩
  have hsl : ∀ W, (Instr.slice 9 (.string R7) (some (.int .i64 1)) none none).run Tryd.prog W = .ok (.string ⟨A2.toArray⟩) W := fun W => by
    have hz : R7.size = A2.length + 1 := by rw [hR7]; rfl
    rw [run_slice_string_from_if _ _ _ _ _ Tryd.underlying9, if_pos ⟨by omega, by rw [hz]; omega⟩, hz, hR7]
    congr 2
    apply ByteArray.ext
    simp
  rw [← hR7] at HPM
  have hhl : ∀ j, (headD ⟨time, port, id, true, data⟩ ++ dataT (data.take j)).length ≤ 200 := fun j => by
    have h1 : (dataT (data.take j)).length ≤ 16 := by rw [data_len, List.length_take]; omega
    rw [List.length_append, HHD.out]
    simp only [List.length_cons, List.length_append, List.length_nil]
    omega
  have HDL := Lib.hid hhl
  have hwr : IntKind.u64.wrap ((1000000 : Int) + (time : Int).tmod 1000000) = 1000000 + (time : Int).tmod 1000000 := by rw [Int.tmod_eq_emod_of_nonneg (by omega), IntKind.wrap_u64]; omega
  have n1 : ¬ 9223372036854775807 < 1 + A1.length := by omega
  have n2 : ¬ 9223372036854775807 < 1 + A1.length + 1 := by omega
  have n3 : ¬ 9223372036854775807 < 1 + A1.length + 1 + A2.length := by omega
  have n4 : ¬ 9223372036854775807 < 1 + A1.length + 1 + A2.length + 2 := by omega
  have n5 : ¬ 9223372036854775807 < 1 + A1.length + 1 + A2.length + 2 + port.length := by omega
  have n6 : ¬ 9223372036854775807 < 1 + A1.length + 1 + A2.length + 2 + port.length + 1 := by omega
  have n7 : ¬ 9223372036854775807 < 1 + A1.length + 1 + A2.length + 2 + port.length + 1 + A3.length := by omega
  have n8 : ¬ 9223372036854775807 < 1 + A1.length + 1 + A2.length + 2 + port.length + 1 + A3.length + 1 := by omega
  have HJ0 := Lib.hid (Has.new w 28 #[.int .u64 (time : Nat), .string ⟨port.toArray⟩, .int .u32 (id : Nat), .bool true, .slice A data.length cap])
  have HF0 := Lib.hid (Has.new1 w (.cells #[.int .u64 (time : Nat), .string ⟨port.toArray⟩, .int .u32 (id : Nat), .bool true, .slice A data.length cap] 28) 26 #[.int .u32 (id : Nat), .bool true, .slice A data.length cap])
  have HWR := Lib.hid hwr
  clear hwr
  obtain ⟨Y, hY⟩ : ∃ Y : Int, Y = 1000000 + (time : Int).tmod 1000000 := ⟨_, rfl⟩
  have hadd : ∀ W, (binOp .add 22 (.int .u64 1000000) (.int .u64 ((time : Int).tmod 1000000))).run Tryd.prog W = .ok (.int .u64 Y) W := fun W => by
    rw [hY, ← HWR.out]
    rfl
  have HY : Hid (Y = ((1000000 + time % 1000000 : Nat) : Int)) := Lib.hid (by rw [hY, Int.tmod_eq_emod_of_nonneg (by omega)]; omega)
  clear hY
  clear ho hw hs hnm hid hidn hM hA1 hA2 hA3 hR7 hhl hcap hmax htm
  go_enter Tryd.func7, Tryd.ntmps7
  go_wp2_with (go_at_call 17; refine (HNM.out _).mono ?_; rintro e w2 ⟨rfl, rfl⟩)
  go_region_law (go_simp; go_at_call 18; refine (HMS.out _).mono ?_; rintro e w3 ⟨rfl, rfl⟩)
  all_goals
    clear hid32 htm64
    go_wp2_with fail
    refine (HPM.out _ _ (by first | exact HY.out | (rw [HWR.out, Int.tmod_eq_emod_of_nonneg (by omega)]; omega) | (rw [Int.tmod_eq_emod_of_nonneg (by omega)]; omega) | omega)).mono ?_
    rintro e w4 ⟨rfl, hb⟩
    have hj4 : Has w4 w.heap.size 28 #[.int .u64 (time : Nat), .string ⟨port.toArray⟩, .int .u32 (id : Nat), .bool true, .slice A data.length cap] := Has.below (by first | exact (HJ0.out.alloc _).drew | exact HJ0.out.alloc _ | exact ((HJ0.out.alloc _).drew).drew) hb (by (try simp); (try omega))
    have hf4 : Has w4 (w.heap.size + 1) 26 #[.int .u32 (id : Nat), .bool true, .slice A data.length cap] := Has.below (by first | exact HF0.out.drew | exact HF0.out | exact HF0.out.drew.drew) hb (by (try simp); (try omega))
    have b0 : w4.cell? ⟨w.heap.size, 0, none⟩ = some (.int .u64 (time : Nat)) := hj4.cell 0
    have b1 : w4.cell? ⟨w.heap.size, 1, none⟩ = some (.string ⟨port.toArray⟩) := hj4.cell 1
    have f0 : w4.cell? ⟨w.heap.size + 1, 0, none⟩ = some (.int .u32 (id : Nat)) := hf4.cell 0
    have f1 : w4.cell? ⟨w.heap.size + 1, 1, none⟩ = some (.bool true) := hf4.cell 1
    have f2 : w4.cell? ⟨w.heap.size + 1, 2, none⟩ = some (.slice A data.length cap) := hf4.cell 2
    have z4 : w.heap.size + 1 < w4.heap.size := hf4.lt
    have HF4 := Lib.hid hf4
    have HB4 : Hid (Below w.heap.size w w4) := Lib.hid (Below.trans (by repeat' (first | (with_reducible assumption) | (with_reducible refine Below.setCell ?_ ?_ _) | (with_reducible refine Below.alloc ?_ ?_ _) | (with_reducible refine Below.drew ?_) | (with_reducible refine below_drewN ?_ _) | (with_reducible exact Below.refl _ _) | (show _ ≤ _; (try simp); (try omega); done) | exact Below.refl _ _ | assumption)) (hb.mono (by (try simp); (try omega))))
    clear hb hj4 hf4
    go_wp2_with fail
    have z40 : w.heap.size < w4.heap.size := by omega
    have hid32 : (id : Int) < 4294967296 := by have := HO.out.id; simp only at this; omega
    have htm64 : (time : Int) < 18446744073709551616 := by have := HO.out.time; simp only at this; omega
    have HPS2 : Hid (∀ (v : Int) W, v = ((time / 1000000 : Nat) : Int) → Below w4.heap.size w4 W → Calls Tryd.prog 19 #[.int .u64 v, .bool false] W fun e w' => e = .returned (.string ⟨A1.toArray⟩) ∧ Below w4.heap.size w4 w') := Lib.hid (fun v W hv hb => (HPS.out v W hv).mono (fun e w' h => ⟨h.1, hb.trans (h.2.mono hb.size)⟩))
    have HHX2 : Hid (∀ (v : Int) W, v = ((id : Nat) : Int) → Below w4.heap.size w4 W → Calls Tryd.prog 20 #[.int .u64 v, .int .i64 8] W fun e w' => e = .returned (.string ⟨A3.toArray⟩) ∧ Below w4.heap.size w4 w') := Lib.hid (fun v W hv hb => (HHX.out v W hv).mono (fun e w' h => ⟨h.1, hb.trans (h.2.mono hb.size)⟩))
    go_region_held3 (fun W => W.cell? ⟨w.heap.size, 0, none⟩ = some (.int .u64 (time : Nat)) ∧ W.cell? ⟨w.heap.size, 1, none⟩ = some (.string ⟨port.toArray⟩) ∧ W.cell? ⟨w.heap.size + 1, 0, none⟩ = some (.int .u32 (id : Nat)) ∧ Below w4.heap.size w4 W)
      (first | exact ⟨by go_simp, by go_simp, by go_simp, Below.drew (Below.refl _ _)⟩ | exact ⟨by assumption, by assumption, by assumption, by assumption⟩)
      (first
        | (go_at_call 19; refine (HPS2.out _ _ (by first | omega | (rw [IntKind.wrap_u64]; omega)) (by first | assumption | exact (‹_ ∧ _ ∧ _ ∧ Below w4.heap.size w4 _›).2.2.2)).mono ?_; rintro e w5 ⟨rfl, hB5⟩; (try go_split_ands); have k0 : w5.cell? ⟨w.heap.size, 0, none⟩ = some (.int .u64 (time : Nat)) := (hB5.cell (p := ⟨w.heap.size, 0, none⟩) z40).trans b0; have k1 : w5.cell? ⟨w.heap.size, 1, none⟩ = some (.string ⟨port.toArray⟩) := (hB5.cell (p := ⟨w.heap.size, 1, none⟩) z40).trans b1; have k2 : w5.cell? ⟨w.heap.size + 1, 0, none⟩ = some (.int .u32 (id : Nat)) := (hB5.cell (p := ⟨w.heap.size + 1, 0, none⟩) z4).trans f0)
        | (go_at_call 20; refine (HHX2.out _ _ (by first | rfl | omega | (rw [IntKind.wrap_u64]; omega)) (by first | assumption | exact (‹_ ∧ _ ∧ _ ∧ Below w4.heap.size w4 _›).2.2.2)).mono ?_; rintro e w5 ⟨rfl, hB5⟩; (try go_split_ands); have k0 : w5.cell? ⟨w.heap.size, 0, none⟩ = some (.int .u64 (time : Nat)) := (hB5.cell (p := ⟨w.heap.size, 0, none⟩) z40).trans b0; have k1 : w5.cell? ⟨w.heap.size, 1, none⟩ = some (.string ⟨port.toArray⟩) := (hB5.cell (p := ⟨w.heap.size, 1, none⟩) z40).trans b1; have k2 : w5.cell? ⟨w.heap.size + 1, 0, none⟩ = some (.int .u32 (id : Nat)) := (hB5.cell (p := ⟨w.heap.size + 1, 0, none⟩) z4).trans f0))
  all_goals
    have hf5 := HF4.out.below hB5 z4
    have HF5 := Lib.hid hf5
    have HB5 : Hid (Below w.heap.size w w5) := Lib.hid (HB4.out.trans (hB5.mono (Nat.le_of_lt z40)))
    have f25 : w5.cell? ⟨w.heap.size + 1, 2, none⟩ = some (.slice A data.length cap) := hf5.cell 2
    have z5 : w.heap.size + 1 < w5.heap.size := hf5.lt
    clear hB5 hf5 hid32 htm64
    go_wp2
    go_loopw [7, 8] (fun tv iv wr => ∃ j : Nat, j ≤ data.length ∧ iv = .int .i64 (j : Nat) ∧ tv = .string ⟨(headD ⟨time, port, id, true, data⟩ ++ dataT (data.take j)).toArray⟩ ∧ Hid (Has wr (w.heap.size + 1) 26 #[.int .u32 (id : Nat), .bool true, .slice A data.length cap]) ∧ Hid (Below w.heap.size w wr)) (fun _ iv _ => data.length - (intOf iv).toNat)
    case atStart => exact ⟨0, Nat.zero_le _, rfl, congrArg Value.string (by rw [HHD.out]; apply ByteArray.ext; simp [dataT]), HF5, HB5⟩
    case round =>
      obtain ⟨j, hj, rfl, rfl, HFr, HBr⟩ := hrel
      have hzr := HBr.out.size
      have zfr : w.heap.size + 1 < wr.heap.size := HFr.out.lt
      have fr2 : wr.cell? ⟨w.heap.size + 1, 2, none⟩ = some (.slice A data.length cap) := HFr.out.cell 2
      clear HF5 HB5 k0 k1 k2 b0 b1 f0 f1 f2 f25
      by_cases hlt : j < data.length
      · obtain ⟨b, off, rfl, hb, hc0⟩ := HS.out.at_ hlt
        have hbc := HO.out.data _ (List.getElem_mem hlt)
        obtain ⟨c, hcE⟩ : ∃ c : Nat, data[j] = (c : Int) := ⟨data[j].toNat, by omega⟩
        have hc256 : c < 256 := by omega
        have hc : wr.cell? ⟨b, off + j, none⟩ = some (.int .u8 (c : Nat)) := (HBr.out.cell (p := ⟨b, off + j, none⟩) hb).trans (by rw [← hcE]; exact hc0)
        have HPD : Hid (∀ (v : Int) W, v = (c : Nat) → Calls Tryd.prog 20 #[.int .u64 v, .int .i64 2] W fun e w' => e = .returned (.string ⟨(numN 16 2 c).toArray⟩) ∧ Below W.heap.size W w') := Lib.hid (fun v W hv => by
          subst hv
          exact rhex_any c 2 (by omega) (by decide) W)
        have HTX : Hid (headD ⟨time, port, id, true, data⟩ ++ dataT (data.take (j + 1)) = (headD ⟨time, port, id, true, data⟩ ++ dataT (data.take j)) ++ numN 16 2 c) := Lib.hid (by rw [data_take _ hlt, hcE, Int.toNat_natCast, List.append_assoc])
        have hl1 := HDL.out j
        have hD2 : (numN 16 2 c).length ≤ 2 := by rw [numN_len]; exact Nat.le_refl _
        generalize headD ⟨time, port, id, true, data⟩ ++ dataT (data.take j) = TX at *
        generalize numN 16 2 c = D at *
        have hno : ¬ 9223372036854775807 < TX.length + D.length := by omega
        clear hcE hc0 hbc
        go_wp2_with (go_at_call 20; refine (HPD.out _ _ (by first | rfl | omega | (rw [IntKind.wrap_u64]; omega))).mono ?_; rintro e w6 ⟨rfl, hb6⟩; have hf6 := HFr.out.below hb6 zfr; have HF6 := Lib.hid hf6; have HB6 := Lib.hid (HBr.out.trans (hb6.mono hzr)); clear hb6 hf6)
        go_roundw
        case rel => exact ⟨j + 1, by omega, by go_num, by rw [HTX.out]; exact congrArg Value.string (strApp TX D), HF6, HB6⟩
        case measure => simp [intOf]; omega
      · obtain rfl : j = data.length := by omega
        go_wp2
        go_ret2
        exact ⟨HBr.out, .inl ⟨HW.out, by rw [List.take_of_length_le (Nat.le_refl _), ← line_head]; rfl⟩⟩
set_option maxRecDepth 100000 in
set_option maxHeartbeats 16000000 in
theorem rdprint_false (time id : Nat) (port : List UInt8) (data : List Int) (ho : (⟨time, port, id, false, data⟩ : Ln).Ok) (hw : wrong ⟨time, port, id, false, data⟩ = 0) (A : Option Addr) (cap : Nat) (w : World) (hs : Sl w w.heap.size (Value.int .u8) (.slice A data.length cap) data) : Calls Tryd.prog 7 #[.agg #[.int .u64 (time : Nat), .string ⟨port.toArray⟩, .int .u32 (id : Nat), .bool false, .slice A data.length cap]] w (RPr ⟨time, port, id, false, data⟩ w) := by
  obtain ⟨hnm, hid, hdl8⟩ := right_of hw
  simp only at hnm hid hdl8
  obtain ⟨_, _, e0, hcap, hmax⟩ := hs.form
  cases e0
  have HS := Lib.hid hs
  have HO := Lib.hid ho
  have HW := Lib.hid hw
  have htm : time < 18446744073709551616 := ho.time
  have hport : port.length ≤ 64 := by
    rw [nameB_pre] at hnm
    simp only [Bool.and_eq_true] at hnm
    exact of_decide_eq_true hnm.1.2
  have HNM : Hid (∀ W, Calls Tryd.prog 17 #[.string ⟨port.toArray⟩] W fun e w' => e = .returned (.bool true) ∧ W = w') := Lib.hid (fun W => by have := rname_any port (by omega) W; rw [hnm] at this; exact this)
  have HMS : Hid (∀ W, Calls Tryd.prog 18 #[.bool false] W fun e w' => e = .returned (.int .u32 (most false : Nat)) ∧ W = w') := Lib.hid (fun W => rmost_any false W)
  have hidn : id < 16 ^ 3 := Nat.lt_of_le_of_lt hid (most_lt false)
  obtain ⟨M, hM⟩ : ∃ M, M = most false := ⟨_, rfl⟩
  rw [← hM] at HMS hid
  have d1 : decide ((M : Int) < (id : Int)) = false := by simp; omega
  have d1n : decide (M < id) = false := by simp; omega
  have d2 : decide ((8 : Int) < (data.length : Int)) = false := by simp; omega
  have d2n : decide (8 < data.length) = false := by simp; omega
  obtain ⟨A1, hA1⟩ : ∃ A1, A1 = secs time := ⟨_, rfl⟩
  obtain ⟨A2, hA2⟩ : ∃ A2, A2 = numN 10 6 (time % 1000000) := ⟨_, rfl⟩
  obtain ⟨A3, hA3⟩ : ∃ A3, A3 = numN 16 3 id := ⟨_, rfl⟩
  have h1l : A1.length ≤ 20 := by rw [hA1]; exact secs_len htm
  have h2l : A2.length ≤ 6 := by rw [hA2, numN_len]; exact Nat.le_refl _
  have h3l : A3.length ≤ 8 := by rw [hA3, numN_len]; decide
  have HHD : Hid (headD ⟨time, port, id, false, data⟩ = 40 :: (A1 ++ 46 :: (A2 ++ 41 :: 32 :: (port ++ 32 :: (A3 ++ [35]))))) := Lib.hid (by rw [hA1, hA2, hA3]; rfl)
  have HPM : Hid (∀ (v : Int) W, v = ((1000000 + time % 1000000 : Nat) : Int) → Calls Tryd.prog 19 #[.int .u64 v, .bool false] W fun e w' => e = .returned (.string ⟨(49 :: A2).toArray⟩) ∧ Below W.heap.size W w') := Lib.hid (fun v W hv => by
    subst hv
    rw [hA2, ← dec7 (show time % 1000000 < 1000000 by omega)]
    exact rpr_any _ (by omega) W)
  have HPS : Hid (∀ (v : Int) W, v = ((time / 1000000 : Nat) : Int) → Calls Tryd.prog 19 #[.int .u64 v, .bool false] W fun e w' => e = .returned (.string ⟨A1.toArray⟩) ∧ Below W.heap.size W w') := Lib.hid (fun v W hv => by
    subst hv
    rw [hA1]
    exact rpr_any _ (by omega) W)
  have HHX : Hid (∀ (v : Int) W, v = ((id : Nat) : Int) → Calls Tryd.prog 20 #[.int .u64 v, .int .i64 3] W fun e w' => e = .returned (.string ⟨A3.toArray⟩) ∧ Below W.heap.size W w') := Lib.hid (fun v W hv => by
    subst hv
    rw [hA3]
    exact rhex_any id 3 (by have := ho.id; simp only at this; omega) (by decide) W)
  have hid32 : (id : Int) < 4294967296 := by have := ho.id; simp only at this; omega
  have htm64 : (time : Int) < 18446744073709551616 := by omega
  obtain ⟨R7, hR7⟩ : ∃ R7 : ByteArray, R7 = ⟨(49 :: A2).toArray⟩ := ⟨_, rfl⟩
  have hsl : ∀ W, (Instr.slice 9 (.string R7) (some (.int .i64 1)) none none).run Tryd.prog W = .ok (.string ⟨A2.toArray⟩) W := fun W => by
    have hz : R7.size = A2.length + 1 := by rw [hR7]; rfl
    rw [run_slice_string_from_if _ _ _ _ _ Tryd.underlying9, if_pos ⟨by omega, by rw [hz]; omega⟩, hz, hR7]
    congr 2
    apply ByteArray.ext
    simp
  rw [← hR7] at HPM
  have hhl : ∀ j, (headD ⟨time, port, id, false, data⟩ ++ dataT (data.take j)).length ≤ 200 := fun j => by
    have h1 : (dataT (data.take j)).length ≤ 16 := by rw [data_len, List.length_take]; omega
    rw [List.length_append, HHD.out]
    simp only [List.length_cons, List.length_append, List.length_nil]
    omega
  have HDL := Lib.hid hhl
  have hwr : IntKind.u64.wrap ((1000000 : Int) + (time : Int).tmod 1000000) = 1000000 + (time : Int).tmod 1000000 := by rw [Int.tmod_eq_emod_of_nonneg (by omega), IntKind.wrap_u64]; omega
  have n1 : ¬ 9223372036854775807 < 1 + A1.length := by omega
  have n2 : ¬ 9223372036854775807 < 1 + A1.length + 1 := by omega
  have n3 : ¬ 9223372036854775807 < 1 + A1.length + 1 + A2.length := by omega
  have n4 : ¬ 9223372036854775807 < 1 + A1.length + 1 + A2.length + 2 := by omega
  have n5 : ¬ 9223372036854775807 < 1 + A1.length + 1 + A2.length + 2 + port.length := by omega
  have n6 : ¬ 9223372036854775807 < 1 + A1.length + 1 + A2.length + 2 + port.length + 1 := by omega
  have n7 : ¬ 9223372036854775807 < 1 + A1.length + 1 + A2.length + 2 + port.length + 1 + A3.length := by omega
  have n8 : ¬ 9223372036854775807 < 1 + A1.length + 1 + A2.length + 2 + port.length + 1 + A3.length + 1 := by omega
  have HJ0 := Lib.hid (Has.new w 28 #[.int .u64 (time : Nat), .string ⟨port.toArray⟩, .int .u32 (id : Nat), .bool false, .slice A data.length cap])
  have HF0 := Lib.hid (Has.new1 w (.cells #[.int .u64 (time : Nat), .string ⟨port.toArray⟩, .int .u32 (id : Nat), .bool false, .slice A data.length cap] 28) 26 #[.int .u32 (id : Nat), .bool false, .slice A data.length cap])
  have HWR := Lib.hid hwr
  clear hwr
  obtain ⟨Y, hY⟩ : ∃ Y : Int, Y = 1000000 + (time : Int).tmod 1000000 := ⟨_, rfl⟩
  have hadd : ∀ W, (binOp .add 22 (.int .u64 1000000) (.int .u64 ((time : Int).tmod 1000000))).run Tryd.prog W = .ok (.int .u64 Y) W := fun W => by
    rw [hY, ← HWR.out]
    rfl
  have HY : Hid (Y = ((1000000 + time % 1000000 : Nat) : Int)) := Lib.hid (by rw [hY, Int.tmod_eq_emod_of_nonneg (by omega)]; omega)
  clear hY
  clear ho hw hs hnm hid hidn hM hA1 hA2 hA3 hR7 hhl hcap hmax htm
  go_enter Tryd.func7, Tryd.ntmps7
  go_wp2_with (go_at_call 17; refine (HNM.out _).mono ?_; rintro e w2 ⟨rfl, rfl⟩)
  go_region_law (go_simp; go_at_call 18; refine (HMS.out _).mono ?_; rintro e w3 ⟨rfl, rfl⟩)
  all_goals
    clear hid32 htm64
    go_wp2_with fail
    refine (HPM.out _ _ (by first | exact HY.out | (rw [HWR.out, Int.tmod_eq_emod_of_nonneg (by omega)]; omega) | (rw [Int.tmod_eq_emod_of_nonneg (by omega)]; omega) | omega)).mono ?_
    rintro e w4 ⟨rfl, hb⟩
    have hj4 : Has w4 w.heap.size 28 #[.int .u64 (time : Nat), .string ⟨port.toArray⟩, .int .u32 (id : Nat), .bool false, .slice A data.length cap] := Has.below (by first | exact (HJ0.out.alloc _).drew | exact HJ0.out.alloc _ | exact ((HJ0.out.alloc _).drew).drew) hb (by (try simp); (try omega))
    have hf4 : Has w4 (w.heap.size + 1) 26 #[.int .u32 (id : Nat), .bool false, .slice A data.length cap] := Has.below (by first | exact HF0.out.drew | exact HF0.out | exact HF0.out.drew.drew) hb (by (try simp); (try omega))
    have b0 : w4.cell? ⟨w.heap.size, 0, none⟩ = some (.int .u64 (time : Nat)) := hj4.cell 0
    have b1 : w4.cell? ⟨w.heap.size, 1, none⟩ = some (.string ⟨port.toArray⟩) := hj4.cell 1
    have f0 : w4.cell? ⟨w.heap.size + 1, 0, none⟩ = some (.int .u32 (id : Nat)) := hf4.cell 0
    have f1 : w4.cell? ⟨w.heap.size + 1, 1, none⟩ = some (.bool false) := hf4.cell 1
    have f2 : w4.cell? ⟨w.heap.size + 1, 2, none⟩ = some (.slice A data.length cap) := hf4.cell 2
    have z4 : w.heap.size + 1 < w4.heap.size := hf4.lt
    have HF4 := Lib.hid hf4
    have HB4 : Hid (Below w.heap.size w w4) := Lib.hid (Below.trans (by repeat' (first | (with_reducible assumption) | (with_reducible refine Below.setCell ?_ ?_ _) | (with_reducible refine Below.alloc ?_ ?_ _) | (with_reducible refine Below.drew ?_) | (with_reducible refine below_drewN ?_ _) | (with_reducible exact Below.refl _ _) | (show _ ≤ _; (try simp); (try omega); done) | exact Below.refl _ _ | assumption)) (hb.mono (by (try simp); (try omega))))
    clear hb hj4 hf4
    go_wp2_with fail
    have z40 : w.heap.size < w4.heap.size := by omega
    have hid32 : (id : Int) < 4294967296 := by have := HO.out.id; simp only at this; omega
    have htm64 : (time : Int) < 18446744073709551616 := by have := HO.out.time; simp only at this; omega
    have HPS2 : Hid (∀ (v : Int) W, v = ((time / 1000000 : Nat) : Int) → Below w4.heap.size w4 W → Calls Tryd.prog 19 #[.int .u64 v, .bool false] W fun e w' => e = .returned (.string ⟨A1.toArray⟩) ∧ Below w4.heap.size w4 w') := Lib.hid (fun v W hv hb => (HPS.out v W hv).mono (fun e w' h => ⟨h.1, hb.trans (h.2.mono hb.size)⟩))
    have HHX2 : Hid (∀ (v : Int) W, v = ((id : Nat) : Int) → Below w4.heap.size w4 W → Calls Tryd.prog 20 #[.int .u64 v, .int .i64 3] W fun e w' => e = .returned (.string ⟨A3.toArray⟩) ∧ Below w4.heap.size w4 w') := Lib.hid (fun v W hv hb => (HHX.out v W hv).mono (fun e w' h => ⟨h.1, hb.trans (h.2.mono hb.size)⟩))
    go_region_held3 (fun W => W.cell? ⟨w.heap.size, 0, none⟩ = some (.int .u64 (time : Nat)) ∧ W.cell? ⟨w.heap.size, 1, none⟩ = some (.string ⟨port.toArray⟩) ∧ W.cell? ⟨w.heap.size + 1, 0, none⟩ = some (.int .u32 (id : Nat)) ∧ Below w4.heap.size w4 W)
      (first | exact ⟨by go_simp, by go_simp, by go_simp, Below.drew (Below.refl _ _)⟩ | exact ⟨by assumption, by assumption, by assumption, by assumption⟩)
      (first
        | (go_at_call 19; refine (HPS2.out _ _ (by first | omega | (rw [IntKind.wrap_u64]; omega)) (by first | assumption | exact (‹_ ∧ _ ∧ _ ∧ Below w4.heap.size w4 _›).2.2.2)).mono ?_; rintro e w5 ⟨rfl, hB5⟩; (try go_split_ands); have k0 : w5.cell? ⟨w.heap.size, 0, none⟩ = some (.int .u64 (time : Nat)) := (hB5.cell (p := ⟨w.heap.size, 0, none⟩) z40).trans b0; have k1 : w5.cell? ⟨w.heap.size, 1, none⟩ = some (.string ⟨port.toArray⟩) := (hB5.cell (p := ⟨w.heap.size, 1, none⟩) z40).trans b1; have k2 : w5.cell? ⟨w.heap.size + 1, 0, none⟩ = some (.int .u32 (id : Nat)) := (hB5.cell (p := ⟨w.heap.size + 1, 0, none⟩) z4).trans f0)
        | (go_at_call 20; refine (HHX2.out _ _ (by first | rfl | omega | (rw [IntKind.wrap_u64]; omega)) (by first | assumption | exact (‹_ ∧ _ ∧ _ ∧ Below w4.heap.size w4 _›).2.2.2)).mono ?_; rintro e w5 ⟨rfl, hB5⟩; (try go_split_ands); have k0 : w5.cell? ⟨w.heap.size, 0, none⟩ = some (.int .u64 (time : Nat)) := (hB5.cell (p := ⟨w.heap.size, 0, none⟩) z40).trans b0; have k1 : w5.cell? ⟨w.heap.size, 1, none⟩ = some (.string ⟨port.toArray⟩) := (hB5.cell (p := ⟨w.heap.size, 1, none⟩) z40).trans b1; have k2 : w5.cell? ⟨w.heap.size + 1, 0, none⟩ = some (.int .u32 (id : Nat)) := (hB5.cell (p := ⟨w.heap.size + 1, 0, none⟩) z4).trans f0))
  all_goals
    have hf5 := HF4.out.below hB5 z4
    have HF5 := Lib.hid hf5
    have HB5 : Hid (Below w.heap.size w w5) := Lib.hid (HB4.out.trans (hB5.mono (Nat.le_of_lt z40)))
    have f25 : w5.cell? ⟨w.heap.size + 1, 2, none⟩ = some (.slice A data.length cap) := hf5.cell 2
    have z5 : w.heap.size + 1 < w5.heap.size := hf5.lt
    clear hB5 hf5 hid32 htm64
    go_wp2
    go_loopw [7, 8] (fun tv iv wr => ∃ j : Nat, j ≤ data.length ∧ iv = .int .i64 (j : Nat) ∧ tv = .string ⟨(headD ⟨time, port, id, false, data⟩ ++ dataT (data.take j)).toArray⟩ ∧ Hid (Has wr (w.heap.size + 1) 26 #[.int .u32 (id : Nat), .bool false, .slice A data.length cap]) ∧ Hid (Below w.heap.size w wr)) (fun _ iv _ => data.length - (intOf iv).toNat)
    case atStart => exact ⟨0, Nat.zero_le _, rfl, congrArg Value.string (by rw [HHD.out]; apply ByteArray.ext; simp [dataT]), HF5, HB5⟩
    case round =>
      obtain ⟨j, hj, rfl, rfl, HFr, HBr⟩ := hrel
      have hzr := HBr.out.size
      have zfr : w.heap.size + 1 < wr.heap.size := HFr.out.lt
      have fr2 : wr.cell? ⟨w.heap.size + 1, 2, none⟩ = some (.slice A data.length cap) := HFr.out.cell 2
      clear HF5 HB5 k0 k1 k2 b0 b1 f0 f1 f2 f25
      by_cases hlt : j < data.length
      · obtain ⟨b, off, rfl, hb, hc0⟩ := HS.out.at_ hlt
        have hbc := HO.out.data _ (List.getElem_mem hlt)
        obtain ⟨c, hcE⟩ : ∃ c : Nat, data[j] = (c : Int) := ⟨data[j].toNat, by omega⟩
        have hc256 : c < 256 := by omega
        have hc : wr.cell? ⟨b, off + j, none⟩ = some (.int .u8 (c : Nat)) := (HBr.out.cell (p := ⟨b, off + j, none⟩) hb).trans (by rw [← hcE]; exact hc0)
        have HPD : Hid (∀ (v : Int) W, v = (c : Nat) → Calls Tryd.prog 20 #[.int .u64 v, .int .i64 2] W fun e w' => e = .returned (.string ⟨(numN 16 2 c).toArray⟩) ∧ Below W.heap.size W w') := Lib.hid (fun v W hv => by
          subst hv
          exact rhex_any c 2 (by omega) (by decide) W)
        have HTX : Hid (headD ⟨time, port, id, false, data⟩ ++ dataT (data.take (j + 1)) = (headD ⟨time, port, id, false, data⟩ ++ dataT (data.take j)) ++ numN 16 2 c) := Lib.hid (by rw [data_take _ hlt, hcE, Int.toNat_natCast, List.append_assoc])
        have hl1 := HDL.out j
        have hD2 : (numN 16 2 c).length ≤ 2 := by rw [numN_len]; exact Nat.le_refl _
        generalize headD ⟨time, port, id, false, data⟩ ++ dataT (data.take j) = TX at *
        generalize numN 16 2 c = D at *
        have hno : ¬ 9223372036854775807 < TX.length + D.length := by omega
        clear hcE hc0 hbc
        go_wp2_with (go_at_call 20; refine (HPD.out _ _ (by first | rfl | omega | (rw [IntKind.wrap_u64]; omega))).mono ?_; rintro e w6 ⟨rfl, hb6⟩; have hf6 := HFr.out.below hb6 zfr; have HF6 := Lib.hid hf6; have HB6 := Lib.hid (HBr.out.trans (hb6.mono hzr)); clear hb6 hf6)
        go_roundw
        case rel => exact ⟨j + 1, by omega, by go_num, by rw [HTX.out]; exact congrArg Value.string (strApp TX D), HF6, HB6⟩
        case measure => simp [intOf]; omega
      · obtain rfl : j = data.length := by omega
        go_wp2
        go_ret2
        exact ⟨HBr.out, .inl ⟨HW.out, by rw [List.take_of_length_le (Nat.le_refl _), ← line_head]; rfl⟩⟩
set_option maxRecDepth 100000 in
set_option maxHeartbeats 8000000 in
theorem rdprint_any (l : Ln) (ho : l.Ok) (sv : Value) (w : World) (hs : Sl w w.heap.size (Value.int .u8) sv l.data) (hpl : l.port.length ≤ 140737488351232) : Calls Tryd.prog 7 #[.agg (lnC l sv).toArray] w (RPr l w) := by
  obtain ⟨A, cap, rfl, hcap, hmax⟩ := hs.form
  have HS := Lib.hid hs
  have HO := Lib.hid ho
  have HNM : Hid (∀ W, Calls Tryd.prog 17 #[.string ⟨l.port.toArray⟩] W fun e w' => e = .returned (.bool (nameB l.port)) ∧ W = w') := Lib.hid (fun W => rname_any l.port (by omega) W)
  obtain ⟨P, hP⟩ : ∃ P : ByteArray, P = ⟨l.port.toArray⟩ := ⟨_, rfl⟩
  have HP := Lib.hid hP
  unfold lnC
  rw [← hP] at HNM ⊢
  unfold maxLen at hmax
  have HMS := Lib.hid (fun (W : World) => rmost_any l.wide W)
  obtain ⟨M, hM⟩ : ∃ M, M = most l.wide := ⟨_, rfl⟩
  rw [← hM] at HMS
  have HM := Lib.hid hM
  clear hs ho hP hM
  cases hnm : nameB l.port with
  | false =>
    have HW := Lib.hid (wrong_name hnm)
    rw [hnm] at HNM
    clear hnm
    go_enter Tryd.func7, Tryd.ntmps7
    go_wp2_with (go_at_call 17; refine (HNM.out _).mono ?_; rintro e w2 ⟨rfl, rfl⟩)
    go_ret2
    exact RPr.bad HW.out (by decide) (by repeat' (first | (with_reducible assumption) | (with_reducible refine Below.setCell ?_ ?_ _) | (with_reducible refine Below.alloc ?_ ?_ _) | (with_reducible refine Below.drew ?_) | (with_reducible refine below_drewN ?_ _) | (with_reducible exact Below.refl _ _) | (show _ ≤ _; (try simp); (try omega); done) | exact Below.refl _ _ | assumption))
  | true =>
    rw [hnm] at HNM
    by_cases hid : M < l.id
    · have HW := Lib.hid (wrong_id hnm (by rw [← HM.out]; exact hid))
      have d1 : decide ((M : Int) < (l.id : Int)) = true := by simp; omega
      have d1n : decide (M < l.id) = true := by simp; omega
      clear hnm
      go_enter Tryd.func7, Tryd.ntmps7
      go_wp2_with (go_at_call 17; refine (HNM.out _).mono ?_; rintro e w2 ⟨rfl, rfl⟩)
      go_region_law (go_simp; go_at_call 18; refine (HMS.out _).mono ?_; rintro e w3 ⟨rfl, rfl⟩)
      all_goals go_wp2
      all_goals go_ret2
      all_goals exact RPr.bad HW.out (by decide) (by repeat' (first | (with_reducible assumption) | (with_reducible refine Below.setCell ?_ ?_ _) | (with_reducible refine Below.alloc ?_ ?_ _) | (with_reducible refine Below.drew ?_) | (with_reducible refine below_drewN ?_ _) | (with_reducible exact Below.refl _ _) | (show _ ≤ _; (try simp); (try omega); done) | exact Below.refl _ _ | assumption))
    · by_cases hdl : 8 < l.data.length
      · have HW := Lib.hid (wrong_data hnm (by rw [← HM.out]; exact hid) hdl)
        have d1 : decide ((M : Int) < (l.id : Int)) = false := by simp; omega
        have d1n : decide (M < l.id) = false := by simp; omega
        have d2 : decide ((8 : Int) < (l.data.length : Int)) = true := by simp; omega
        have d2n : decide (8 < l.data.length) = true := by simp; omega
        clear hnm hid
        go_enter Tryd.func7, Tryd.ntmps7
        go_wp2_with (go_at_call 17; refine (HNM.out _).mono ?_; rintro e w2 ⟨rfl, rfl⟩)
        go_region_law (go_simp; go_at_call 18; refine (HMS.out _).mono ?_; rintro e w3 ⟨rfl, rfl⟩)
        all_goals go_wp2
        all_goals go_ret2
        all_goals exact RPr.bad HW.out (by decide) (by repeat' (first | (with_reducible assumption) | (with_reducible refine Below.setCell ?_ ?_ _) | (with_reducible refine Below.alloc ?_ ?_ _) | (with_reducible refine Below.drew ?_) | (with_reducible refine below_drewN ?_ _) | (with_reducible exact Below.refl _ _) | (show _ ≤ _; (try simp); (try omega); done) | exact Below.refl _ _ | assumption))
      · have hw := wrong_no hnm (by rw [← HM.out]; exact hid) hdl
        rw [HP.out]
        have hs := HS.out
        have ho := HO.out
        clear HNM HMS HP HM HS HO hnm hid hdl hcap hmax
        obtain ⟨time, port, id, wide, data⟩ := l
        cases wide with
        | true => exact rdprint_true time id port data ho hw A cap w hs
        | false => exact rdprint_false time id port data ho hw A cap w hs
end dumpW
end Go.Proofs.YtpeeonfpmgddoaaDoor
