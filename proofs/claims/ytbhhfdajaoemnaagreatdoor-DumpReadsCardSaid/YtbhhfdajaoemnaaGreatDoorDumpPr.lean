/- dump.Print of any line. Conditions: two tables of the library are laid, numbers within their types' bounds. -/
import Derived.Test.YtbhhfdajaoemnaaGreatDoorDumpPd
import Derived.Deep.RegionHeld3
import Derived.Deep.RegionWith
import Derived.RegionTactic
namespace Go.Bus.dumpK
open Go.Bus.textK Go.Bus.hexK
set_option linter.unusedVariables false
/-- A line's cells, its bytes in some slice. -/
def lnC (l : Ln) (sv : Value) : List Value := [.int .u64 (l.time : Nat), .string ⟨l.port.toArray⟩, .int .u32 (l.id : Nat), .bool l.wide, sv]
def headD (l : Ln) : List UInt8 := 40 :: (secs l.time ++ 46 :: (numN 10 6 (l.time % 1000000) ++ 41 :: 32 :: (l.port ++ 32 :: (numN 16 (wid l.wide) l.id ++ [35]))))
theorem line_head (l : Ln) : lineD l = headD l ++ dataT l.data := by
  unfold lineD headD
  simp [List.append_assoc]
theorem data_take (d : List Int) {j : Nat} (h : j < d.length) : dataT (d.take (j + 1)) = dataT (d.take j) ++ numN 16 2 d[j].toNat := by
  unfold dataT
  rw [List.take_succ_eq_append_getElem h, List.flatMap_append]; simp
theorem data_len (d : List Int) : (dataT d).length = 2 * d.length := by
  induction d with
  | nil => rfl
  | cons c d ih => unfold dataT at ih ⊢; rw [List.flatMap_cons, List.length_append, ih, numN_len]; simp; omega
theorem wrong_name {l : Ln} (h : nameB l.port = false) : wrong l = 11 := by unfold wrong; rw [if_pos h]
theorem wrong_id {l : Ln} (h : nameB l.port = true) (h1 : most l.wide < l.id) : wrong l = 26 := by unfold wrong; rw [if_neg (by simp [h]), if_pos h1]
theorem wrong_data {l : Ln} (h : nameB l.port = true) (h1 : ¬ most l.wide < l.id) (h2 : 8 < l.data.length) : wrong l = 15 := by unfold wrong; rw [if_neg (by simp [h]), if_neg h1, if_pos h2]
theorem wrong_no {l : Ln} (h : nameB l.port = true) (h1 : ¬ most l.wide < l.id) (h2 : ¬ 8 < l.data.length) : wrong l = 0 := by unfold wrong; rw [if_neg (by simp [h]), if_neg h1, if_neg h2]
theorem secs_len {t : Nat} (h : t < 18446744073709551616) : (secs t).length ≤ 20 := by
  unfold secs
  have := Lib.decDigits_length (t / 1000000)
  rw [this]
  have key : ∀ n k : Nat, 1 ≤ k → n < 10 ^ k → (Lib.decDigits n).length ≤ k := by
    intro n
    induction n using Nat.strongRecOn with
    | ind n ih =>
      intro k hk h
      by_cases hn : n < 10
      · rw [dec_small hn]; simpa using hk
      · rw [dec_big hn]
        have h2 : 2 ≤ k := by
          rcases Nat.lt_or_ge 1 k with h2 | h2
          · exact h2
          · have : k = 1 := by omega
            subst this; omega
        have h3 : n / 10 < 10 ^ (k - 1) := by
          have e : (10 : Nat) ^ k = 10 * 10 ^ (k - 1) := by rw [show k = (k - 1) + 1 from by omega, Nat.pow_succ, Nat.mul_comm]; simp
          rw [e] at h
          exact Nat.div_lt_of_lt_mul h
        have := ih (n / 10) (by omega) (k - 1) (by omega) h3
        simp; omega
  have h1 := key (t / 1000000) 20 (by decide) (by rw [show (10 : Nat) ^ 20 = 100000000000000000000 from by decide]; omega)
  rw [← this]; exact h1
end Go.Bus.dumpK
namespace Go.Proofs.YtbhhfdajaoemnaaGreatDoor
open Go.RowKit Go.Bus Go.Bus.dumpK Go.Bus.textK Go.Bus.hexK
set_option linter.unusedVariables false
set_option linter.unusedSimpArgs false
namespace dumpW
def DPr (l : Ln) (w : World) (e : Ending) (w' : World) : Prop := Below w.heap.size w w' ∧ ((wrong l = 0 ∧ e = .returned (.tuple #[.string ⟨(lineD l).toArray⟩, .nilIface])) ∨ (wrong l ≠ 0 ∧ e = .returned (.tuple #[.string ⟨#[]⟩, .iface 74 (.int .i64 (wrong l))])))
theorem DPr.bad {l : Ln} {w w' : World} {no : Int} (h : wrong l = no) (h0 : no ≠ 0) (hb : Below w.heap.size w w') : DPr l w (.returned (.tuple #[.string ⟨#[]⟩, .iface 74 (.int .i64 no)])) w' := ⟨hb, .inr ⟨by rw [h]; exact h0, by rw [h]⟩⟩
set_option maxRecDepth 100000 in
set_option maxHeartbeats 8000000 in
theorem dprint_any (l : Ln) (ho : l.Ok) (sv : Value) (w : World) (hs : Sl w w.heap.size (Value.int .u8) sv l.data) (hpl : l.port.length ≤ 140737488351232) (hT : fmtK.Tab w) (hZ : hexW.Tz w) : Calls Tryz.prog 14 #[.agg (lnC l sv).toArray] w (DPr l w) := by
  obtain ⟨A, cap, rfl, hcap, hmax⟩ := hs.form
  have HS := Lib.hid hs
  have HT := Lib.hid hT
  have HZ := Lib.hid hZ
  have HO := Lib.hid ho
  have HNM : Hid (∀ W, Calls Tryz.prog 30 #[.string ⟨l.port.toArray⟩] W fun e w' => e = .returned (.bool (nameB l.port)) ∧ Below W.heap.size W w') := Lib.hid (fun W => name_any l.port (by omega) W)
  obtain ⟨P, hP⟩ : ∃ P : ByteArray, P = ⟨l.port.toArray⟩ := ⟨_, rfl⟩
  have HP := Lib.hid hP
  unfold lnC
  rw [← hP] at HNM ⊢
  unfold maxLen at hmax
  have HMS := Lib.hid (fun (W : World) => most_any l.wide W)
  obtain ⟨M, hM⟩ : ∃ M, M = most l.wide := ⟨_, rfl⟩
  obtain ⟨n, hn⟩ : ∃ n, n = wid l.wide := ⟨_, rfl⟩
  rw [← hM, ← hn] at HMS
  have HM := Lib.hid hM
  have HNN := Lib.hid hn
  clear hM hn
  have HJ0 := Lib.hid (Has.new w 43 #[.int .u64 (l.time : Nat), .string P, .int .u32 (l.id : Nat), .bool l.wide, .slice A l.data.length cap])
  clear hs hT hZ ho hP
  cases hnm : nameB l.port with
  | false =>
    have HW := Lib.hid (wrong_name hnm)
    rw [hnm] at HNM
    clear hnm
    go_enter Tryz.func14, Tryz.ntmps14
    go_wp2_with (first
      | (go_at_call 29; refine (HMS.out _).mono ?_; rintro e w1 ⟨rfl, rfl⟩)
      | (go_at_call 30; refine (HNM.out _).mono ?_; rintro e w2 ⟨rfl, hb⟩; have HB2 : Hid (Below w.heap.size w w2) := Lib.hid (((Below.refl _ _).alloc (Nat.le_refl _) _).trans (hb.mono (by simp))); clear hb))
    go_ret2
    exact DPr.bad HW.out (by decide) HB2.out
  | true =>
    rw [hnm] at HNM
    by_cases hid : M < l.id
    · have HW := Lib.hid (wrong_id hnm (by rw [← HM.out]; exact hid))
      have d1 : decide ((M : Int) < (l.id : Int)) = true := by simp; omega
      clear hnm
      go_enter Tryz.func14, Tryz.ntmps14
      go_wp2_with (first
        | (go_at_call 29; refine (HMS.out _).mono ?_; rintro e w1 ⟨rfl, rfl⟩)
        | (go_at_call 30; refine (HNM.out _).mono ?_; rintro e w2 ⟨rfl, hb⟩; have hj := HJ0.out.below hb HJ0.out.lt; have x2 : w2.cell? ⟨w.heap.size, 2, none⟩ = some (.int .u32 (l.id : Nat)) := hj.cell 2; have z2 : w.heap.size < w2.heap.size := hj.lt; have HB2 : Hid (Below w.heap.size w w2) := Lib.hid (((Below.refl _ _).alloc (Nat.le_refl _) _).trans (hb.mono (by simp))); clear hb hj))
      go_ret2
      exact DPr.bad HW.out (by decide) HB2.out
    · have d1 : decide ((M : Int) < (l.id : Int)) = false := by simp; omega
      have d1n : decide (M < l.id) = false := by simp; omega
      by_cases hdl : 8 < l.data.length
      · have HW := Lib.hid (wrong_data hnm (by rw [← HM.out]; exact hid) hdl)
        have d2 : decide ((8 : Int) < (l.data.length : Int)) = true := by simp; omega
        have d2n : decide (8 < l.data.length) = true := by simp; omega
        clear hnm hid
        go_enter Tryz.func14, Tryz.ntmps14
        go_wp2_with (first
          | (go_at_call 29; refine (HMS.out _).mono ?_; rintro e w1 ⟨rfl, rfl⟩)
          | (go_at_call 30; refine (HNM.out _).mono ?_; rintro e w2 ⟨rfl, hb⟩; have hj := HJ0.out.below hb HJ0.out.lt; have x2 : w2.cell? ⟨w.heap.size, 2, none⟩ = some (.int .u32 (l.id : Nat)) := hj.cell 2; have x4 : w2.cell? ⟨w.heap.size, 4, none⟩ = some (.slice A l.data.length cap) := hj.cell 4; have z2 : w.heap.size < w2.heap.size := hj.lt; have HB2 : Hid (Below w.heap.size w w2) := Lib.hid (((Below.refl _ _).alloc (Nat.le_refl _) _).trans (hb.mono (by simp))); clear hb hj))
        go_ret2
        exact DPr.bad HW.out (by decide) HB2.out
      · have d2 : decide ((8 : Int) < (l.data.length : Int)) = false := by simp; omega
        have d2n : decide (8 < l.data.length) = false := by simp; omega
        have HW := Lib.hid (wrong_no hnm (by rw [← HM.out]; exact hid) hdl)
        have hdl8 : l.data.length ≤ 8 := by omega
        have hport : l.port.length ≤ 64 := by
          rw [nameB_pre] at hnm
          simp only [Bool.and_eq_true] at hnm
          exact of_decide_eq_true hnm.1.2
        have hn8 : n = 3 ∨ n = 8 := by rw [HNN.out]; cases l.wide <;> decide
        have hidn : l.id < 16 ^ n := by rw [HNN.out]; exact Nat.lt_of_le_of_lt (by rw [← HM.out]; omega : l.id ≤ most l.wide) (most_lt _)
        obtain ⟨A1, hA1⟩ : ∃ A1, A1 = secs l.time := ⟨_, rfl⟩
        obtain ⟨A2, hA2⟩ : ∃ A2, A2 = numN 10 6 (l.time % 1000000) := ⟨_, rfl⟩
        obtain ⟨A3, hA3⟩ : ∃ A3, A3 = numN 16 n l.id := ⟨_, rfl⟩
        have h1l : A1.length ≤ 20 := by rw [hA1]; exact secs_len HO.out.time
        have h2l : A2.length ≤ 6 := by rw [hA2, numN_len]; exact Nat.le_refl _
        have h3l : A3.length ≤ 8 := by rw [hA3, numN_len]; omega
        obtain ⟨PL, hPL⟩ : ∃ PL, PL = l.port := ⟨_, rfl⟩
        have HHD : Hid (headD l = 40 :: (A1 ++ 46 :: (A2 ++ 41 :: 32 :: (PL ++ 32 :: (A3 ++ [35]))))) := Lib.hid (by rw [hA1, hA2, hA3, hPL, HNN.out]; rfl)
        have hPB : P = ⟨PL.toArray⟩ := by rw [HP.out, hPL]
        have hpll : PL.length ≤ 64 := by rw [hPL]; exact hport
        subst hPB
        have HTM := Lib.hid HO.out.time
        have HA1 := Lib.hid hA1
        have HA2 := Lib.hid hA2
        have HA3 := Lib.hid hA3
        have HIN := Lib.hid hidn
        have HN8 := Lib.hid hn8
        clear hnm hid hdl hport hA1 hA2 hA3 hPL hidn hn8 HP
        go_enter Tryz.func14, Tryz.ntmps14
        go_wp2_with (first
          | (go_at_call 29; refine (HMS.out _).mono ?_; rintro e w1 ⟨rfl, rfl⟩)
          | (go_at_call 30; refine (HNM.out _).mono ?_; rintro e w2 ⟨rfl, hb⟩; have hj := HJ0.out.below hb HJ0.out.lt; have x0 : w2.cell? ⟨w.heap.size, 0, none⟩ = some (.int .u64 (l.time : Nat)) := hj.cell 0; have x1 : w2.cell? ⟨w.heap.size, 1, none⟩ = some (.string ⟨PL.toArray⟩) := hj.cell 1; have x2 : w2.cell? ⟨w.heap.size, 2, none⟩ = some (.int .u32 (l.id : Nat)) := hj.cell 2; have x4 : w2.cell? ⟨w.heap.size, 4, none⟩ = some (.slice A l.data.length cap) := hj.cell 4; have z2 : w.heap.size < w2.heap.size := hj.lt; have HJ2 := Lib.hid hj; have HB2 : Hid (Below w.heap.size w w2) := Lib.hid (((Below.refl _ _).alloc (Nat.le_refl _) _).trans (hb.mono (by simp))); clear hb hj))
        have hz2 := HB2.out.size
        have HF1 : Hid (∀ (v : Int) W, v = ((l.time / 1000000 : Nat) : Int) → Below w2.heap.size w2 W → Calls Tryz.prog 31 #[.int .u64 v, .int .i64 10] W fun e w' => e = .returned (.string ⟨A1.toArray⟩) ∧ Below w2.heap.size w2 w') := Lib.hid (fun v W hv hb => by
          subst hv
          rw [HA1.out]
          exact (fmtK.fmt_any (l.time / 1000000) (by have := HTM.out; omega) W (HT.out.at_below (HB2.out.trans (hb.mono hz2)))).mono (fun e w' h => ⟨h.1, hb.trans (h.2.mono hb.size)⟩))
        have HFP : Hid (∀ (v b k : Int) W, ((b = 10 ∧ k = 6 ∧ v = ((l.time % 1000000 : Nat) : Int)) ∨ (b = 16 ∧ k = (n : Nat) ∧ v = ((l.id : Nat) : Int))) → Below w2.heap.size w2 W → Calls Tryz.prog 32 #[.int .u64 v, .int .i64 b, .int .i64 k] W fun e w' => e = .returned (.string ⟨(if b = 10 then A2 else A3).toArray⟩) ∧ Below w2.heap.size w2 w') := Lib.hid (fun v b k W hv hb => by
          rcases hv with ⟨rfl, rfl, rfl⟩ | ⟨rfl, rfl, rfl⟩
          · rw [if_pos rfl, HA2.out]
            exact (padded10 (l.time % 1000000) (by omega) W (HT.out.at_below (HB2.out.trans (hb.mono hz2)))).mono (fun e w' h => ⟨h.1, hb.trans (h.2.mono hb.size)⟩)
          · rw [if_neg (by decide), HA3.out]
            exact (padded16 l.id n HIN.out (by have := HN8.out; omega) (by have := HN8.out; omega) W (HZ.out.at_below (HB2.out.trans (hb.mono hz2)))).mono (fun e w' h => ⟨h.1, hb.trans (h.2.mono hb.size)⟩))
        have hid32 : ((l.id : Int)) < 4294967296 := by have := HO.out.id; omega
        have htm64 : ((l.time : Int)) < 18446744073709551616 := by have := HTM.out; omega
        have n1 : ¬ 9223372036854775807 < 1 + A1.length := by omega
        have n2 : ¬ 9223372036854775807 < 1 + A1.length + 1 := by omega
        have n3 : ¬ 9223372036854775807 < 1 + A1.length + 1 + A2.length := by omega
        have n4 : ¬ 9223372036854775807 < 1 + A1.length + 1 + A2.length + 2 := by omega
        have n5 : ¬ 9223372036854775807 < 1 + A1.length + 1 + A2.length + 2 + PL.length := by omega
        have n6 : ¬ 9223372036854775807 < 1 + A1.length + 1 + A2.length + 2 + PL.length + 1 := by omega
        have n7 : ¬ 9223372036854775807 < 1 + A1.length + 1 + A2.length + 2 + PL.length + 1 + A3.length := by omega
        have n8 : ¬ 9223372036854775807 < 1 + A1.length + 1 + A2.length + 2 + PL.length + 1 + A3.length + 1 := by omega
        go_region_held3 (fun W => W.cell? ⟨w.heap.size, 0, none⟩ = some (.int .u64 (l.time : Nat)) ∧ W.cell? ⟨w.heap.size, 1, none⟩ = some (.string ⟨PL.toArray⟩) ∧ W.cell? ⟨w.heap.size, 2, none⟩ = some (.int .u32 (l.id : Nat)) ∧ Below w2.heap.size w2 W)
          (first | exact ⟨by go_simp, by go_simp, by go_simp, Below.drew (Below.refl _ _)⟩ | exact ⟨by assumption, by assumption, by assumption, by assumption⟩)
          (first
            | (go_at_call 31; refine (HF1.out _ _ (by first | omega | (rw [IntKind.wrap_u64]; omega)) (by first | assumption | exact (‹_ ∧ _ ∧ _ ∧ Below w2.heap.size w2 _›).2.2.2)).mono ?_; rintro e w5 ⟨rfl, hB5⟩; (try go_split_ands); have k0 : w5.cell? ⟨w.heap.size, 0, none⟩ = some (.int .u64 (l.time : Nat)) := (hB5.cell (p := ⟨w.heap.size, 0, none⟩) z2).trans x0; have k1 : w5.cell? ⟨w.heap.size, 1, none⟩ = some (.string ⟨PL.toArray⟩) := (hB5.cell (p := ⟨w.heap.size, 1, none⟩) z2).trans x1; have k2 : w5.cell? ⟨w.heap.size, 2, none⟩ = some (.int .u32 (l.id : Nat)) := (hB5.cell (p := ⟨w.heap.size, 2, none⟩) z2).trans x2)
            | (go_at_call 32; refine (HFP.out _ _ _ _ (by first | exact .inl ⟨rfl, rfl, by first | omega | (rw [IntKind.wrap_u64]; omega) | (rw [Int.tmod_eq_emod_of_nonneg (by omega)]; omega)⟩ | exact .inr ⟨rfl, rfl, by first | rfl | omega | (rw [IntKind.wrap_u64]; omega)⟩) (by first | assumption | exact (‹_ ∧ _ ∧ _ ∧ Below w2.heap.size w2 _›).2.2.2)).mono ?_; rintro e w5 ⟨rfl, hB5⟩; (first | rw [if_pos (rfl : (10 : Int) = 10)] | rw [if_neg (show ¬ (16 : Int) = 10 by decide)]); (try go_split_ands); have k0 : w5.cell? ⟨w.heap.size, 0, none⟩ = some (.int .u64 (l.time : Nat)) := (hB5.cell (p := ⟨w.heap.size, 0, none⟩) z2).trans x0; have k1 : w5.cell? ⟨w.heap.size, 1, none⟩ = some (.string ⟨PL.toArray⟩) := (hB5.cell (p := ⟨w.heap.size, 1, none⟩) z2).trans x1; have k2 : w5.cell? ⟨w.heap.size, 2, none⟩ = some (.int .u32 (l.id : Nat)) := (hB5.cell (p := ⟨w.heap.size, 2, none⟩) z2).trans x2))
        have k4 : w5.cell? ⟨w.heap.size, 4, none⟩ = some (.slice A l.data.length cap) := (hB5.cell (p := ⟨w.heap.size, 4, none⟩) z2).trans x4
        have z5 : w.heap.size < w5.heap.size := Nat.lt_of_lt_of_le z2 hB5.size
        have HBW5 : Hid (Below w.heap.size w w5) := Lib.hid (HB2.out.trans (hB5.mono hz2))
        have hdlen : ∀ j, (headD l ++ dataT (l.data.take j)).length ≤ 200 := fun j => by
          have h1 : (dataT (l.data.take j)).length ≤ 16 := by rw [data_len, List.length_take]; omega
          rw [List.length_append, HHD.out]
          simp only [List.length_cons, List.length_append, List.length_nil]
          omega
        have HDL := Lib.hid hdlen
        clear hB5 hdlen
        go_wp2
        go_loopw [6, 64] (fun tv iv wr => ∃ j : Nat, j ≤ l.data.length ∧ iv = .int .i64 (j : Nat) ∧ tv = .string ⟨(headD l ++ dataT (l.data.take j)).toArray⟩ ∧ Hid (Below w.heap.size w wr)) (fun _ iv _ => l.data.length - (intOf iv).toNat)
        case atStart => exact ⟨0, Nat.zero_le _, rfl, congrArg Value.string (by rw [HHD.out]; apply ByteArray.ext; simp [dataT]), HBW5⟩
        case round =>
          obtain ⟨j, hj, rfl, rfl, HBr⟩ := hrel
          have hzr := HBr.out.size
          clear HBW5 k0 k1 k2 k4 x0 x1 x2 x4
          by_cases hlt : j < l.data.length
          · obtain ⟨b, off, rfl, hb, hc0⟩ := HS.out.at_ hlt
            have hbc := HO.out.data _ (List.getElem_mem hlt)
            obtain ⟨c, hcE⟩ : ∃ c : Nat, l.data[j] = (c : Int) := ⟨l.data[j].toNat, by omega⟩
            have hc256 : c < 256 := by omega
            have hc : wr.cell? ⟨b, off + j, none⟩ = some (.int .u8 (c : Nat)) := (HBr.out.cell (p := ⟨b, off + j, none⟩) hb).trans (by rw [← hcE]; exact hc0)
            have HPD : Hid (∀ (v : Int) W, v = (c : Nat) → Below w.heap.size w W → Calls Tryz.prog 32 #[.int .u64 v, .int .i64 16, .int .i64 2] W fun e w' => e = .returned (.string ⟨(numN 16 2 c).toArray⟩) ∧ Below w.heap.size w w') := Lib.hid (fun v W hv hb => by
              subst hv
              exact (padded16 c 2 (by rw [show (16 : Nat) ^ 2 = 256 from by decide]; exact hc256) (by decide) (by decide) W (HZ.out.at_below hb)).mono (fun e w' h => ⟨h.1, hb.trans (h.2.mono hb.size)⟩))
            have HTX : Hid (headD l ++ dataT (l.data.take (j + 1)) = (headD l ++ dataT (l.data.take j)) ++ numN 16 2 c) := Lib.hid (by rw [data_take _ hlt, hcE, Int.toNat_natCast, List.append_assoc])
            have hl1 := HDL.out j
            have hD2 : (numN 16 2 c).length ≤ 2 := by rw [numN_len]; exact Nat.le_refl _
            generalize headD l ++ dataT (l.data.take j) = TX at *
            generalize numN 16 2 c = D at *
            have hno : ¬ 9223372036854775807 < TX.length + D.length := by omega
            clear hcE hc0 hbc
            go_wp2_with (go_at_call 32; refine (HPD.out _ _ (by first | rfl | omega | (rw [IntKind.wrap_u64]; omega)) HBr.out).mono ?_; rintro e w6 ⟨rfl, hb6⟩; have HB6 := Lib.hid hb6; clear hb6)
            go_roundw
            case rel => exact ⟨j + 1, by omega, by go_num, by rw [HTX.out]; exact congrArg Value.string (strApp TX D), HB6⟩
            case measure => simp [intOf]; omega
          · obtain rfl : j = l.data.length := by omega
            go_wp2
            go_ret2
            exact ⟨HBr.out, .inl ⟨HW.out, by rw [List.take_of_length_le (Nat.le_refl _), ← line_head]; rfl⟩⟩
end dumpW
end Go.Proofs.YtbhhfdajaoemnaaGreatDoor
