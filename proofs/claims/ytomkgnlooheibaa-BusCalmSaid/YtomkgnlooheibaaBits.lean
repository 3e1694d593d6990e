/- frame.Bits: a frame's bits with their sum, or what is wrong. -/
import Derived.Test.YtomkgnlooheibaaCrc
namespace Go.Proofs.Ytomkgnlooheibaa
open Go.RowKit Go.Bus Go.Bus.bitK
set_option linter.unusedVariables false
namespace bitsW
/-- The bits of a frame, in a list of the call's own. -/
def OwnBits (w : World) (xs : List Bool) (e : Ending) (w' : World) : Prop :=
  ∃ v, e = .returned (.tuple #[v, .nilIface]) ∧ w'.ownsRow w.heap.size 4 1 v xs.length (xs.map Value.bool) ∧ Below w.heap.size w w'

set_option maxRecDepth 100000 in
set_option maxHeartbeats 1000000 in
theorem bits_id (id : Int) (wide : Bool) (sv : Value) (w : World) (h : 536870911 < id ∨ (wide = false ∧ 2047 < id)) (hs : ∃ A n c, sv = .slice A n c) :
    Calls Try.prog 35 #[.agg #[.int .u32 id, .bool wide, sv]] w fun e w' => e = .returned (.tuple #[.slice none 0 0, .iface 70 (.int .i64 26)]) ∧ Below w.heap.size w w' := by
  obtain ⟨A, n, c, rfl⟩ := hs
  by_cases h1 : 536870911 < id
  · clear h
    go_enter Try.func35, Try.ntmps35
    go_wp2
    go_ret2
    exact ⟨rfl, (by repeat' (first | (with_reducible assumption) | (with_reducible refine Below.setCell ?_ ?_ _) | (with_reducible refine Below.alloc ?_ ?_ _) | (with_reducible refine Below.drew ?_) | (with_reducible refine below_drewN ?_ _) | (with_reducible exact Below.refl _ _) | (show _ ≤ _; (try simp); (try omega); done) | exact Below.refl _ _ | assumption))⟩
  · obtain ⟨rfl, h2⟩ := h.resolve_left h1
    have d1 : decide (536870911 < id) = false := by simp; omega
    have d2 : decide (2047 < id) = true := by simp; omega
    go_enter Try.func35, Try.ntmps35
    go_wp2
    go_ret2
    exact ⟨rfl, (by repeat' (first | (with_reducible assumption) | (with_reducible refine Below.setCell ?_ ?_ _) | (with_reducible refine Below.alloc ?_ ?_ _) | (with_reducible refine Below.drew ?_) | (with_reducible refine below_drewN ?_ _) | (with_reducible exact Below.refl _ _) | (show _ ≤ _; (try simp); (try omega); done) | exact Below.refl _ _ | assumption))⟩

set_option maxRecDepth 100000 in
set_option maxHeartbeats 1000000 in
theorem bits_size (id : Int) (wide : Bool) (A : Option Addr) (n c : Nat) (w : World) (h : id ≤ 536870911) (h' : wide = false → id ≤ 2047) (hn : 8 < n) :
    Calls Try.prog 35 #[.agg #[.int .u32 id, .bool wide, .slice A n c]] w fun e w' => e = .returned (.tuple #[.slice none 0 0, .iface 70 (.int .i64 15)]) ∧ Below w.heap.size w w' := by
  have d1 : decide (536870911 < id) = false := by simp; omega
  have d3 : decide ((8 : Int) < (n : Int)) = true := by simp; omega
  cases wide
  · have d2 : decide (2047 < id) = false := by simp; have := h' rfl; omega
    clear h'
    go_enter Try.func35, Try.ntmps35
    go_wp2
    go_ret2
    exact ⟨rfl, (by repeat' (first | (with_reducible assumption) | (with_reducible refine Below.setCell ?_ ?_ _) | (with_reducible refine Below.alloc ?_ ?_ _) | (with_reducible refine Below.drew ?_) | (with_reducible refine below_drewN ?_ _) | (with_reducible exact Below.refl _ _) | (show _ ≤ _; (try simp); (try omega); done) | exact Below.refl _ _ | assumption))⟩
  · clear h'
    go_enter Try.func35, Try.ntmps35
    go_wp2
    go_ret2
    exact ⟨rfl, (by repeat' (first | (with_reducible assumption) | (with_reducible refine Below.setCell ?_ ?_ _) | (with_reducible refine Below.alloc ?_ ?_ _) | (with_reducible refine Below.drew ?_) | (with_reducible refine below_drewN ?_ _) | (with_reducible exact Below.refl _ _) | (show _ ≤ _; (try simp); (try omega); done) | exact Below.refl _ _ | assumption))⟩

set_option maxRecDepth 100000 in
set_option maxHeartbeats 1000000 in
theorem bits_ok (id : Int) (wide : Bool) (sv : Value) (l : List Int) (w : World) (hs : Sl w w.heap.size (Value.int .u8) sv l) (h0 : 0 ≤ id) (h : id ≤ 536870911) (h' : wide = false → id ≤ 2047) (hn : l.length ≤ 8) (hb : ∀ x ∈ l, 0 ≤ x ∧ x < 256) :
    Calls Try.prog 35 #[.agg #[.int .u32 id, .bool wide, sv]] w (OwnBits w (bitsF id wide l)) := by
  obtain ⟨A, cap, rfl, hcap, hmax⟩ := hs.form
  obtain ⟨i0, hi, hz0, hz1, hz2⟩ := info_parts Try.infoBool
  have hmk := fun W => run_make (P := Try.prog) W 52 4 i0 (.bool false) Try.underlying52 hi hz0 .i64 .i64 1 (54 + 8 * (l.length : Int)) (by omega) (by omega) (by rw [hz2]; omega) (by omega)
  rw [hz1] at hmk
  have d1 : decide (536870911 < id) = false := by simp; omega
  have HS := Lib.hid hs; clear hs
  unfold maxLen at hmax
  cases wide
  · have d2 : decide (2047 < id) = false := by simp; have := h' rfl; omega
    clear h'
    obtain ⟨W1, eW1⟩ : ∃ W1, W1 = (w.alloc (.cells #[.int .u32 id, .bool false, .slice A l.length cap] 35)).alloc (.cells (madeCells #[.bool false] (54 + 8 * l.length)) 4) := ⟨_, rfl⟩
    have hW1 : w.heap.size + 1 ≤ W1.heap.size := by rw [eW1]; simp
    have hown1 : W1.ownsRow (w.heap.size + 1) 4 1 (.slice (some ⟨w.heap.size + 1, 0, none⟩) 1 (54 + 8 * l.length)) 1 ([false].map Value.bool) := by
      rw [eW1]; simpa using own_made (w := w.alloc (.cells #[.int .u32 id, .bool false, .slice A l.length cap] 35)) (base := w.heap.size + 1) (e := 4) (z := .bool false) 1 (54 + 8 * l.length) (by omega) (by omega) (by simp)
    have HO1 := Lib.hid hown1; clear hown1
    have K1 := Below.refl (w.heap.size + 1) W1
    have q0 : W1.cell? ⟨w.heap.size, 0, none⟩ = some (.int .u32 id) := by rw [eW1]; simp
    have q1 : W1.cell? ⟨w.heap.size, 1, none⟩ = some (.bool false) := by rw [eW1]; simp
    have q2 : W1.cell? ⟨w.heap.size, 2, none⟩ = some (.slice A l.length cap) := by rw [eW1]; simp
    have hBW : Below w.heap.size w W1 := by rw [eW1]; exact (by repeat' (first | (with_reducible assumption) | (with_reducible refine Below.setCell ?_ ?_ _) | (with_reducible refine Below.alloc ?_ ?_ _) | (with_reducible refine Below.drew ?_) | (with_reducible refine below_drewN ?_ _) | (with_reducible exact Below.refl _ _) | (show _ ≤ _; (try simp); (try omega); done) | exact Below.refl _ _ | assumption))
    have EW1 := Lib.hid eW1; clear eW1
    have e5 : (54 + 8 * (l.length : Int)).toNat = 54 + 8 * l.length := by omega
    have E5 := Lib.hid e5; clear e5
    go_enter Try.func35, Try.ntmps35
    go_wp2_with fail
    rw [← EW1.out]
    refine (putK.put_any (w.heap.size + 1) _ ([false]) _ 11 11 _ HO1.out hW1 rfl (by omega) (by omega) (by omega) (by simp)).mono ?_
    rintro e w2 ⟨v2, rfl, hown2, hb2⟩
    have K2 : Below (w.heap.size + 1) W1 w2 := K1.trans hb2
    have HO2 := Lib.hid hown2
    have hz2 := K2.size
    have hB2 : w.heap.size + 1 ≤ w2.heap.size := Nat.le_trans hW1 hz2
    obtain ⟨hc2, hf2⟩ := bcell K2
    clear hown2 hb2  HO1
    go_wp2_with fail
    refine (putK.put_any (w.heap.size + 1) _ ([false] ++ msb id 11) _ 3 3 _ HO2.out hB2 rfl (by omega) (by omega) (by omega) (by first | omega | (simp [msb_length]))).mono ?_
    rintro e w3 ⟨v3, rfl, hown3, hb3⟩
    have K3 : Below (w.heap.size + 1) W1 w3 := K2.trans hb3
    have HO3 := Lib.hid hown3
    have hz3 := K3.size
    have hB3 : w.heap.size + 1 ≤ w3.heap.size := Nat.le_trans hW1 hz3
    obtain ⟨hc3, hf3⟩ := bcell K3
    clear hown3 hb3 hc2 hf2 hz2 hB2 HO2
    go_wp2_with fail
    refine (putK.put_any (w.heap.size + 1) _ ([false] ++ msb id 11 ++ msb 0 3) _ 4 4 _ HO3.out hB3 rfl (by omega) (by omega) (by omega) (by first | omega | (simp [msb_length]))).mono ?_
    rintro e w4 ⟨v4, rfl, hown4, hb4⟩
    have K4 : Below (w.heap.size + 1) W1 w4 := K3.trans hb4
    have HO4 := Lib.hid hown4
    have hz4 := K4.size
    have hB4 : w.heap.size + 1 ≤ w4.heap.size := Nat.le_trans hW1 hz4
    obtain ⟨hc4, hf4⟩ := bcell K4
    clear hown4 hb4 hc3 hf3 hz3 hB3 HO3
    obtain ⟨pre, hpre⟩ : ∃ pre, pre = [false] ++ headF id false ++ msb l.length 4 := ⟨_, rfl⟩
    have hpl : pre.length ≤ 39 := by rw [hpre]; simp [headF_length, msb_length]
    have HO : Hid (w4.ownsRow (w.heap.size + 1) 4 1 v4 (pre ++ dataF (l.take 0)).length ((pre ++ dataF (l.take 0)).map Value.bool)) := by
      rw [hpre]; simpa [Hid, dataF, headF, List.append_assoc] using HO4.out
    have HPRE := Lib.hid hpre; clear hpre
    clear HO4
    go_wp2
    clear hc4 hf4
    go_loopw [4, 6, 62] (fun o _ i wr => ∃ k : Nat, k ≤ l.length ∧ i = .int .i64 k ∧ wr.ownsRow (w.heap.size + 1) 4 1 o (pre ++ dataF (l.take k)).length ((pre ++ dataF (l.take k)).map Value.bool) ∧ Below (w.heap.size + 1) W1 wr) (fun _ _ i _ => l.length - (intOf i).toNat)
    case atStart => exact ⟨0, Nat.zero_le _, rfl, HO.out, K4⟩
    case round =>
      clear HO K4 hz4 hB4
      obtain ⟨k, hk, rfl, hown, K⟩ := hrel
      have hBr : w.heap.size + 1 ≤ wr.heap.size := Nat.le_trans hW1 K.size
      have hdl : (dataF (l.take k)).length ≤ 64 := by rw [dataF_length, List.length_take]; omega
      have hpl2 : (pre ++ dataF (l.take k)).length ≤ 1000 := by rw [List.length_append]; omega
      have HO := Lib.hid hown; clear hown
      have HPL := Lib.hid hpl2; clear hpl2
      by_cases hlt : k < l.length
      · obtain ⟨b, off, rfl, hbb, hc0⟩ := HS.out.at_ hlt
        have hc : wr.cell? ⟨b, off + k, none⟩ = some (.int .u8 l[k]) := ((hBW.trans (K.mono (by omega))).cell (p := ⟨b, off + k, none⟩) hbb).trans hc0
        clear hc0
        have hk1 := (hb l[k] (List.getElem_mem hlt)).1
        have hk2 := (hb l[k] (List.getElem_mem hlt)).2
        go_wp2_with fail
        refine (putK.put_any (w.heap.size + 1) _ (pre ++ dataF (l.take k)) _ 8 8 _ HO.out hBr rfl (by omega) (by first | omega | (rw [IntKind.wrap_u32']; omega)) (by first | omega | (rw [IntKind.wrap_u32']; omega)) (by have := HPL.out; omega)).mono ?_
        rintro e w9 ⟨v9, rfl, hown9, hb9⟩
        have hs := dataF_snoc l k hlt
        have HN : Hid (w9.ownsRow (w.heap.size + 1) 4 1 v9 (pre ++ dataF (l.take (k + 1))).length ((pre ++ dataF (l.take (k + 1))).map Value.bool)) := by
          rw [← hs, ← List.append_assoc]; exact hown9
        have K9 := K.trans hb9
        clear hs hown9 hb9 hc HO
        go_wp2
        go_roundw
        case rel => exact ⟨k + 1, by omega, by go_num, HN.out, K9⟩
        case measure => first | (simp [intOf]; done) | (simp [intOf]; omega)
      · obtain rfl : k = l.length := by omega
        rw [List.take_of_length_le (Nat.le_refl _)] at HO HPL
        go_wp2_with fail
        refine (crcK.sum_any _ (pre ++ dataF l) _ (Sl.of_own HO.out)).mono ?_
        rintro e w9 ⟨rfl, hb9⟩
        have HO9 := Lib.hid (own_kept HO.out hb9)
        have K9 := K.trans (hb9.mono hBr)
        have hB9 : w.heap.size + 1 ≤ w9.heap.size := Nat.le_trans hBr hb9.size
        have hcb := crcS_bd (pre ++ dataF l)
        obtain ⟨hcb1, hcb2⟩ := hcb
        go_wp2_with fail
        refine (putK.put_any (w.heap.size + 1) _ (pre ++ dataF l) _ 15 15 _ HO9.out hB9 rfl (by omega) (by first | omega | (rw [IntKind.wrap_u32']; omega)) (by first | omega | (rw [IntKind.wrap_u32']; omega)) (by have := HPL.out; omega)).mono ?_
        rintro e w10 ⟨v10, rfl, hown10, hb10⟩
        have HN := Lib.hid hown10; clear hown10
        go_wp2
        go_ret2
        refine ⟨_, rfl, ?_, hBW.trans ((K9.trans hb10).mono (by omega))⟩
        have e1 : bitsF id false l = pre ++ dataF l ++ msb (crcS (pre ++ dataF l)) 15 := by rw [HPRE.out]; rfl
        rw [e1]
        exact own_base HN.out (by omega)
  · clear h'
    obtain ⟨W1, eW1⟩ : ∃ W1, W1 = (w.alloc (.cells #[.int .u32 id, .bool true, .slice A l.length cap] 35)).alloc (.cells (madeCells #[.bool false] (54 + 8 * l.length)) 4) := ⟨_, rfl⟩
    have hW1 : w.heap.size + 1 ≤ W1.heap.size := by rw [eW1]; simp
    have hown1 : W1.ownsRow (w.heap.size + 1) 4 1 (.slice (some ⟨w.heap.size + 1, 0, none⟩) 1 (54 + 8 * l.length)) 1 ([false].map Value.bool) := by
      rw [eW1]; simpa using own_made (w := w.alloc (.cells #[.int .u32 id, .bool true, .slice A l.length cap] 35)) (base := w.heap.size + 1) (e := 4) (z := .bool false) 1 (54 + 8 * l.length) (by omega) (by omega) (by simp)
    have HO1 := Lib.hid hown1; clear hown1
    have K1 := Below.refl (w.heap.size + 1) W1
    have q0 : W1.cell? ⟨w.heap.size, 0, none⟩ = some (.int .u32 id) := by rw [eW1]; simp
    have q1 : W1.cell? ⟨w.heap.size, 1, none⟩ = some (.bool true) := by rw [eW1]; simp
    have q2 : W1.cell? ⟨w.heap.size, 2, none⟩ = some (.slice A l.length cap) := by rw [eW1]; simp
    have hBW : Below w.heap.size w W1 := by rw [eW1]; exact (by repeat' (first | (with_reducible assumption) | (with_reducible refine Below.setCell ?_ ?_ _) | (with_reducible refine Below.alloc ?_ ?_ _) | (with_reducible refine Below.drew ?_) | (with_reducible refine below_drewN ?_ _) | (with_reducible exact Below.refl _ _) | (show _ ≤ _; (try simp); (try omega); done) | exact Below.refl _ _ | assumption))
    have EW1 := Lib.hid eW1; clear eW1
    have e5 : (54 + 8 * (l.length : Int)).toNat = 54 + 8 * l.length := by omega
    have E5 := Lib.hid e5; clear e5
    go_enter Try.func35, Try.ntmps35
    go_wp2_with fail
    rw [← EW1.out]
    refine (putK.put_any (w.heap.size + 1) _ ([false]) _ 11 11 _ HO1.out hW1 rfl (by omega) (by omega) (by omega) (by simp)).mono ?_
    rintro e w2 ⟨v2, rfl, hown2, hb2⟩
    have K2 : Below (w.heap.size + 1) W1 w2 := K1.trans hb2
    have HO2 := Lib.hid hown2
    have hz2 := K2.size
    have hB2 : w.heap.size + 1 ≤ w2.heap.size := Nat.le_trans hW1 hz2
    obtain ⟨hc2, hf2⟩ := bcell K2
    clear hown2 hb2  HO1
    go_wp2_with fail
    refine (putK.put_any (w.heap.size + 1) _ ([false] ++ msb (id / 262144) 11) _ 2 2 _ HO2.out hB2 rfl (by omega) (by omega) (by omega) (by first | omega | (simp [msb_length]))).mono ?_
    rintro e w3 ⟨v3, rfl, hown3, hb3⟩
    have K3 : Below (w.heap.size + 1) W1 w3 := K2.trans hb3
    have HO3 := Lib.hid hown3
    have hz3 := K3.size
    have hB3 : w.heap.size + 1 ≤ w3.heap.size := Nat.le_trans hW1 hz3
    obtain ⟨hc3, hf3⟩ := bcell K3
    clear hown3 hb3 hc2 hf2 hz2 hB2 HO2
    go_wp2_with fail
    refine (putK.put_any (w.heap.size + 1) _ ([false] ++ msb (id / 262144) 11 ++ msb 3 2) _ 18 18 _ HO3.out hB3 rfl (by omega) (by omega) (by omega) (by first | omega | (simp [msb_length]))).mono ?_
    rintro e w4 ⟨v4, rfl, hown4, hb4⟩
    have K4 : Below (w.heap.size + 1) W1 w4 := K3.trans hb4
    have HO4 := Lib.hid hown4
    have hz4 := K4.size
    have hB4 : w.heap.size + 1 ≤ w4.heap.size := Nat.le_trans hW1 hz4
    obtain ⟨hc4, hf4⟩ := bcell K4
    clear hown4 hb4 hc3 hf3 hz3 hB3 HO3
    go_wp2_with fail
    refine (putK.put_any (w.heap.size + 1) _ ([false] ++ msb (id / 262144) 11 ++ msb 3 2 ++ msb id 18) _ 3 3 _ HO4.out hB4 rfl (by omega) (by omega) (by omega) (by first | omega | (simp [msb_length]))).mono ?_
    rintro e w5 ⟨v5, rfl, hown5, hb5⟩
    have K5 : Below (w.heap.size + 1) W1 w5 := K4.trans hb5
    have HO5 := Lib.hid hown5
    have hz5 := K5.size
    have hB5 : w.heap.size + 1 ≤ w5.heap.size := Nat.le_trans hW1 hz5
    obtain ⟨hc5, hf5⟩ := bcell K5
    clear hown5 hb5 hc4 hf4 hz4 hB4 HO4
    go_wp2_with fail
    refine (putK.put_any (w.heap.size + 1) _ ([false] ++ msb (id / 262144) 11 ++ msb 3 2 ++ msb id 18 ++ msb 0 3) _ 4 4 _ HO5.out hB5 rfl (by omega) (by omega) (by omega) (by first | omega | (simp [msb_length]))).mono ?_
    rintro e w6 ⟨v6, rfl, hown6, hb6⟩
    have K6 : Below (w.heap.size + 1) W1 w6 := K5.trans hb6
    have HO6 := Lib.hid hown6
    have hz6 := K6.size
    have hB6 : w.heap.size + 1 ≤ w6.heap.size := Nat.le_trans hW1 hz6
    obtain ⟨hc6, hf6⟩ := bcell K6
    clear hown6 hb6 hc5 hf5 hz5 hB5 HO5
    obtain ⟨pre, hpre⟩ : ∃ pre, pre = [false] ++ headF id true ++ msb l.length 4 := ⟨_, rfl⟩
    have hpl : pre.length ≤ 39 := by rw [hpre]; simp [headF_length, msb_length]
    have HO : Hid (w6.ownsRow (w.heap.size + 1) 4 1 v6 (pre ++ dataF (l.take 0)).length ((pre ++ dataF (l.take 0)).map Value.bool)) := by
      rw [hpre]; simpa [Hid, dataF, headF, List.append_assoc] using HO6.out
    have HPRE := Lib.hid hpre; clear hpre
    clear HO6
    go_wp2
    clear hc6 hf6
    go_loopw [4, 6, 62] (fun o _ i wr => ∃ k : Nat, k ≤ l.length ∧ i = .int .i64 k ∧ wr.ownsRow (w.heap.size + 1) 4 1 o (pre ++ dataF (l.take k)).length ((pre ++ dataF (l.take k)).map Value.bool) ∧ Below (w.heap.size + 1) W1 wr) (fun _ _ i _ => l.length - (intOf i).toNat)
    case atStart => exact ⟨0, Nat.zero_le _, rfl, HO.out, K6⟩
    case round =>
      clear HO K6 hz6 hB6
      obtain ⟨k, hk, rfl, hown, K⟩ := hrel
      have hBr : w.heap.size + 1 ≤ wr.heap.size := Nat.le_trans hW1 K.size
      have hdl : (dataF (l.take k)).length ≤ 64 := by rw [dataF_length, List.length_take]; omega
      have hpl2 : (pre ++ dataF (l.take k)).length ≤ 1000 := by rw [List.length_append]; omega
      have HO := Lib.hid hown; clear hown
      have HPL := Lib.hid hpl2; clear hpl2
      by_cases hlt : k < l.length
      · obtain ⟨b, off, rfl, hbb, hc0⟩ := HS.out.at_ hlt
        have hc : wr.cell? ⟨b, off + k, none⟩ = some (.int .u8 l[k]) := ((hBW.trans (K.mono (by omega))).cell (p := ⟨b, off + k, none⟩) hbb).trans hc0
        clear hc0
        have hk1 := (hb l[k] (List.getElem_mem hlt)).1
        have hk2 := (hb l[k] (List.getElem_mem hlt)).2
        go_wp2_with fail
        refine (putK.put_any (w.heap.size + 1) _ (pre ++ dataF (l.take k)) _ 8 8 _ HO.out hBr rfl (by omega) (by first | omega | (rw [IntKind.wrap_u32']; omega)) (by first | omega | (rw [IntKind.wrap_u32']; omega)) (by have := HPL.out; omega)).mono ?_
        rintro e w9 ⟨v9, rfl, hown9, hb9⟩
        have hs := dataF_snoc l k hlt
        have HN : Hid (w9.ownsRow (w.heap.size + 1) 4 1 v9 (pre ++ dataF (l.take (k + 1))).length ((pre ++ dataF (l.take (k + 1))).map Value.bool)) := by
          rw [← hs, ← List.append_assoc]; exact hown9
        have K9 := K.trans hb9
        clear hs hown9 hb9 hc HO
        go_wp2
        go_roundw
        case rel => exact ⟨k + 1, by omega, by go_num, HN.out, K9⟩
        case measure => first | (simp [intOf]; done) | (simp [intOf]; omega)
      · obtain rfl : k = l.length := by omega
        rw [List.take_of_length_le (Nat.le_refl _)] at HO HPL
        go_wp2_with fail
        refine (crcK.sum_any _ (pre ++ dataF l) _ (Sl.of_own HO.out)).mono ?_
        rintro e w9 ⟨rfl, hb9⟩
        have HO9 := Lib.hid (own_kept HO.out hb9)
        have K9 := K.trans (hb9.mono hBr)
        have hB9 : w.heap.size + 1 ≤ w9.heap.size := Nat.le_trans hBr hb9.size
        have hcb := crcS_bd (pre ++ dataF l)
        obtain ⟨hcb1, hcb2⟩ := hcb
        go_wp2_with fail
        refine (putK.put_any (w.heap.size + 1) _ (pre ++ dataF l) _ 15 15 _ HO9.out hB9 rfl (by omega) (by first | omega | (rw [IntKind.wrap_u32']; omega)) (by first | omega | (rw [IntKind.wrap_u32']; omega)) (by have := HPL.out; omega)).mono ?_
        rintro e w10 ⟨v10, rfl, hown10, hb10⟩
        have HN := Lib.hid hown10; clear hown10
        go_wp2
        go_ret2
        refine ⟨_, rfl, ?_, hBW.trans ((K9.trans hb10).mono (by omega))⟩
        have e1 : bitsF id true l = pre ++ dataF l ++ msb (crcS (pre ++ dataF l)) 15 := by rw [HPRE.out]; rfl
        rw [e1]
        exact own_base HN.out (by omega)
end bitsW
end Go.Proofs.Ytomkgnlooheibaa
