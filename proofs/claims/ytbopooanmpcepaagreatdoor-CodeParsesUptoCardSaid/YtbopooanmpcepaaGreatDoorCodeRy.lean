/- right, where there are fields. No condition. -/
import Derived.Test.YtbopooanmpcepaaGreatDoorCodeR
import Derived.Deep.RegionLaw
namespace Go.Proofs.YtbopooanmpcepaaGreatDoor
open Go.RowKit Go.Bus Go.Bus.cellK Go.Bus.codeK
set_option linter.unusedVariables false
set_option linter.unusedSimpArgs false
namespace codeW
set_option maxRecDepth 100000 in
set_option maxHeartbeats 3000000 in
theorem right_yes {x : Ins} {fs : List Fk} {mv : Value} (w : World) (hM : MadeE w (Old w.heap.size) mv) (hf : fieldsOf x.op = some fs) (hx : x.Ok) : Calls Tryz.prog 15 #[mv, .agg (insC x).toArray] w fun e w' => e = .returned (.bool (rightB x)) ∧ Below w.heap.size w w' := by
  have HRB : Hid (rightB x = (fs.all (okF · x) && decide (setAll fs x (zero x.op) = x))) := Lib.hid (by unfold rightB; rw [hf])
  have HX := Lib.hid hx; clear hx
  have HFO := Lib.hid (fields_ok hf)
  have hfl := fields_len hf
  have HBY := Lib.hid (fun i (hi : fs[i]? = some Fk.bytes) => bytes_at hf hi)
  obtain ⟨X, hX⟩ : ∃ X, X = x := ⟨_, rfl⟩
  have HXX := Lib.hid hX
  obtain ⟨op, a, b, n, imm⟩ := x
  have HF := Lib.hid hf; clear hf
  have HM := Lib.hid hM; clear hM
  clear hX
  unfold insC
  go_enter Tryz.func15, Tryz.ntmps15
  go_wp2_with (go_at_call 16; refine (of_yes _ (HM.out.old (by repeat' (first | (with_reducible assumption) | (with_reducible refine Below.setCell ?_ ?_ _) | (with_reducible refine Below.alloc ?_ ?_ _) | (with_reducible refine Below.drew ?_) | (with_reducible refine below_drewN ?_ _) | (with_reducible exact Below.refl _ _) | (show _ ≤ _; (try simp); (try omega); done) | exact Below.refl _ _ | assumption))) HF.out).mono ?_; rintro e w1 ⟨v, rfl, hS, hB, _⟩; obtain ⟨A, cap, rfl, hcap, hmax⟩ := hS.form; have hH : Has w1 w.heap.size 24 #[.int .i64 op, .int .i64 a, .int .i64 b, .int .i64 n, .int .u64 imm] := (Has.new w _ _).below hB (by simp); have k0 : w1.cell? ⟨w.heap.size, 0, none⟩ = some (.int .i64 op) := hH.cell 0; have k1 : w1.cell? ⟨w.heap.size, 1, none⟩ = some (.int .i64 a) := hH.cell 1; have k2 : w1.cell? ⟨w.heap.size, 2, none⟩ = some (.int .i64 b) := hH.cell 2; have k3 : w1.cell? ⟨w.heap.size, 3, none⟩ = some (.int .i64 n) := hH.cell 3; have k4 : w1.cell? ⟨w.heap.size, 4, none⟩ = some (.int .u64 imm) := hH.cell 4; have zz : w.heap.size < w1.heap.size := hH.lt; have HB00 : Hid (Below w.heap.size w w1) := Lib.hid (Below.trans (by repeat' (first | (with_reducible assumption) | (with_reducible refine Below.setCell ?_ ?_ _) | (with_reducible refine Below.alloc ?_ ?_ _) | (with_reducible refine Below.drew ?_) | (with_reducible refine below_drewN ?_ _) | (with_reducible exact Below.refl _ _) | (show _ ≤ _; (try simp); (try omega); done) | exact Below.refl _ _ | assumption)) (hB.mono (by (try simp); (try omega)))); have HS := Lib.hid hS; have HB := Lib.hid hB; have HH := Lib.hid hH; clear hS hB hH hmax)
  obtain ⟨G, hG⟩ : ∃ G, G = w1.heap.size := ⟨_, rfl⟩
  have HG := Lib.hid hG
  have hW0 : Wr (w1.alloc (.cells #[.slice none 0 0, .int .i64 op, .int .i64 a, .int .i64 b, .int .i64 n, .int .u64 imm] 71)) w1.heap.size (w1.heap.size + 1) (.slice none 0 0) [] ⟨op, a, b, n, imm⟩ := ⟨Has.new w1 _ _, World.ownsRow_nil _ _ _ _⟩
  have HW0 := Lib.hid hW0
  have HB0 : Hid (Below w1.heap.size w1 (w1.alloc (.cells #[.slice none 0 0, .int .i64 op, .int .i64 a, .int .i64 b, .int .i64 n, .int .u64 imm] 71))) := Lib.hid ((Below.refl _ _).alloc (Nat.le_refl _) _)
  clear hW0 hG
  go_loopw [27] (fun i wr => ∃ (k : Nat) (bv : Value), k ≤ fs.length ∧ i = .int .i64 (k : Nat) ∧ Hid (Wr wr w1.heap.size (w1.heap.size + 1) bv ((fs.take k).flatMap (wrF · ⟨op, a, b, n, imm⟩)) ⟨op, a, b, n, imm⟩) ∧ Hid (∀ f ∈ fs.take k, okF f ⟨op, a, b, n, imm⟩ = true) ∧ Hid (Below w1.heap.size w1 wr)) (fun i _ => fs.length - (intOf i).toNat)
  case atStart => exact ⟨0, _, Nat.zero_le _, rfl, HW0, Lib.hid (by simp), HB0⟩
  case round =>
    obtain ⟨k, bv, hk, rfl, HW, HOK, HBr⟩ := hrel
    clear HW0 HB0
    have hz1 : w1.heap.size < wr.heap.size := HW.out.1.lt
    have z0 : w.heap.size < wr.heap.size := by omega
    have hHr := HH.out.below HBr.out zz
    have HHr := Lib.hid hHr
    have q0 : wr.cell? ⟨w.heap.size, 0, none⟩ = some (.int .i64 op) := hHr.cell 0
    have q1 : wr.cell? ⟨w.heap.size, 1, none⟩ = some (.int .i64 a) := hHr.cell 1
    have q2 : wr.cell? ⟨w.heap.size, 2, none⟩ = some (.int .i64 b) := hHr.cell 2
    have q3 : wr.cell? ⟨w.heap.size, 3, none⟩ = some (.int .i64 n) := hHr.cell 3
    have q4 : wr.cell? ⟨w.heap.size, 4, none⟩ = some (.int .u64 imm) := hHr.cell 4
    clear hHr k0 k1 k2 k3 k4
    have HSr := Lib.hid (HS.out.belowF FieldE_mono (fun b hb => hb) HBr.out)
    by_cases hlt : k < fs.length
    · obtain ⟨fb, off, c0, c1, c2, c3, c4, rfl, hbG, hE, e0, e1, e2, e3, e4⟩ := slk_get HSr.out hlt
      obtain ⟨f, hfk⟩ : ∃ f, f = fs[k] := ⟨_, rfl⟩
      rw [← hfk] at hE
      have hfm : f ∈ fs := by rw [hfk]; exact List.getElem_mem hlt
      have hfok := HFO.out f hfm
      obtain ⟨fn0, cap0, fn1, cap1, fn2, cap2, fn3, cap3, fn4, cap4, rfl, rfl, rfl, rfl, rfl, hcf0, hcf1, hcf2⟩ := field_shape hE
      have hby : f = .bytes → 0 ≤ b ∧ b ≤ 7 := by
        intro hfb
        obtain ⟨rfl, h1⟩ := HBY.out k (by rw [List.getElem?_eq_getElem hlt, ← hfk, hfb])
        have h2 : codeK.start ∈ fs.take 2 := by
          obtain ⟨hl1, hv⟩ := List.getElem?_eq_some_iff.1 h1
          rw [← hv]
          exact List.mem_iff_getElem.2 ⟨1, by simp; omega, by rw [List.getElem_take]⟩
        have h3 := HOK.out _ h2
        simp only [okF, codeK.start, Bool.and_eq_true, decide_eq_true_eq] at h3
        exact h3
      have HE := Lib.hid hE
      have HFK := Lib.hid hfk
      have HFM := Lib.hid hfm
      have HFOK := Lib.hid hfok
      have HBYT := Lib.hid hby
      have zb : fb < wr.heap.size := Nat.lt_trans hbG hz1
      have HbG : Hid (fb < w1.heap.size) := Lib.hid hbG
      have hbl : Below w1.heap.size wr (wr.alloc (.cells #[.func (.func fn0) #[] cap0, .func (.func fn1) #[] cap1, .func (.func fn2) #[] cap2, .func (.func fn3) #[] cap3, .func (.func fn4) #[] cap4] 57)) := (Below.refl _ _).alloc (Nat.le_of_lt hz1) _
      have HC0 := Lib.hid (Do.calls (ok_do (x := ⟨op, a, b, n, imm⟩) (HE.out.below hbl) hfok hby))
      have HBL := Lib.hid hbl
      have HOKB : Hid True := Lib.hid trivial
      clear hE hfk hfm hfok hby hbl hbG HOKB
      unfold Okd insC at HC0
      cases hok : okF f ⟨op, a, b, n, imm⟩ with
      | false =>
        rw [hok] at HC0
        have HNO : Hid (rightB ⟨op, a, b, n, imm⟩ = false) := Lib.hid (by rw [HRB.out]; rw [show fs.all (okF · ⟨op, a, b, n, imm⟩) = false from by rw [List.all_eq_false]; exact ⟨f, HFM.out, by rw [hok]; decide⟩]; rfl)
        clear hok
        go_wp2_with (refine HC0.out.mono ?_; rintro e w2 ⟨rfl, hB2⟩; have HB2 := Lib.hid hB2; clear hB2)
        go_ret
        exact ⟨by rw [HNO.out]; rfl, HB00.out.trans ((HBr.out.trans (HBL.out.trans (HB2.out.mono (by simp; omega)))).mono (Nat.le_of_lt zz))⟩
      | true =>
        rw [hok] at HC0
        have HOKF := Lib.hid hok; clear hok
        have HLEN : Hid (((fs.take k).flatMap (wrF · ⟨op, a, b, n, imm⟩) ++ wrF f ⟨op, a, b, n, imm⟩).length ≤ 1000000) := Lib.hid (by
          have h1 := flat_len _ HX.out (fs.take k) HOK.out
          have h2 := wr_len f _ HX.out HOKF.out
          rw [List.length_take] at h1
          rw [List.length_append]
          omega)
        go_wp2_with (first
          | (refine HC0.out.mono ?_; rintro e w2 ⟨rfl, hB2⟩; have hb2 : Below wr.heap.size wr w2 := Below.trans ((Below.refl _ _).alloc (Nat.le_refl _) _) (hB2.mono (by simp)); have hj : Has w2 wr.heap.size 57 #[.func (.func fn0) #[] cap0, .func (.func fn1) #[] cap1, .func (.func fn2) #[] cap2, .func (.func fn3) #[] cap3, .func (.func fn4) #[] cap4] := (Has.new wr _ _).below hB2 (by simp); have j1 : w2.cell? ⟨wr.heap.size, 1, none⟩ = some (.func (.func fn1) #[] cap1) := hj.cell 1; have zr : wr.heap.size < w2.heap.size := hj.lt; have hW2 := HW.out.below hb2; have HC1 := Lib.hid (Do.calls (wr_do (HE.out.below (hb2.mono (Nat.le_of_lt hz1))) HFOK.out HOKF.out HX.out hW2 (Nat.lt_succ_self _) (by omega) HLEN.out)); have HB2 := Lib.hid hb2; clear hB2 hb2 hj hW2)
          | (refine HC1.out.mono ?_; rintro e w3 ⟨⟨u, rfl⟩, bv', hW3, hR3⟩; have HW3 := Lib.hid hW3; have HR3 := Lib.hid hR3; clear hW3 hR3))
        go_roundw
        case rel =>
          refine ⟨k + 1, bv', by omega, by go_num, Lib.hid ?_, Lib.hid ?_, Lib.hid ?_⟩
          · rw [take_flat fs _ hlt, ← HFK.out]; exact HW3.out
          · intro f' hf'
            rw [List.take_succ_eq_append_getElem hlt] at hf'
            rcases List.mem_append.1 hf' with h1 | h1
            · exact HOK.out _ h1
            · simp at h1; rw [h1, ← HFK.out]; exact HOKF.out
          · exact HBr.out.trans ((HB2.out.mono (Nat.le_of_lt hz1)).trans (HR3.out.below (Nat.le_refl _) (by omega) (fun j hj => by have := (HW.out.2.lt j hj).1; omega)))
        case measure => simp [intOf]; omega
    · obtain rfl : k = fs.length := by omega
      rw [List.take_length] at HW HOK
      obtain ⟨wo, rfl⟩ : ∃ wo : World, wo = wr := ⟨_, rfl⟩
      have HBYS : Hid (∀ c ∈ fs.flatMap (wrF · ⟨op, a, b, n, imm⟩), Byte c) := Lib.hid (fun c hc => by
        obtain ⟨f, hf, hc⟩ := List.mem_flatMap.1 hc
        exact wr_byte (HFO.out f hf) (HOK.out f hf) c hc)
      obtain ⟨bA, bn, bc, rfl⟩ : ∃ A n c, bv = .slice A n c := by obtain ⟨A, c, h⟩ := own_slice HW.out.2; exact ⟨A, _, c, h⟩
      have HSL := Lib.hid (Sl.of_own HW.out.2)
      have e0 : wo.cell? ⟨w1.heap.size, 0, none⟩ = some (.slice bA bn bc) := HW.out.1.cell 0
      have ef : wo.frozen? ⟨w1.heap.size, 0, none⟩ = false := HW.out.1.frozen 0
      go_wp2_with fail
      go_region_law (fail)
      all_goals
        have hRd0 : RdH (wo.drew.alloc (.cells #[.slice bA bn bc, .int .i64 0, .int .i64 op, .int .i64 0, .int .i64 0, .int .i64 0, .int .u64 0, .nilIface] 82)) wo.heap.size (.slice bA bn bc) 0 (zero op) .nilIface := Has.new wo.drew _ _
        have HRd0 := Lib.hid hRd0
        clear hRd0
        have HO0 : Hid (Only wo.heap.size wo (wo.drew.alloc (.cells #[.slice bA bn bc, .int .i64 0, .int .i64 op, .int .i64 0, .int .i64 0, .int .i64 0, .int .u64 0, .nilIface] 82))) := Lib.hid (Only.of_below ((Below.refl _ _).drew.alloc (Nat.le_refl _) _) (Nat.le_refl _))
        go_wp2
        go_loopw [52] (fun i wr => ∃ k : Nat, k ≤ fs.length ∧ i = .int .i64 (k : Nat) ∧ Hid (RdH wr wo.heap.size (.slice bA bn bc) ((fs.take k).flatMap (wrF · ⟨op, a, b, n, imm⟩)).length (setAll (fs.take k) ⟨op, a, b, n, imm⟩ (zero op)) .nilIface) ∧ Hid (Only wo.heap.size wo wr)) (fun i _ => fs.length - (intOf i).toNat)
        case atStart => exact ⟨0, Nat.zero_le _, rfl, HRd0, HO0⟩
        case round =>
          obtain ⟨k, hk2, rfl, HRq, HOq⟩ := hrel
          clear HRd0 HO0
          have zq : wo.heap.size < wr.heap.size := Has.lt HRq.out
          have hBq := HOq.out.below
          have hHq := HHr.out.below hBq z0
          have p0 : wr.cell? ⟨w.heap.size, 0, none⟩ = some (.int .i64 op) := hHq.cell 0
          have p1 : wr.cell? ⟨w.heap.size, 1, none⟩ = some (.int .i64 a) := hHq.cell 1
          have p2 : wr.cell? ⟨w.heap.size, 2, none⟩ = some (.int .i64 b) := hHq.cell 2
          have p3 : wr.cell? ⟨w.heap.size, 3, none⟩ = some (.int .i64 n) := hHq.cell 3
          have p4 : wr.cell? ⟨w.heap.size, 4, none⟩ = some (.int .u64 imm) := hHq.cell 4
          have zw : w.heap.size < wr.heap.size := by omega
          have HSq := Lib.hid (HSr.out.belowF FieldE_mono (fun b hb => hb) (hBq.mono (Nat.le_of_lt hz1)))
          have HBq := Lib.hid hBq
          clear hHq hBq q0 q1 q2 q3 q4 e0 ef
          by_cases hlt2 : k < fs.length
          · obtain ⟨fb, off, c0, c1, c2, c3, c4, rfl, hbG, hE, e0, e1, e2, e3, e4⟩ := slk_get HSq.out hlt2
            obtain ⟨f, hfk⟩ : ∃ f, f = fs[k] := ⟨_, rfl⟩
            rw [← hfk] at hE
            have hfm : f ∈ fs := by rw [hfk]; exact List.getElem_mem hlt2
            obtain ⟨fn0, cap0, fn1, cap1, fn2, cap2, fn3, cap3, fn4, cap4, rfl, rfl, rfl, rfl, rfl, hcf0, hcf1, hcf2⟩ := field_shape hE
            have zb : fb < wr.heap.size := by have : fb < w1.heap.size := hbG; omega
            have hbl : Below wr.heap.size wr (wr.alloc (.cells #[.func (.func fn0) #[] cap0, .func (.func fn1) #[] cap1, .func (.func fn2) #[] cap2, .func (.func fn3) #[] cap3, .func (.func fn4) #[] cap4] 57)) := (Below.refl _ _).alloc (Nat.le_refl _) _
            have hdr := drop_flat fs ⟨op, a, b, n, imm⟩ hlt2
            have hpl : ((fs.take k).flatMap (wrF · ⟨op, a, b, n, imm⟩)).length ≤ (fs.flatMap (wrF · ⟨op, a, b, n, imm⟩)).length := flat_take_le _ _ _
            have HC2 := Lib.hid (Do.calls (rd_do (hE.below (hbl.mono (by omega))) (HFO.out f hfm) (by show ¬ (wo.heap.size < w1.heap.size); omega) (by exact Has.alloc HRq.out _) ((HSL.out.below HBq.out).below (hbl.mono (Nat.le_of_lt zq))) hpl HBYS.out))
            have hrw := rd_wr (HOK.out f hfm) HX.out (setAll (fs.take k) ⟨op, a, b, n, imm⟩ (zero op)) ((fs.drop (k + 1)).flatMap (wrF · ⟨op, a, b, n, imm⟩))
            have HRW : Hid (rdF f ((fs.flatMap (wrF · ⟨op, a, b, n, imm⟩)).drop ((fs.take k).flatMap (wrF · ⟨op, a, b, n, imm⟩)).length) (setAll (fs.take k) ⟨op, a, b, n, imm⟩ (zero op)) = .got ((fs.drop (k + 1)).flatMap (wrF · ⟨op, a, b, n, imm⟩)) ((setAll (fs.take k) ⟨op, a, b, n, imm⟩ (zero op)).put f.wh (Ins.at_ ⟨op, a, b, n, imm⟩ f.wh))) := Lib.hid (by rw [hdr, ← hfk]; exact hrw)
            have HFK := Lib.hid hfk
            have HBL := Lib.hid hbl
            clear hE hfk hfm hbl hbG hdr hpl hrw
            go_wp2_with (refine HC2.out.mono ?_; intro e w3 h; obtain ⟨⟨u, rfl⟩, hO, hM⟩ := h; have HO3 := Lib.hid hO; have HM3 := Lib.hid hM; clear hO hM)
            go_roundw
            case rel =>
              refine ⟨k + 1, by omega, by go_num, Lib.hid ?_, Lib.hid ?_⟩
              · have hM := HM3.out
                rw [HRW.out] at hM
                simp only [] at hM
                rw [flat_rest fs _ hlt2] at hM
                rw [setAll_take fs _ _ hlt2, ← HFK.out]
                exact hM
              · exact HOq.out.trans ((Only.of_below HBL.out (Nat.le_of_lt zq)).trans HO3.out)
            case measure => simp [intOf]; omega
          · obtain rfl : k = fs.length := by omega
            rw [List.take_length] at HRq
            obtain ⟨Y, hY⟩ : ∃ Y, Y = setAll fs ⟨op, a, b, n, imm⟩ (zero op) := ⟨_, rfl⟩
            rw [← hY] at HRq
            have HY : Hid (rightB ⟨op, a, b, n, imm⟩ = decide (Y = ⟨op, a, b, n, imm⟩)) := Lib.hid (by rw [HRB.out, hY, List.all_eq_true.2 HOK.out]; rfl)
            obtain ⟨y0, y1, y2, y3, y4⟩ := Y
            clear hY
            obtain ⟨D, hD⟩ : ∃ D, D = decide ((⟨y0, y1, y2, y3, y4⟩ : Ins) = ⟨op, a, b, n, imm⟩) := ⟨_, rfl⟩
            have heq : ∀ W, (binOp .eql 24 (.agg #[.int .i64 y0, .int .i64 y1, .int .i64 y2, .int .i64 y3, .int .u64 y4]) (.agg #[.int .i64 op, .int .i64 a, .int .i64 b, .int .i64 n, .int .u64 imm])).run Tryz.prog W = .ok (.bool D) W := fun W => by rw [hD]; exact eql_ins ⟨y0, y1, y2, y3, y4⟩ ⟨op, a, b, n, imm⟩ W
            have HD := Lib.hid hD; clear hD
            have r2 : wr.cell? ⟨wo.heap.size, 2, none⟩ = some (.int .i64 y0) := Has.cell HRq.out 2
            have r3 : wr.cell? ⟨wo.heap.size, 3, none⟩ = some (.int .i64 y1) := Has.cell HRq.out 3
            have r4 : wr.cell? ⟨wo.heap.size, 4, none⟩ = some (.int .i64 y2) := Has.cell HRq.out 4
            have r5 : wr.cell? ⟨wo.heap.size, 5, none⟩ = some (.int .i64 y3) := Has.cell HRq.out 5
            have r6 : wr.cell? ⟨wo.heap.size, 6, none⟩ = some (.int .u64 y4) := Has.cell HRq.out 6
            go_wp2
            go_quiet (fail)
            go_wp2
            go_ret
            exact ⟨by rw [HY.out, ← HD.out]; rfl, HB00.out.trans (Go.Bus.below_drewN ((HBr.out.trans (HBq.out.mono (Nat.le_of_lt hz1))).mono (Nat.le_of_lt zz)) _)⟩
end codeW
end Go.Proofs.YtbopooanmpcepaaGreatDoor
