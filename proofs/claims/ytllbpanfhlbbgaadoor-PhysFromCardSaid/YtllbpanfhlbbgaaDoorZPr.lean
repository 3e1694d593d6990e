/- Texts of this claim, one behind the other. No condition but those that each states. -/
import Derived.Test.YtllbpanfhlbbgaaDoorZPn
import Derived.Test.YtllbpanfhlbbgaaDoorPhysV
import Derived.Test.YtllbpanfhlbbgaaDoorRphysT
import Derived.Test.YtllbpanfhlbbgaaDoorRawRFits

namespace Go.Proofs.YtllbpanfhlbbgaaDoor
open Go.RowKit Go.Bus Go.Rt Go.Bus.dbK Go.Bus.rawK Go.Nt
set_option linter.unusedVariables false
set_option linter.unusedSimpArgs false
namespace rphysW
open ratW physW natW
/-- The denominators' lower bounds. -/
structure RatsLo (s : Sig) : Prop where
  sd : -9223372036854775808 ≤ s.sd
  od : -9223372036854775808 ≤ s.od
  md : -9223372036854775808 ≤ s.md
  xd : -9223372036854775808 ≤ s.xd
theorem rg_1 {s : Sig} (h : sgR s = false) : rgE s = 1 := by unfold rgE; rw [h]; rfl
theorem rg_10 {s : Sig} (h : sgR s = true) (h0 : s.sn = 0) : rgE s = 10 := by unfold rgE; rw [h, if_pos rfl, if_pos h0]
theorem rg_0 {s : Sig} (h : sgR s = true) (h0 : s.sn ≠ 0) : rgE s = 0 := by unfold rgE; rw [h, if_pos rfl, if_neg h0]
set_option maxRecDepth 100000 in
set_option maxHeartbeats 2000000 in
theorem rright_sig (s : Sig) (v : Value) (w : World) (ok : RatsOk s) (lo : RatsLo s) :
    Calls Tryd.prog 21 #[.agg (csOf s v)] w fun e w' => e = .returned (.int .i64 (rgE s)) ∧ Below w.heap.size w w' := by
  obtain ⟨o1, o2, o3, o4, o5, o6, o7, o8⟩ := ok
  obtain ⟨l1, l2, l3, l4⟩ := lo
  have C1 : Hid (∀ W, Calls Tryd.prog 35 #[.agg #[.int .i64 s.sn, .int .i64 s.sd]] W fun e w' => e = .returned (.bool (rightB s.sn s.sd)) ∧ Below W.heap.size W w') := Lib.hid fun W => rright_any s.sn s.sd W o1.1 o1.2 l1 o2
  have C2 : Hid (∀ W, Calls Tryd.prog 35 #[.agg #[.int .i64 s.on, .int .i64 s.od]] W fun e w' => e = .returned (.bool (rightB s.on s.od)) ∧ Below W.heap.size W w') := Lib.hid fun W => rright_any s.on s.od W o3.1 o3.2 l2 o4
  have C3 : Hid (∀ W, Calls Tryd.prog 35 #[.agg #[.int .i64 s.mn, .int .i64 s.md]] W fun e w' => e = .returned (.bool (rightB s.mn s.md)) ∧ Below W.heap.size W w') := Lib.hid fun W => rright_any s.mn s.md W o5.1 o5.2 l3 o6
  have C4 : Hid (∀ W, Calls Tryd.prog 35 #[.agg #[.int .i64 s.xn, .int .i64 s.xd]] W fun e w' => e = .returned (.bool (rightB s.xn s.xd)) ∧ Below W.heap.size W w') := Lib.hid fun W => rright_any s.xn s.xd W o7.1 o7.2 l4 o8
  have hsg : sgR s = (rightB s.sn s.sd && rightB s.on s.od && rightB s.mn s.md && rightB s.xn s.xd) := rfl
  obtain ⟨b1, h1⟩ : ∃ b, b = rightB s.sn s.sd := ⟨_, rfl⟩
  rw [← h1] at C1 hsg
  obtain ⟨b2, h2⟩ : ∃ b, b = rightB s.on s.od := ⟨_, rfl⟩
  rw [← h2] at C2 hsg
  obtain ⟨b3, h3⟩ : ∃ b, b = rightB s.mn s.md := ⟨_, rfl⟩
  rw [← h3] at C3 hsg
  obtain ⟨b4, h4⟩ : ∃ b, b = rightB s.xn s.xd := ⟨_, rfl⟩
  rw [← h4] at C4 hsg
  have HSG := Lib.hid hsg
  obtain ⟨F, hF⟩ : ∃ F, F = rgE s := ⟨_, rfl⟩
  rw [← hF]
  have HF := Lib.hid hF
  clear o1 o2 o3 o4 o5 o6 o7 o8 l1 l2 l3 l4 hsg h1 h2 h3 h4 hF
  go_enter Tryd.func21, Tryd.ntmps21
  go_upto_region 1 with fail
  have HW0 : Hid (Has (w.alloc (Obj.cells (csOf s v) 29)) w.heap.size 29 (csOf s v) ∧ Below w.heap.size w (w.alloc (Obj.cells (csOf s v) 29))) := Lib.hid ⟨Has.new w _ _, (by repeat' (first | (with_reducible assumption) | (with_reducible refine Below.setCell ?_ ?_ _) | (with_reducible refine Below.alloc ?_ ?_ _) | (with_reducible refine Below.drew ?_) | (with_reducible refine below_drewN ?_ _) | (with_reducible exact Below.refl _ _) | (show _ ≤ _; (try simp); (try omega); done) | exact Below.refl _ _ | assumption))⟩
  generalize w.alloc (Obj.cells (csOf s v) 29) = w0 at HW0 ⊢
  have j9 : w0.cell? ⟨w.heap.size, 9, none⟩ = some (.int .i64 s.sn) := HW0.out.1.cell 9
  have j10 : w0.cell? ⟨w.heap.size, 10, none⟩ = some (.int .i64 s.sd) := HW0.out.1.cell 10
  have j11 : w0.cell? ⟨w.heap.size, 11, none⟩ = some (.int .i64 s.on) := HW0.out.1.cell 11
  have j12 : w0.cell? ⟨w.heap.size, 12, none⟩ = some (.int .i64 s.od) := HW0.out.1.cell 12
  have j13 : w0.cell? ⟨w.heap.size, 13, none⟩ = some (.int .i64 s.mn) := HW0.out.1.cell 13
  have j14 : w0.cell? ⟨w.heap.size, 14, none⟩ = some (.int .i64 s.md) := HW0.out.1.cell 14
  have j15 : w0.cell? ⟨w.heap.size, 15, none⟩ = some (.int .i64 s.xn) := HW0.out.1.cell 15
  have j16 : w0.cell? ⟨w.heap.size, 16, none⟩ = some (.int .i64 s.xd) := HW0.out.1.cell 16
  go_wp2_with fail
  refine (C1.out w0).mono ?_
  rintro e w1 ⟨rfl, hb⟩
  have HW1 : Hid (Has w1 w.heap.size 29 (csOf s v) ∧ Below w.heap.size w w1) := Lib.hid ⟨HW0.out.1.below hb HW0.out.1.lt, HW0.out.2.trans (hb.mono HW0.out.2.size)⟩
  clear hb C1 HW0
  clear j9 j10 j11 j12 j13 j14 j15 j16
  cases b1
  · have j9 : w1.cell? ⟨w.heap.size, 9, none⟩ = some (.int .i64 s.sn) := HW1.out.1.cell 9
    have j10 : w1.cell? ⟨w.heap.size, 10, none⟩ = some (.int .i64 s.sd) := HW1.out.1.cell 10
    have j11 : w1.cell? ⟨w.heap.size, 11, none⟩ = some (.int .i64 s.on) := HW1.out.1.cell 11
    have j12 : w1.cell? ⟨w.heap.size, 12, none⟩ = some (.int .i64 s.od) := HW1.out.1.cell 12
    have j13 : w1.cell? ⟨w.heap.size, 13, none⟩ = some (.int .i64 s.mn) := HW1.out.1.cell 13
    have j14 : w1.cell? ⟨w.heap.size, 14, none⟩ = some (.int .i64 s.md) := HW1.out.1.cell 14
    have j15 : w1.cell? ⟨w.heap.size, 15, none⟩ = some (.int .i64 s.xn) := HW1.out.1.cell 15
    have j16 : w1.cell? ⟨w.heap.size, 16, none⟩ = some (.int .i64 s.xd) := HW1.out.1.cell 16
    go_wp2
    go_ret
    exact ⟨by rw [HF.out, rg_1 (by rw [HSG.out]; rfl)]; rfl, HW1.out.2⟩
  have j9 : w1.cell? ⟨w.heap.size, 9, none⟩ = some (.int .i64 s.sn) := HW1.out.1.cell 9
  have j10 : w1.cell? ⟨w.heap.size, 10, none⟩ = some (.int .i64 s.sd) := HW1.out.1.cell 10
  have j11 : w1.cell? ⟨w.heap.size, 11, none⟩ = some (.int .i64 s.on) := HW1.out.1.cell 11
  have j12 : w1.cell? ⟨w.heap.size, 12, none⟩ = some (.int .i64 s.od) := HW1.out.1.cell 12
  have j13 : w1.cell? ⟨w.heap.size, 13, none⟩ = some (.int .i64 s.mn) := HW1.out.1.cell 13
  have j14 : w1.cell? ⟨w.heap.size, 14, none⟩ = some (.int .i64 s.md) := HW1.out.1.cell 14
  have j15 : w1.cell? ⟨w.heap.size, 15, none⟩ = some (.int .i64 s.xn) := HW1.out.1.cell 15
  have j16 : w1.cell? ⟨w.heap.size, 16, none⟩ = some (.int .i64 s.xd) := HW1.out.1.cell 16
  go_wp2_with fail
  refine (C2.out w1).mono ?_
  rintro e w2 ⟨rfl, hb⟩
  have HW2 : Hid (Has w2 w.heap.size 29 (csOf s v) ∧ Below w.heap.size w w2) := Lib.hid ⟨HW1.out.1.below hb HW1.out.1.lt, HW1.out.2.trans (hb.mono HW1.out.2.size)⟩
  clear hb C2 HW1
  clear j9 j10 j11 j12 j13 j14 j15 j16
  cases b2
  · have j9 : w2.cell? ⟨w.heap.size, 9, none⟩ = some (.int .i64 s.sn) := HW2.out.1.cell 9
    have j10 : w2.cell? ⟨w.heap.size, 10, none⟩ = some (.int .i64 s.sd) := HW2.out.1.cell 10
    have j11 : w2.cell? ⟨w.heap.size, 11, none⟩ = some (.int .i64 s.on) := HW2.out.1.cell 11
    have j12 : w2.cell? ⟨w.heap.size, 12, none⟩ = some (.int .i64 s.od) := HW2.out.1.cell 12
    have j13 : w2.cell? ⟨w.heap.size, 13, none⟩ = some (.int .i64 s.mn) := HW2.out.1.cell 13
    have j14 : w2.cell? ⟨w.heap.size, 14, none⟩ = some (.int .i64 s.md) := HW2.out.1.cell 14
    have j15 : w2.cell? ⟨w.heap.size, 15, none⟩ = some (.int .i64 s.xn) := HW2.out.1.cell 15
    have j16 : w2.cell? ⟨w.heap.size, 16, none⟩ = some (.int .i64 s.xd) := HW2.out.1.cell 16
    go_wp2
    go_ret
    exact ⟨by rw [HF.out, rg_1 (by rw [HSG.out]; rfl)]; rfl, HW2.out.2⟩
  have j9 : w2.cell? ⟨w.heap.size, 9, none⟩ = some (.int .i64 s.sn) := HW2.out.1.cell 9
  have j10 : w2.cell? ⟨w.heap.size, 10, none⟩ = some (.int .i64 s.sd) := HW2.out.1.cell 10
  have j11 : w2.cell? ⟨w.heap.size, 11, none⟩ = some (.int .i64 s.on) := HW2.out.1.cell 11
  have j12 : w2.cell? ⟨w.heap.size, 12, none⟩ = some (.int .i64 s.od) := HW2.out.1.cell 12
  have j13 : w2.cell? ⟨w.heap.size, 13, none⟩ = some (.int .i64 s.mn) := HW2.out.1.cell 13
  have j14 : w2.cell? ⟨w.heap.size, 14, none⟩ = some (.int .i64 s.md) := HW2.out.1.cell 14
  have j15 : w2.cell? ⟨w.heap.size, 15, none⟩ = some (.int .i64 s.xn) := HW2.out.1.cell 15
  have j16 : w2.cell? ⟨w.heap.size, 16, none⟩ = some (.int .i64 s.xd) := HW2.out.1.cell 16
  go_wp2_with fail
  refine (C3.out w2).mono ?_
  rintro e w3 ⟨rfl, hb⟩
  have HW3 : Hid (Has w3 w.heap.size 29 (csOf s v) ∧ Below w.heap.size w w3) := Lib.hid ⟨HW2.out.1.below hb HW2.out.1.lt, HW2.out.2.trans (hb.mono HW2.out.2.size)⟩
  clear hb C3 HW2
  clear j9 j10 j11 j12 j13 j14 j15 j16
  cases b3
  · have j9 : w3.cell? ⟨w.heap.size, 9, none⟩ = some (.int .i64 s.sn) := HW3.out.1.cell 9
    have j10 : w3.cell? ⟨w.heap.size, 10, none⟩ = some (.int .i64 s.sd) := HW3.out.1.cell 10
    have j11 : w3.cell? ⟨w.heap.size, 11, none⟩ = some (.int .i64 s.on) := HW3.out.1.cell 11
    have j12 : w3.cell? ⟨w.heap.size, 12, none⟩ = some (.int .i64 s.od) := HW3.out.1.cell 12
    have j13 : w3.cell? ⟨w.heap.size, 13, none⟩ = some (.int .i64 s.mn) := HW3.out.1.cell 13
    have j14 : w3.cell? ⟨w.heap.size, 14, none⟩ = some (.int .i64 s.md) := HW3.out.1.cell 14
    have j15 : w3.cell? ⟨w.heap.size, 15, none⟩ = some (.int .i64 s.xn) := HW3.out.1.cell 15
    have j16 : w3.cell? ⟨w.heap.size, 16, none⟩ = some (.int .i64 s.xd) := HW3.out.1.cell 16
    go_wp2
    go_ret
    exact ⟨by rw [HF.out, rg_1 (by rw [HSG.out]; rfl)]; rfl, HW3.out.2⟩
  have j9 : w3.cell? ⟨w.heap.size, 9, none⟩ = some (.int .i64 s.sn) := HW3.out.1.cell 9
  have j10 : w3.cell? ⟨w.heap.size, 10, none⟩ = some (.int .i64 s.sd) := HW3.out.1.cell 10
  have j11 : w3.cell? ⟨w.heap.size, 11, none⟩ = some (.int .i64 s.on) := HW3.out.1.cell 11
  have j12 : w3.cell? ⟨w.heap.size, 12, none⟩ = some (.int .i64 s.od) := HW3.out.1.cell 12
  have j13 : w3.cell? ⟨w.heap.size, 13, none⟩ = some (.int .i64 s.mn) := HW3.out.1.cell 13
  have j14 : w3.cell? ⟨w.heap.size, 14, none⟩ = some (.int .i64 s.md) := HW3.out.1.cell 14
  have j15 : w3.cell? ⟨w.heap.size, 15, none⟩ = some (.int .i64 s.xn) := HW3.out.1.cell 15
  have j16 : w3.cell? ⟨w.heap.size, 16, none⟩ = some (.int .i64 s.xd) := HW3.out.1.cell 16
  go_wp2_with fail
  refine (C4.out w3).mono ?_
  rintro e w4 ⟨rfl, hb⟩
  have HW4 : Hid (Has w4 w.heap.size 29 (csOf s v) ∧ Below w.heap.size w w4) := Lib.hid ⟨HW3.out.1.below hb HW3.out.1.lt, HW3.out.2.trans (hb.mono HW3.out.2.size)⟩
  clear hb C4 HW3
  clear j9 j10 j11 j12 j13 j14 j15 j16
  cases b4
  · have j9 : w4.cell? ⟨w.heap.size, 9, none⟩ = some (.int .i64 s.sn) := HW4.out.1.cell 9
    have j10 : w4.cell? ⟨w.heap.size, 10, none⟩ = some (.int .i64 s.sd) := HW4.out.1.cell 10
    have j11 : w4.cell? ⟨w.heap.size, 11, none⟩ = some (.int .i64 s.on) := HW4.out.1.cell 11
    have j12 : w4.cell? ⟨w.heap.size, 12, none⟩ = some (.int .i64 s.od) := HW4.out.1.cell 12
    have j13 : w4.cell? ⟨w.heap.size, 13, none⟩ = some (.int .i64 s.mn) := HW4.out.1.cell 13
    have j14 : w4.cell? ⟨w.heap.size, 14, none⟩ = some (.int .i64 s.md) := HW4.out.1.cell 14
    have j15 : w4.cell? ⟨w.heap.size, 15, none⟩ = some (.int .i64 s.xn) := HW4.out.1.cell 15
    have j16 : w4.cell? ⟨w.heap.size, 16, none⟩ = some (.int .i64 s.xd) := HW4.out.1.cell 16
    go_wp2
    go_ret
    exact ⟨by rw [HF.out, rg_1 (by rw [HSG.out]; rfl)]; rfl, HW4.out.2⟩
  have j9 : w4.cell? ⟨w.heap.size, 9, none⟩ = some (.int .i64 s.sn) := HW4.out.1.cell 9
  have j10 : w4.cell? ⟨w.heap.size, 10, none⟩ = some (.int .i64 s.sd) := HW4.out.1.cell 10
  have j11 : w4.cell? ⟨w.heap.size, 11, none⟩ = some (.int .i64 s.on) := HW4.out.1.cell 11
  have j12 : w4.cell? ⟨w.heap.size, 12, none⟩ = some (.int .i64 s.od) := HW4.out.1.cell 12
  have j13 : w4.cell? ⟨w.heap.size, 13, none⟩ = some (.int .i64 s.mn) := HW4.out.1.cell 13
  have j14 : w4.cell? ⟨w.heap.size, 14, none⟩ = some (.int .i64 s.md) := HW4.out.1.cell 14
  have j15 : w4.cell? ⟨w.heap.size, 15, none⟩ = some (.int .i64 s.xn) := HW4.out.1.cell 15
  have j16 : w4.cell? ⟨w.heap.size, 16, none⟩ = some (.int .i64 s.xd) := HW4.out.1.cell 16
  by_cases h0 : s.sn = 0
  · have e0 : (s.sn == 0) = true := by simpa using h0
    have HE := Lib.hid h0; clear h0
    go_wp2
    go_ret
    exact ⟨by rw [HF.out, rg_10 (by rw [HSG.out]; rfl) HE.out]; rfl, HW4.out.2⟩
  · have e0 : (s.sn == 0) = false := by simpa using h0
    have HE := Lib.hid h0; clear h0
    go_wp2
    go_ret
    exact ⟨by rw [HF.out, rg_0 (by rw [HSG.out]; rfl) HE.out]; rfl, HW4.out.2⟩
set_option maxRecDepth 100000 in
set_option maxHeartbeats 2000000 in
theorem rin_any (s : Sig) (v : Value) (n d : Int) (w : World) (ok : RatsOk s) (lo : RatsLo s) (h1 : -9223372036854775808 ≤ n) (h2 : n < 9223372036854775808) (h3 : d < 9223372036854775808) (h4 : -9223372036854775808 ≤ d) :
    Calls Tryd.prog 25 #[.agg (csOf s v), .agg #[.int .i64 n, .int .i64 d]] w fun e w' => e = .returned (.bool (inB s n d)) ∧ Below w.heap.size w w' := by
  obtain ⟨o1, o2, o3, o4, o5, o6, o7, o8⟩ := ok
  obtain ⟨l1, l2, l3, l4⟩ := lo
  have CA : Hid (∀ W, Calls Tryd.prog 49 #[.agg #[.int .i64 s.mn, .int .i64 s.md], .agg #[.int .i64 n, .int .i64 d]] W fun e w' => e = .returned (.bool (lowB n d s.mn s.md)) ∧ Below W.heap.size W w') := Lib.hid fun W => rabove_any s.mn s.md n d W o5.1 o5.2 l3 o6 h1 h2 h4 h3
  have CB : Hid (∀ W, Calls Tryd.prog 49 #[.agg #[.int .i64 n, .int .i64 d], .agg #[.int .i64 s.xn, .int .i64 s.xd]] W fun e w' => e = .returned (.bool (lowB s.xn s.xd n d)) ∧ Below W.heap.size W w') := Lib.hid fun W => rabove_any n d s.xn s.xd W h1 h2 h4 h3 o7.1 o7.2 l4 o8
  have hin : inB s n d = if s.mn = 0 ∧ s.xn = 0 then true else !lowB n d s.mn s.md && !lowB s.xn s.xd n d := rfl
  obtain ⟨A, hA⟩ : ∃ A, A = lowB n d s.mn s.md := ⟨_, rfl⟩
  obtain ⟨B, hB⟩ : ∃ B, B = lowB s.xn s.xd n d := ⟨_, rfl⟩
  rw [← hA] at CA hin
  rw [← hB] at CB hin
  obtain ⟨F, hF⟩ : ∃ F, F = inB s n d := ⟨_, rfl⟩
  rw [← hF] at hin ⊢
  have HF := Lib.hid hin
  clear o1 o2 o3 o4 o5 o6 o7 o8 l1 l2 l3 l4 h1 h2 h3 h4 hin hA hB hF
  obtain ⟨x, hx⟩ : ∃ x, x = (s.mn == 0) := ⟨_, rfl⟩
  obtain ⟨y, hy⟩ : ∃ y, y = (s.xn == 0) := ⟨_, rfl⟩
  have hxy : (x && y) = true ∧ F = true ∨ (x && y) = false ∧ F = (!A && !B) := by
    rw [HF.out, hx, hy]
    by_cases h1 : s.mn = 0 <;> by_cases h2 : s.xn = 0 <;> simp [h1, h2]
  have HXY := Lib.hid hxy
  clear hxy
  have ex : (s.mn == 0) = x := hx.symm
  have ey : (s.xn == 0) = y := hy.symm
  clear hx hy
  go_enter Tryd.func25, Tryd.ntmps25
  go_upto_region 1 with fail
  have hH0 : Has ((w.alloc (Obj.cells (csOf s v) 29)).alloc (Obj.cells #[.int .i64 n, .int .i64 d] 26)) w.heap.size 29 (csOf s v) := (Has.new w _ _).alloc _
  have hH1 : Has ((w.alloc (Obj.cells (csOf s v) 29)).alloc (Obj.cells #[.int .i64 n, .int .i64 d] 26)) (w.heap.size + 1) 26 #[.int .i64 n, .int .i64 d] := Has.new1 w _ _ _
  have hBB : Below w.heap.size w ((w.alloc (Obj.cells (csOf s v) 29)).alloc (Obj.cells #[.int .i64 n, .int .i64 d] 26)) := (by repeat' (first | (with_reducible assumption) | (with_reducible refine Below.setCell ?_ ?_ _) | (with_reducible refine Below.alloc ?_ ?_ _) | (with_reducible refine Below.drew ?_) | (with_reducible refine below_drewN ?_ _) | (with_reducible exact Below.refl _ _) | (show _ ≤ _; (try simp); (try omega); done) | exact Below.refl _ _ | assumption))
  have HW0 := Lib.hid (And.intro hH0 (And.intro hBB hH1))
  clear hH0 hH1 hBB
  generalize ((w.alloc (Obj.cells (csOf s v) 29)).alloc (Obj.cells #[.int .i64 n, .int .i64 d] 26)) = w0 at HW0 ⊢
  have j13 : w0.cell? ⟨w.heap.size, 13, none⟩ = some (.int .i64 s.mn) := HW0.out.1.cell 13
  have j14 : w0.cell? ⟨w.heap.size, 14, none⟩ = some (.int .i64 s.md) := HW0.out.1.cell 14
  have j15 : w0.cell? ⟨w.heap.size, 15, none⟩ = some (.int .i64 s.xn) := HW0.out.1.cell 15
  have j16 : w0.cell? ⟨w.heap.size, 16, none⟩ = some (.int .i64 s.xd) := HW0.out.1.cell 16
  have k0 : w0.cell? ⟨w.heap.size + 1, 0, none⟩ = some (.int .i64 n) := HW0.out.2.2.cell 0
  have k1 : w0.cell? ⟨w.heap.size + 1, 1, none⟩ = some (.int .i64 d) := HW0.out.2.2.cell 1
  rcases HXY.out with ⟨hxy, hf⟩ | ⟨hxy, hf⟩
  · have HFF := Lib.hid hf
    obtain ⟨rfl, rfl⟩ : x = true ∧ y = true := by simpa using hxy
    clear hxy hf
    go_wp2
    go_ret
    exact ⟨ret_bool HFF.out.symm, HW0.out.2.1⟩
  · have HFF := Lib.hid hf
    clear hf
    cases x
    · clear hxy
      go_wp2_with fail
      refine (CA.out w0).mono ?_
      rintro e w1 ⟨rfl, hb⟩
      have HW1 : Hid (Has w1 w.heap.size 29 (csOf s v) ∧ Below w.heap.size w w1 ∧ Has w1 (w.heap.size + 1) 26 #[.int .i64 n, .int .i64 d]) := Lib.hid ⟨HW0.out.1.below hb HW0.out.1.lt, HW0.out.2.1.trans (hb.mono HW0.out.2.1.size), HW0.out.2.2.below hb HW0.out.2.2.lt⟩
      clear hb CA HW0 k0 k1
      clear j13 j14 j15 j16
      cases A
      · have j13 : w1.cell? ⟨w.heap.size, 13, none⟩ = some (.int .i64 s.mn) := HW1.out.1.cell 13
        have j14 : w1.cell? ⟨w.heap.size, 14, none⟩ = some (.int .i64 s.md) := HW1.out.1.cell 14
        have j15 : w1.cell? ⟨w.heap.size, 15, none⟩ = some (.int .i64 s.xn) := HW1.out.1.cell 15
        have j16 : w1.cell? ⟨w.heap.size, 16, none⟩ = some (.int .i64 s.xd) := HW1.out.1.cell 16
        have k0 : w1.cell? ⟨w.heap.size + 1, 0, none⟩ = some (.int .i64 n) := HW1.out.2.2.cell 0
        have k1 : w1.cell? ⟨w.heap.size + 1, 1, none⟩ = some (.int .i64 d) := HW1.out.2.2.cell 1
        go_wp2_with fail
        refine (CB.out w1).mono ?_
        rintro e w2 ⟨rfl, hb⟩
        have HB2 := Lib.hid (HW1.out.2.1.trans (hb.mono HW1.out.2.1.size))
        clear hb CB HW1 k0 k1
        clear j13 j14 j15 j16
        go_wp2
        go_ret
        exact ⟨ret_bool HFF.out.symm, HB2.out⟩
      · have j13 : w1.cell? ⟨w.heap.size, 13, none⟩ = some (.int .i64 s.mn) := HW1.out.1.cell 13
        have j14 : w1.cell? ⟨w.heap.size, 14, none⟩ = some (.int .i64 s.md) := HW1.out.1.cell 14
        have j15 : w1.cell? ⟨w.heap.size, 15, none⟩ = some (.int .i64 s.xn) := HW1.out.1.cell 15
        have j16 : w1.cell? ⟨w.heap.size, 16, none⟩ = some (.int .i64 s.xd) := HW1.out.1.cell 16
        have k0 : w1.cell? ⟨w.heap.size + 1, 0, none⟩ = some (.int .i64 n) := HW1.out.2.2.cell 0
        have k1 : w1.cell? ⟨w.heap.size + 1, 1, none⟩ = some (.int .i64 d) := HW1.out.2.2.cell 1
        go_wp2
        go_ret
        exact ⟨ret_bool HFF.out.symm, HW1.out.2.1⟩
    · obtain rfl : y = false := by simpa using hxy
      clear hxy
      go_wp2_with fail
      refine (CA.out w0).mono ?_
      rintro e w1 ⟨rfl, hb⟩
      have HW1 : Hid (Has w1 w.heap.size 29 (csOf s v) ∧ Below w.heap.size w w1 ∧ Has w1 (w.heap.size + 1) 26 #[.int .i64 n, .int .i64 d]) := Lib.hid ⟨HW0.out.1.below hb HW0.out.1.lt, HW0.out.2.1.trans (hb.mono HW0.out.2.1.size), HW0.out.2.2.below hb HW0.out.2.2.lt⟩
      clear hb CA HW0 k0 k1
      clear j13 j14 j15 j16
      cases A
      · have j13 : w1.cell? ⟨w.heap.size, 13, none⟩ = some (.int .i64 s.mn) := HW1.out.1.cell 13
        have j14 : w1.cell? ⟨w.heap.size, 14, none⟩ = some (.int .i64 s.md) := HW1.out.1.cell 14
        have j15 : w1.cell? ⟨w.heap.size, 15, none⟩ = some (.int .i64 s.xn) := HW1.out.1.cell 15
        have j16 : w1.cell? ⟨w.heap.size, 16, none⟩ = some (.int .i64 s.xd) := HW1.out.1.cell 16
        have k0 : w1.cell? ⟨w.heap.size + 1, 0, none⟩ = some (.int .i64 n) := HW1.out.2.2.cell 0
        have k1 : w1.cell? ⟨w.heap.size + 1, 1, none⟩ = some (.int .i64 d) := HW1.out.2.2.cell 1
        go_wp2_with fail
        refine (CB.out w1).mono ?_
        rintro e w2 ⟨rfl, hb⟩
        have HB2 := Lib.hid (HW1.out.2.1.trans (hb.mono HW1.out.2.1.size))
        clear hb CB HW1 k0 k1
        clear j13 j14 j15 j16
        go_wp2
        go_ret
        exact ⟨ret_bool HFF.out.symm, HB2.out⟩
      · have j13 : w1.cell? ⟨w.heap.size, 13, none⟩ = some (.int .i64 s.mn) := HW1.out.1.cell 13
        have j14 : w1.cell? ⟨w.heap.size, 14, none⟩ = some (.int .i64 s.md) := HW1.out.1.cell 14
        have j15 : w1.cell? ⟨w.heap.size, 15, none⟩ = some (.int .i64 s.xn) := HW1.out.1.cell 15
        have j16 : w1.cell? ⟨w.heap.size, 16, none⟩ = some (.int .i64 s.xd) := HW1.out.1.cell 16
        have k0 : w1.cell? ⟨w.heap.size + 1, 0, none⟩ = some (.int .i64 n) := HW1.out.2.2.cell 0
        have k1 : w1.cell? ⟨w.heap.size + 1, 1, none⟩ = some (.int .i64 d) := HW1.out.2.2.cell 1
        go_wp2
        go_ret
        exact ⟨ret_bool HFF.out.symm, HW1.out.2.1⟩
end rphysW
end Go.Proofs.YtllbpanfhlbbgaaDoor

namespace Go.Proofs.YtllbpanfhlbbgaaDoor
open Go.RowKit Go.Bus Go.Rt Go.Bus.dbK Go.Bus.rawK Go.Nt
set_option linter.unusedVariables false
set_option linter.unusedSimpArgs false
namespace rphysW
open ratW physW natW
def rtpV (s : Sig) (u : Int) : Value := match toP s u with
  | .ok p => .tuple #[.agg #[.int .i64 p.1, .int .i64 p.2], .int .i64 0]
  | .error k => .tuple #[.agg #[.int .i64 0, .int .i64 0], .int .i64 k]
def rtrV (s : Sig) (n d : Int) : Value := match toR s n d with
  | .ok v => .tuple #[.int .u64 v, .int .i64 0]
  | .error k => .tuple #[.int .u64 0, .int .i64 k]
theorem rtpV_ok {s : Sig} {u : Int} {p : Int × Int} (h : toP s u = .ok p) : rtpV s u = .tuple #[.agg #[.int .i64 p.1, .int .i64 p.2], .int .i64 0] := by unfold rtpV; rw [h]
theorem rtpV_er {s : Sig} {u k : Int} (h : toP s u = .error k) : rtpV s u = .tuple #[.agg #[.int .i64 0, .int .i64 0], .int .i64 k] := by unfold rtpV; rw [h]
theorem rtrV_ok {s : Sig} {n d v : Int} (h : toR s n d = .ok v) : rtrV s n d = .tuple #[.int .u64 v, .int .i64 0] := by unfold rtrV; rw [h]
theorem rtrV_er {s : Sig} {n d k : Int} (h : toR s n d = .error k) : rtrV s n d = .tuple #[.int .u64 0, .int .i64 k] := by unfold rtrV; rw [h]
theorem mulN_of {an ad bn bd : Int} {p : Int × Int} (ha : rightB an ad = true) (hb : rightB bn bd = true) (h : mulO an ad bn bd = some p) : natW.mulN an ad bn bd = .tuple #[.agg #[.int .i64 p.1, .int .i64 p.2], .int .i64 0] := by
  unfold natW.mulN; rw [ha, hb, h]; rfl
theorem mulN_no {an ad bn bd : Int} (ha : rightB an ad = true) (hb : rightB bn bd = true) (h : mulO an ad bn bd = none) : natW.mulN an ad bn bd = .tuple #[.agg #[.int .i64 0, .int .i64 0], .int .i64 9] := by
  unfold natW.mulN; rw [ha, hb, h]; rfl
theorem divN_of {an ad bn bd : Int} {p : Int × Int} (ha : rightB an ad = true) (hb : rightB bn bd = true) (h0 : bn ≠ 0) (h : divO an ad bn bd = some p) : natW.divN an ad bn bd = .tuple #[.agg #[.int .i64 p.1, .int .i64 p.2], .int .i64 0] := by
  unfold natW.divN; rw [ha, hb, h, if_neg h0]; rfl
theorem divN_no {an ad bn bd : Int} (ha : rightB an ad = true) (hb : rightB bn bd = true) (h0 : bn ≠ 0) (h : divO an ad bn bd = none) : natW.divN an ad bn bd = .tuple #[.agg #[.int .i64 0, .int .i64 0], .int .i64 9] := by
  unfold natW.divN; rw [ha, hb, h, if_neg h0]; rfl
theorem sumN_of' {less : Bool} {an ad bn bd : Int} {p : Int × Int} (ha : rightB an ad = true) (hb : rightB bn bd = true) (h : sumO less an ad bn bd = some p) : natW.sumN less an ad bn bd = .tuple #[.agg #[.int .i64 p.1, .int .i64 p.2], .int .i64 0] := by
  unfold natW.sumN; rw [ha, hb, h]; rfl
theorem sumN_no {less : Bool} {an ad bn bd : Int} (ha : rightB an ad = true) (hb : rightB bn bd = true) (h : sumO less an ad bn bd = none) : natW.sumN less an ad bn bd = .tuple #[.agg #[.int .i64 0, .int .i64 0], .int .i64 9] := by
  unfold natW.sumN; rw [ha, hb, h]; rfl
theorem rndN_of {n d : Int} (h : rightB n d = true) : natW.rndV n d = .tuple #[.int .i64 (rndZ n d), .int .i64 0] := by unfold natW.rndV; rw [h]; rfl
set_option maxRecDepth 100000 in
set_option maxHeartbeats 2000000 in
theorem raw_7z {b7 : Bool} {n d on od sn sd q1 q2 r1 r2 z sz V : Int}  (cs : Array Value) (w : World) (HN : Hid (cs.size = 19)) (HI : Hid ((Tryd.prog.info? 29).map (·.size) = some cs.size)) (H1 : Hid (cs.all (·.oneCell') = true)) (C1 : Hid (Cl 35 #[.agg #[.int .i64 n, .int .i64 d]] (.bool true))) (C2 : Hid (Cl 21 #[.agg cs] (.int .i64 0))) (C3 : Hid (Cl 25 #[.agg cs, .agg #[.int .i64 n, .int .i64 d]] (.bool true))) (g11 : cs[11]? = some (.int .i64 on)) (g12 : cs[12]? = some (.int .i64 od)) (C4 : Hid (Cl 36 #[.agg #[.int .i64 n, .int .i64 d], .agg #[.int .i64 on, .int .i64 od]] (.tuple #[.agg #[.int .i64 q1, .int .i64 q2], .int .i64 0]))) (g9 : cs[9]? = some (.int .i64 sn)) (g10 : cs[10]? = some (.int .i64 sd)) (C5 : Hid (Cl 37 #[.agg #[.int .i64 q1, .int .i64 q2], .agg #[.int .i64 sn, .int .i64 sd]] (.tuple #[.agg #[.int .i64 r1, .int .i64 r2], .int .i64 0]))) (C6 : Hid (Cl 38 #[.agg #[.int .i64 r1, .int .i64 r2]] (.tuple #[.int .i64 z, .int .i64 0]))) (g6 : cs[6]? = some (.int .i64 sz)) (g8 : cs[8]? = some (.bool false)) (dz : decide (z < 0) = true) (wV : IntKind.u64.wrap z = V) (C7 : Hid (∀ w, Calls Tryd.prog 22 #[.int .u64 V, .int .i64 sz, .bool false] w fun e w' => e = .returned (.bool b7) ∧ w = w'))  :
    Cl1 11 #[.agg cs, .agg #[.int .i64 n, .int .i64 d]] (.tuple #[.int .u64 0, .int .i64 18]) w := by
  go_enter Tryd.func11, Tryd.ntmps11
  go_wp2_with (first
    | (refine wpList_load_has rfl 29 _ rfl w.heap.size rfl (by exact HS2.out) Tryd.underlying29 rfl HI.out ?_)
    | (refine wpList_load_has rfl 29 _ rfl w.heap.size rfl (by exact HS1.out) Tryd.underlying29 rfl HI.out ?_)
    | (go_at_call 35; refine (C1.out _).mono ?_; rintro e w1 ⟨rfl, hb1⟩; have hz1 := hb1.size; (try simp at hz1); have HS1 := Lib.hid (show Has w1 w.heap.size 29 cs from Has.below (by exact (Has.new w _ cs).alloc _) hb1 (by (try simp); (try omega))); have HP1 := Lib.hid (show Has w1 (w.heap.size + 1) 26 #[.int .i64 n, .int .i64 d] from Has.below (by exact Has.new1 w _ _ _) hb1 (by (try simp); (try omega))); have HB1 := Lib.hid (show Below w.heap.size w w1 from Below.trans (by repeat' (first | (with_reducible assumption) | (with_reducible refine Below.setCell ?_ ?_ _) | (with_reducible refine Below.alloc ?_ ?_ _) | (with_reducible refine Below.drew ?_) | (with_reducible refine below_drewN ?_ _) | (with_reducible exact Below.refl _ _) | (show _ ≤ _; (try simp); (try omega); done) | exact Below.refl _ _ | assumption)) (hb1.mono (by (try simp); (try omega)))); clear hb1)
    | (go_at_call 21; refine (C2.out _).mono ?_; rintro e w2 ⟨rfl, hb2⟩; have hz2 := hb2.size; have HS2 := Lib.hid (show Has w2 w.heap.size 29 cs from Has.below HS1.out hb2 (by omega)); have HP2 := Lib.hid (show Has w2 (w.heap.size + 1) 26 #[.int .i64 n, .int .i64 d] from Has.below HP1.out hb2 (by omega)); have HB2 := Lib.hid (show Below w.heap.size w w2 from HB1.out.trans (hb2.mono (by omega))); clear hb2; have c2_HP_0 : w2.cell? ⟨(w.heap.size + 1), 0, none⟩ = some (.int .i64 n) := (HP2.out.cell 0).trans rfl; have c2_HP_1 : w2.cell? ⟨(w.heap.size + 1), 1, none⟩ = some (.int .i64 d) := (HP2.out.cell 1).trans rfl)
    | (go_at_call 25; refine (C3.out _).mono ?_; rintro e w3 ⟨rfl, hb3⟩; have hz3 := hb3.size; have HS3 := Lib.hid (show Has w3 w.heap.size 29 cs from Has.below HS2.out hb3 (by omega)); have HP3 := Lib.hid (show Has w3 (w.heap.size + 1) 26 #[.int .i64 n, .int .i64 d] from Has.below HP2.out hb3 (by omega)); have HB3 := Lib.hid (show Below w.heap.size w w3 from HB2.out.trans (hb3.mono (by omega))); clear hb3; clear c2_HP_0 c2_HP_1; have c3_HP_0 : w3.cell? ⟨(w.heap.size + 1), 0, none⟩ = some (.int .i64 n) := (HP3.out.cell 0).trans rfl; have c3_HP_1 : w3.cell? ⟨(w.heap.size + 1), 1, none⟩ = some (.int .i64 d) := (HP3.out.cell 1).trans rfl; have c3_HS_11 : w3.cell? ⟨w.heap.size, 11, none⟩ = some (.int .i64 on) := (HS3.out.cell 11).trans g11; have c3_HS_12 : w3.cell? ⟨w.heap.size, 12, none⟩ = some (.int .i64 od) := (HS3.out.cell 12).trans g12)
    | (go_at_call 36; refine (C4.out _).mono ?_; rintro e w4 ⟨rfl, hb4⟩; have hz4 := hb4.size; have HS4 := Lib.hid (show Has w4 w.heap.size 29 cs from Has.below HS3.out hb4 (by omega)); have HB4 := Lib.hid (show Below w.heap.size w w4 from HB3.out.trans (hb4.mono (by omega))); clear hb4; have c4_9 : w4.cell? ⟨w.heap.size, 9, none⟩ = some (.int .i64 sn) := (HS4.out.cell 9).trans g9; have c4_10 : w4.cell? ⟨w.heap.size, 10, none⟩ = some (.int .i64 sd) := (HS4.out.cell 10).trans g10; have lt4 : w.heap.size < w4.heap.size := (by omega); clear c3_HP_0 c3_HP_1 c3_HS_11 c3_HS_12)
    | (go_at_call 37; refine (C5.out _).mono ?_; rintro e w5 ⟨rfl, hb5⟩; have hz5 := hb5.size; (try simp at hz5); have HS5 := Lib.hid (show Has w5 w.heap.size 29 cs from Has.below (by exact HS4.out.alloc _) hb5 (by (try simp); (try omega))); have HG5 := Lib.hid (show Has w5 w4.heap.size 26 #[.int .i64 q1, .int .i64 q2] from Has.below (by exact Has.new w4 _ _) hb5 (by (try simp); (try omega))); have hB4 := HB4.out; have HB5 := Lib.hid (show Below w.heap.size w w5 from Below.trans (by repeat' (first | (with_reducible assumption) | (with_reducible refine Below.setCell ?_ ?_ _) | (with_reducible refine Below.alloc ?_ ?_ _) | (with_reducible refine Below.drew ?_) | (with_reducible refine below_drewN ?_ _) | (with_reducible exact Below.refl _ _) | (show _ ≤ _; (try simp); (try omega); done) | exact Below.refl _ _ | assumption)) (hb5.mono (by (try simp); (try omega)))); clear hb5 hB4; have c5_HG_0 : w5.cell? ⟨w4.heap.size, 0, none⟩ = some (.int .i64 q1) := (HG5.out.cell 0).trans rfl; have c5_HG_1 : w5.cell? ⟨w4.heap.size, 1, none⟩ = some (.int .i64 q2) := (HG5.out.cell 1).trans rfl; have f5_HG_0 : w5.frozen? ⟨w4.heap.size, 0, none⟩ = false := HG5.out.frozen 0; have f5_HG_1 : w5.frozen? ⟨w4.heap.size, 1, none⟩ = false := HG5.out.frozen 1)
    | (go_at_call 38; refine (C6.out _).mono ?_; rintro e w6 ⟨rfl, hb6⟩; have hz6 := hb6.size; (try simp at hz6); have HS6 := Lib.hid (show Has w6 w.heap.size 29 cs from Has.below (by exact ((HS5.out.far (by simp; omega) _).far (by simp; omega) _)) hb6 (by (try simp); (try omega))); have hB5 := HB5.out; have HB6 := Lib.hid (show Below w.heap.size w w6 from Below.trans (by repeat' (first | (with_reducible assumption) | (with_reducible refine Below.setCell ?_ ?_ _) | (with_reducible refine Below.alloc ?_ ?_ _) | (with_reducible refine Below.drew ?_) | (with_reducible refine below_drewN ?_ _) | (with_reducible exact Below.refl _ _) | (show _ ≤ _; (try simp); (try omega); done) | exact Below.refl _ _ | assumption)) (hb6.mono (by (try simp); (try omega)))); clear hb6 hB5; have c6_HS_6 : w6.cell? ⟨w.heap.size, 6, none⟩ = some (.int .i64 sz) := (HS6.out.cell 6).trans g6; have c6_HS_8 : w6.cell? ⟨w.heap.size, 8, none⟩ = some (.bool false) := (HS6.out.cell 8).trans g8)
    | (go_at_call 22; refine (C7.out _).mono ?_; rintro e w' ⟨rfl, rfl⟩))
  have hB := HB6.out
  go_ret2
  exact ⟨rfl, (by repeat' (first | (with_reducible assumption) | (with_reducible refine Below.setCell ?_ ?_ _) | (with_reducible refine Below.alloc ?_ ?_ _) | (with_reducible refine Below.drew ?_) | (with_reducible refine below_drewN ?_ _) | (with_reducible exact Below.refl _ _) | (show _ ≤ _; (try simp); (try omega); done) | exact Below.refl _ _ | assumption))⟩

theorem beq_z {k : Int} (h : ¬ k = 0) : (k == 0) = false := by simpa using h
theorem ov_no {u : Int} (h : 9223372036854775807 < u) : (u / 9223372036854775808 == 0) = false := by rw [beq_eq_false_iff_ne]; omega
theorem ov_yes {u : Int} (h : ¬ 9223372036854775807 < u) (h0 : 0 ≤ u) : (u / 9223372036854775808 == 0) = true := by rw [beq_iff_eq]; omega

theorem rtoP_val (s : Sig) (A : Option Addr) (m c : Nat) (u : Int) (w : World) (ok : RatsOk s) (lo : RatsLo s) (u0 : 0 ≤ u) (u1 : u < 18446744073709551616) : Cl1 6 #[sigV s (.slice A m c), .int .u64 u] (rtpV s u) w := by
  have R1 : Hid (Cl 21 #[.agg (csOf s (.slice A m c))] (.int .i64 (rgE s))) := hidf fun w => rright_sig s _ w ok lo
  have F1 : Hid (∀ w, Calls Tryd.prog 22 #[.int .u64 u, .int .i64 s.size, .bool s.sgn] w fun e w' => e = .returned (.bool (fitsB u s.size s.sgn)) ∧ w = w') := hidf fun w => rawW.rfits_any _ _ _ w u0 u1
  have HN := cs_size s (.slice A m c)
  have HI := cs_info s (.slice A m c)
  have H1 := cs_one s A m c
  rw [sigV_cs]
  by_cases g1 : rgE s = 0
  case neg =>
    rw [rtpV_er (k := rgE s) (by unfold toP; rw [if_pos g1])]
    exact phys_1 (sz := 0) (on := 0) (od := 0) (sn := 0) (sd := 0) (q1 := 0) (q2 := 0) (r1 := 0) (r2 := 0) (sg := true) _ w HN HI H1 (beq_z g1) R1
  case pos =>
  rw [g1] at R1
  obtain ⟨hs, hz⟩ := rg_no g1
  obtain ⟨p1, p2⟩ := sg_parts hs
  by_cases g2 : fitsB u s.size s.sgn = false
  · rw [g2] at F1
    rw [rtpV_er (k := 18) (by unfold toP; rw [if_neg (by omega), if_pos g2])]
    exact phys_2 (k := 0) (on := 0) (od := 0) (sn := 0) (sd := 0) (q1 := 0) (q2 := 0) (r1 := 0) (r2 := 0) _ w HN HI H1 R1 rfl rfl F1
  have g2' : fitsB u s.size s.sgn = true := by simpa using g2
  rw [g2'] at F1
  by_cases g3 : s.sgn = false ∧ 9223372036854775807 < u
  · rw [rtpV_er (k := 9) (by unfold toP; rw [if_neg (by omega), if_neg g2, if_pos g3])]
    have hg : (csOf s (.slice A m c))[8]? = some (.bool false) := by rw [← g3.1]; rfl
    rw [g3.1] at F1
    exact phys_3 (k := 0) (on := 0) (od := 0) (sn := 0) (sd := 0) (q1 := 0) (q2 := 0) (r1 := 0) (r2 := 0) _ w HN HI H1 R1 rfl hg F1 (ov_no g3.2)
  obtain ⟨w1, w2, w3⟩ := wrap_back u0 u1
  have hk : IntKind.i64.wrap u = wrap64 u := by unfold wrap64; rw [IntKind.wrap_i64]
  have M1 : Hid (Cl 23 #[.agg #[.int .i64 s.sn, .int .i64 s.sd], .agg #[.int .i64 (wrap64 u), .int .i64 1]] (natW.mulN s.sn s.sd (wrap64 u) 1)) := hidf fun w => rmul_any s.sn s.sd (wrap64 u) 1 w ok.sn.1 ok.sn.2 lo.sd ok.sd w2 w3 (by omega) (by omega)
  have key : ∀ {r : Except Int (Int × Int)}, (match mulO s.sn s.sd (wrap64 u) 1 with
      | none => .error 9
      | some p => match sumO false p.1 p.2 s.on s.od with
        | none => .error 9
        | some r => if inB s r.1 r.2 then .ok r else .error 18) = r → toP s u = r := by
    intro r h; unfold toP; rw [if_neg (by omega), if_neg g2, if_neg g3]; exact h
  cases e1 : mulO s.sn s.sd (wrap64 u) 1 with
  | none =>
    rw [mulN_no p1 (right_one _) e1] at M1
    rw [rtpV_er (k := 9) (key (by rw [e1]))]
    cases hg : s.sgn
    · rw [hg] at F1
      exact phys_4f (on := 0) (od := 0) (q1 := 0) (q2 := 0) (r1 := 0) (r2 := 0) _ w HN HI H1 R1 rfl (by rw [← hg]; rfl) F1 (ov_yes (fun h => g3 ⟨hg, h⟩) u0) hk rfl rfl M1
    · rw [hg] at F1
      exact phys_4t (on := 0) (od := 0) (q1 := 0) (q2 := 0) (r1 := 0) (r2 := 0) _ w HN HI H1 R1 rfl (by rw [← hg]; rfl) F1 hk rfl rfl M1
  | some p =>
  obtain ⟨q1, q2⟩ := p
  rw [mulN_of p1 (right_one _) e1] at M1
  obtain ⟨m1, m2, m3, m4, m5, m6⟩ := fitR_right e1
  have A1 : Hid (Cl 24 #[.agg #[.int .i64 q1, .int .i64 q2], .agg #[.int .i64 s.on, .int .i64 s.od]] (natW.sumN false q1 q2 s.on s.od)) := hidf fun w => radd_any q1 q2 s.on s.od w m3 m4 (by omega) m6 ok.on.1 ok.on.2 lo.od ok.od
  cases e2 : sumO false q1 q2 s.on s.od with
  | none =>
    rw [sumN_no m1 p2 e2] at A1
    rw [rtpV_er (k := 9) (key (by rw [e1]; simp only [e2]))]
    cases hg : s.sgn
    · rw [hg] at F1
      exact phys_5f (r1 := 0) (r2 := 0) _ w HN HI H1 R1 rfl (by rw [← hg]; rfl) F1 (ov_yes (fun h => g3 ⟨hg, h⟩) u0) hk rfl rfl M1 rfl rfl A1
    · rw [hg] at F1
      exact phys_5t (r1 := 0) (r2 := 0) _ w HN HI H1 R1 rfl (by rw [← hg]; rfl) F1 hk rfl rfl M1 rfl rfl A1
  | some r =>
  obtain ⟨r1, r2⟩ := r
  rw [sumN_of' m1 p2 e2] at A1
  obtain ⟨k1, k2, k3, k4, k5, k6⟩ := fitR_right e2
  have I1 : Hid (Cl 25 #[.agg (csOf s (.slice A m c)), .agg #[.int .i64 r1, .int .i64 r2]] (.bool (inB s r1 r2))) := hidf fun w => rin_any s _ r1 r2 w ok lo k3 k4 k6 (by omega)
  cases hi : inB s r1 r2
  · rw [hi] at I1
    rw [rtpV_er (k := 18) (key (by rw [e1]; simp only [e2, hi]; rfl))]
    cases hg : s.sgn
    · rw [hg] at F1
      exact phys_6f _ w HN HI H1 R1 rfl (by rw [← hg]; rfl) F1 (ov_yes (fun h => g3 ⟨hg, h⟩) u0) hk rfl rfl M1 rfl rfl A1 I1
    · rw [hg] at F1
      exact phys_6t _ w HN HI H1 R1 rfl (by rw [← hg]; rfl) F1 hk rfl rfl M1 rfl rfl A1 I1
  · rw [hi] at I1
    rw [rtpV_ok (p := (r1, r2)) (key (by rw [e1]; simp only [e2, hi, if_true]))]
    cases hg : s.sgn
    · rw [hg] at F1
      exact phys_7f _ w HN HI H1 R1 rfl (by rw [← hg]; rfl) F1 (ov_yes (fun h => g3 ⟨hg, h⟩) u0) hk rfl rfl M1 rfl rfl A1 I1
    · rw [hg] at F1
      exact phys_7t _ w HN HI H1 R1 rfl (by rw [← hg]; rfl) F1 hk rfl rfl M1 rfl rfl A1 I1

theorem rtoR_val (s : Sig) (A : Option Addr) (m c : Nat) (n d : Int) (w : World) (ok : RatsOk s) (lo : RatsLo s) (n1 : -9223372036854775808 ≤ n) (n2 : n < 9223372036854775808) (n3 : d < 9223372036854775808) (n4 : -9223372036854775808 ≤ d) : Cl1 11 #[sigV s (.slice A m c), .agg #[.int .i64 n, .int .i64 d]] (rtrV s n d) w := by
  have P1 : Hid (Cl 35 #[.agg #[.int .i64 n, .int .i64 d]] (.bool (rightB n d))) := hidf fun w => rright_any n d w n1 n2 n4 n3
  have R1 : Hid (Cl 21 #[.agg (csOf s (.slice A m c))] (.int .i64 (rgE s))) := hidf fun w => rright_sig s _ w ok lo
  have I1 : Hid (Cl 25 #[.agg (csOf s (.slice A m c)), .agg #[.int .i64 n, .int .i64 d]] (.bool (inB s n d))) := hidf fun w => rin_any s _ n d w ok lo n1 n2 n3 n4
  have HN := cs_size s (.slice A m c)
  have HI := cs_info s (.slice A m c)
  have H1 := cs_one s A m c
  rw [sigV_cs]
  by_cases g0 : rightB n d = false
  · rw [g0] at P1
    rw [rtrV_er (k := 1) (by unfold toR; rw [if_pos g0])]
    exact raw_1 (on := 0) (od := 0) (sn := 0) (sd := 0) (q1 := 0) (q2 := 0) (r1 := 0) (r2 := 0) (z := 0) (sz := 0) (V := 0) _ w HN HI H1 P1
  have g0' : rightB n d = true := by simpa using g0
  rw [g0'] at P1
  by_cases g1 : rgE s = 0
  case neg =>
    rw [rtrV_er (k := rgE s) (by unfold toR; rw [if_neg g0, if_pos g1])]
    exact raw_2 (on := 0) (od := 0) (sn := 0) (sd := 0) (q1 := 0) (q2 := 0) (r1 := 0) (r2 := 0) (z := 0) (sz := 0) (V := 0) (beq_z g1) _ w HN HI H1 P1 R1
  case pos =>
  rw [g1] at R1
  obtain ⟨hs, hz⟩ := rg_no g1
  obtain ⟨p1, p2⟩ := sg_parts hs
  by_cases g2 : inB s n d = false
  · rw [g2] at I1
    rw [rtrV_er (k := 18) (by unfold toR; rw [if_neg g0, if_neg (by omega), if_pos g2])]
    exact raw_3 (on := 0) (od := 0) (sn := 0) (sd := 0) (q1 := 0) (q2 := 0) (r1 := 0) (r2 := 0) (z := 0) (sz := 0) (V := 0) _ w HN HI H1 P1 R1 I1
  have g2' : inB s n d = true := by simpa using g2
  rw [g2'] at I1
  have key : ∀ {r : Except Int Int}, (match sumO true n d s.on s.od with
      | none => .error 9
      | some q => match divO q.1 q.2 s.sn s.sd with
        | none => .error 9
        | some r => if hasB s (rndZ r.1 r.2) then .ok (rndZ r.1 r.2 % 18446744073709551616) else .error 18) = r → toR s n d = r := by
    intro r h; unfold toR; rw [if_neg g0, if_neg (by omega), if_neg g2]; exact h
  have S1 : Hid (Cl 36 #[.agg #[.int .i64 n, .int .i64 d], .agg #[.int .i64 s.on, .int .i64 s.od]] (natW.sumN true n d s.on s.od)) := hidf fun w => rsub_any n d s.on s.od w n1 n2 n4 n3 ok.on.1 ok.on.2 lo.od ok.od
  cases e1 : sumO true n d s.on s.od with
  | none =>
    rw [sumN_no g0' p2 e1] at S1
    rw [rtrV_er (k := 9) (key (by rw [e1]))]
    exact raw_4 (sn := 0) (sd := 0) (q1 := 0) (q2 := 0) (r1 := 0) (r2 := 0) (z := 0) (sz := 0) (V := 0) _ w HN HI H1 P1 R1 I1 rfl rfl S1
  | some q =>
  obtain ⟨q1, q2⟩ := q
  rw [sumN_of' g0' p2 e1] at S1
  obtain ⟨m1, m2, m3, m4, m5, m6⟩ := fitR_right e1
  have D1 : Hid (Cl 37 #[.agg #[.int .i64 q1, .int .i64 q2], .agg #[.int .i64 s.sn, .int .i64 s.sd]] (natW.divN q1 q2 s.sn s.sd)) := hidf fun w => rdiv_any q1 q2 s.sn s.sd w m3 m4 (by omega) m6 ok.sn.1 ok.sn.2 lo.sd ok.sd
  cases e2 : divO q1 q2 s.sn s.sd with
  | none =>
    rw [divN_no m1 p1 hz e2] at D1
    rw [rtrV_er (k := 9) (key (by rw [e1]; simp only [e2]))]
    exact raw_5 (r1 := 0) (r2 := 0) (z := 0) (sz := 0) (V := 0) _ w HN HI H1 P1 R1 I1 rfl rfl S1 rfl rfl D1
  | some r =>
  obtain ⟨r1, r2⟩ := r
  rw [divN_of m1 p1 hz e2] at D1
  obtain ⟨k1, k2, k3, k4, k5, k6⟩ := fitR_right e2
  have N1 : Hid (Cl 38 #[.agg #[.int .i64 r1, .int .i64 r2]] (.tuple #[.int .i64 (rndZ r1 r2), .int .i64 0])) := hidf fun w => by rw [← rndN_of k1]; exact rround_any r1 r2 w k3 k4 (by omega) k6
  obtain ⟨z1, z2⟩ := rndZ_rng k5 k3 k4
  have hw : IntKind.u64.wrap (rndZ r1 r2) = rndZ r1 r2 % 18446744073709551616 := by rw [IntKind.wrap_u64]
  have B1 : Hid (∀ w, Calls Tryd.prog 22 #[.int .u64 (rndZ r1 r2 % 18446744073709551616), .int .i64 s.size, .bool s.sgn] w fun e w' => e = .returned (.bool (fitsB (rndZ r1 r2 % 18446744073709551616) s.size s.sgn)) ∧ w = w') := hidf fun w => rawW.rfits_any _ _ _ w (Int.emod_nonneg _ (by decide)) (Int.emod_lt_of_pos _ (by decide))
  have hHB : hasB s (rndZ r1 r2) = ((s.sgn || decide (0 ≤ rndZ r1 r2)) && fitsB (rndZ r1 r2 % 18446744073709551616) s.size s.sgn) := rfl
  cases hf : fitsB (rndZ r1 r2 % 18446744073709551616) s.size s.sgn
  · rw [hf] at B1
    have hh : hasB s (rndZ r1 r2) = false := by rw [hHB, hf]; simp
    rw [rtrV_er (k := 18) (key (by rw [e1]; simp only [e2, hh]; rfl))]
    by_cases hz0 : rndZ r1 r2 < 0
    · cases hg : s.sgn
      · rw [hg] at B1
        exact raw_7a _ w HN HI H1 P1 R1 I1 rfl rfl S1 rfl rfl D1 N1 rfl (by rw [← hg]; rfl) (decide_eq_true hz0) hw B1
      · rw [hg] at B1
        exact raw_7b _ w HN HI H1 P1 R1 I1 rfl rfl S1 rfl rfl D1 N1 rfl (by rw [← hg]; rfl) (decide_eq_true hz0) hw B1
    · exact raw_7c _ w HN HI H1 P1 R1 I1 rfl rfl S1 rfl rfl D1 N1 rfl rfl (decide_eq_false hz0) hw B1
  · rw [hf] at B1
    by_cases hz0 : rndZ r1 r2 < 0
    · cases hg : s.sgn
      · have hh : hasB s (rndZ r1 r2) = false := by rw [hHB, hg, decide_eq_false (show ¬ 0 ≤ rndZ r1 r2 by omega)]; rfl
        rw [rtrV_er (k := 18) (key (by rw [e1]; simp only [e2, hh]; rfl))]
        exact raw_7z (b7 := true) _ w HN HI H1 P1 R1 I1 rfl rfl S1 rfl rfl D1 N1 rfl (by rw [← hg]; rfl) (decide_eq_true hz0) hw (by rw [hg] at B1; exact B1)
      · have hh : hasB s (rndZ r1 r2) = true := by rw [hHB, hg, ← hg, hf]; simp [hg]
        rw [rtrV_ok (v := rndZ r1 r2 % 18446744073709551616) (key (by rw [e1]; simp only [e2, hh, if_true]))]
        rw [hg] at B1
        exact raw_8b _ w HN HI H1 P1 R1 I1 rfl rfl S1 rfl rfl D1 N1 rfl (by rw [← hg]; rfl) (decide_eq_true hz0) hw B1
    · have hh : hasB s (rndZ r1 r2) = true := by rw [hHB, hf, decide_eq_true (show 0 ≤ rndZ r1 r2 by omega)]; simp
      rw [rtrV_ok (v := rndZ r1 r2 % 18446744073709551616) (key (by rw [e1]; simp only [e2, hh, if_true]))]
      exact raw_8c _ w HN HI H1 P1 R1 I1 rfl rfl S1 rfl rfl D1 N1 rfl rfl (decide_eq_false hz0) hw B1
end rphysW
end Go.Proofs.YtllbpanfhlbbgaaDoor
