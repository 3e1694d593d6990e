/- Proves FrameThereSaid: what is encoded is decoded as it was; its length. No condition. -/
import Derived.Test.YthjjockimpndbaaDoorRows
import Derived.Test.YthjjockimpndbaaDoorZKit
import Derived.Test.YthjjockimpndbaaDoorZWorks
import Derived.Test.YthjjockimpndbaaDoorZDecode
namespace Go.Proofs.YthjjockimpndbaaDoor.frameThere
open Go.RowKit Go.Bus Go.Bus.bitK Go.Bus.crcLaw Go.Bus.decK Go.Bus.stuffK Go.ChangeShapes Go.WideShapes Go.ChangeAt Go.Joins
set_option linter.unusedVariables false

theorem rid_bd (id : Int) (wide : Bool) (h : 0 ≤ id) (h' : id < 4294967296) : 0 ≤ rightW.rid id wide ∧ rightW.rid id wide < (if wide = true then 536870912 else 2048) := by
  unfold rightW.rid
  cases wide
  · simp only [Bool.false_eq_true, if_false]
    rw [u32_and _ _ (by omega) (by omega) (by omega) (by omega)]
    have h1 : id.toNat &&& (2047 : Int).toNat ≤ 2047 := Nat.and_le_right
    omega
  · simp only [if_true]
    rw [u32_and _ _ (by omega) (by omega) (by omega) (by omega)]
    have h1 : id.toNat &&& (536870911 : Int).toNat ≤ 536870911 := Nat.and_le_right
    omega

set_option maxRecDepth 100000 in
set_option maxHeartbeats 1000000 in
theorem walk (id : Int) (wide : Bool) (sv : Value) (l : List Int) (w : World) (hi : 0 ≤ id) (hi' : id < 4294967296) (hs : Sl w w.heap.size (Value.int .u8) sv l) (hb : ∀ x ∈ l, 0 ≤ x ∧ x < 256) :
    Calls Tryd.prog 67 #[.agg #[.int .u32 id, .bool wide, sv]] w fun e w' => e = .returned (.bool true) ∧ Below w.heap.size w w' := by
  obtain ⟨A, cap, rfl, hcap, hmax⟩ := hs.form
  have HU := Lib.hid hs; clear hs hcap hmax
  obtain ⟨p, hp⟩ : ∃ p, p = l.take 8 := ⟨_, rfl⟩
  obtain ⟨x, hx⟩ : ∃ x, x = rightW.rid id wide := ⟨_, rfl⟩
  have RI := Lib.hid (rid_bd id wide hi hi')
  rw [← hx] at RI
  have hp8 : p.length ≤ 8 := by rw [hp, List.length_take]; omega
  have BL : Hid (∀ y ∈ p, 0 ≤ y ∧ y < 256) := fun y hy => hb y (List.mem_of_mem_take (hp ▸ hy))
  have HP := Lib.hid hp; clear hp
  have HX := Lib.hid hx; clear hx
  have x0 : 0 ≤ x := RI.out.1
  have x1 : x ≤ 536870911 := by have := RI.out.2; split at this <;> omega
  have X2 : Hid (wide = false → x ≤ 2047) := by intro e; have := RI.out.2; rw [e] at this; simp at this; omega
  obtain ⟨X, hX⟩ : ∃ X, X = bitsF x wide p := ⟨_, rfl⟩
  have lX : X.length = (if wide = true then 54 else 34) + 8 * p.length := by rw [hX]; exact bitsF_length _ _ _
  have bX : X.length ≤ 118 := by rw [lX]; split <;> omega
  obtain ⟨M, hM⟩ : ∃ M, M = wireW.wireF X := ⟨_, rfl⟩
  have lM : M.length = (stuffF X).length + 10 := by rw [hM]; exact onF_length X
  have sM := stuff_len X
  have DEC : Hid (allF M = .ok (x, wide, p)) := by unfold Hid; rw [hM, hX]; exact all_bits x wide p hp8 BL.out x0 RI.out.2
  have EX := Lib.hid hX; clear hX
  have EM := Lib.hid hM; clear hM
  have LX := Lib.hid lX; clear lX
  obtain ⟨sM1, sM2⟩ := sM
  have M1 : X.length + 10 ≤ M.length := by omega
  have M2 : M.length ≤ X.length + 10 + (X.length - 1) / 4 := by omega
  clear hb hi hi' lM sM1 sM2
  go_enter Tryd.func67, Tryd.ntmps67
  go_wp2_with fail
  refine (rightW.right_any id wide _ l _ (HU.out.at_below (by repeat (first | exact Below.refl _ _ | assumption | refine Below.drew ?_ | refine below_drewN ?_ _ | (refine Below.alloc ?_ (by (try simp); (try omega)) _) | (refine Below.setCell ?_ (by (try simp); (try omega)) _))))).mono ?_
  rintro e w1 ⟨v1, rfl, hown1, hb_w1⟩
  rw [← HX.out]
  rw [← HP.out] at hown1
  have hs1 := Sl.of_own hown1
  obtain ⟨C1, c1, rfl, hc1, hm1⟩ := hs1.form
  have S1 := Lib.hid hs1; clear hs1 hown1
  obtain ⟨hc_w1, hf_w1⟩ := bcell hb_w1; have hz_w1 := hb_w1.size; (try simp at hz_w1); have hB_w1 : Below w.heap.size w w1 := Below.trans (by repeat (first | exact Below.refl _ _ | assumption | refine Below.drew ?_ | refine below_drewN ?_ _ | (refine Below.alloc ?_ (by (try simp); (try omega)) _) | (refine Below.setCell ?_ (by (try simp); (try omega)) _))) (hb_w1.mono (by (try simp); (try omega))); have z_w1_0 : w.heap.size < w1.heap.size := (by omega)
  go_wp2_with fail
  refine (bitsW.bits_ok x wide _ p _ (S1.out.at_below (by repeat (first | exact Below.refl _ _ | assumption | refine Below.drew ?_ | refine below_drewN ?_ _ | (refine Below.alloc ?_ (by (try simp); (try omega)) _) | (refine Below.setCell ?_ (by (try simp); (try omega)) _)))) x0 x1 X2.out hp8 BL.out).mono ?_
  rintro e w2 ⟨v2, rfl, hown2, hb_w2⟩
  rw [← EX.out] at hown2
  have hs2 := Sl.of_own hown2
  obtain ⟨C2, c2, rfl, hc2, hm2⟩ := hs2.form
  have S2 := Lib.hid hs2; clear hs2 hown2
  have hb12 : Below w1.heap.size w1 w2 := Below.trans (b := _) (by repeat (first | exact Below.refl _ _ | assumption | refine Below.drew ?_ | refine below_drewN ?_ _ | (refine Below.alloc ?_ (by (try simp); (try omega)) _) | (refine Below.setCell ?_ (by (try simp); (try omega)) _))) (hb_w2.mono (by (try simp); (try omega)))
  have P2 : Hid (Sl w2 w2.heap.size (Value.int .u8) (.slice C1 p.length c1) p) := S1.out.at_below hb12
  clear hb12 S1
  obtain ⟨hc_w2, hf_w2⟩ := bcell hb_w2; have hz_w2 := hb_w2.size; (try simp at hz_w2); have hB_w2 : Below w.heap.size w w2 := Below.trans (by repeat (first | exact Below.refl _ _ | assumption | refine Below.drew ?_ | refine below_drewN ?_ _ | (refine Below.alloc ?_ (by (try simp); (try omega)) _) | (refine Below.setCell ?_ (by (try simp); (try omega)) _))) (hb_w2.mono (by (try simp); (try omega))); have z_w2_0 : w1.heap.size < w2.heap.size := (by omega)
  go_wp2_with fail
  refine (wireW.encode_ok x wide _ p _ (P2.out.at_below (by repeat (first | exact Below.refl _ _ | assumption | refine Below.drew ?_ | refine below_drewN ?_ _ | (refine Below.alloc ?_ (by (try simp); (try omega)) _) | (refine Below.setCell ?_ (by (try simp); (try omega)) _)))) x0 x1 X2.out hp8 BL.out).mono ?_
  rintro e w3 ⟨v3, rfl, hown3, hb_w3⟩
  rw [← EX.out, ← EM.out] at hown3
  have hs3 := Sl.of_own hown3
  obtain ⟨C3, c3, rfl, hc3, hm3⟩ := hs3.form
  have S3 := Lib.hid hs3; clear hs3 hown3
  have hb23 : Below w2.heap.size w2 w3 := hb_w3
  have P3 : Hid (Sl w3 w3.heap.size (Value.int .u8) (.slice C1 p.length c1) p) := P2.out.at_below hb23
  have X3 : Hid (Sl w3 w3.heap.size Value.bool (.slice C2 X.length c2) X) := S2.out.at_below hb23
  clear hb23 P2 S2
  obtain ⟨hc_w3, hf_w3⟩ := bcell hb_w3; have hz_w3 := hb_w3.size; (try simp at hz_w3); have hB_w3 : Below w.heap.size w w3 := Below.trans (by repeat (first | exact Below.refl _ _ | assumption | refine Below.drew ?_ | refine below_drewN ?_ _ | (refine Below.alloc ?_ (by (try simp); (try omega)) _) | (refine Below.setCell ?_ (by (try simp); (try omega)) _))) (hb_w3.mono (by (try simp); (try omega))); have z_w3_0 : w1.heap.size < w3.heap.size := (by omega)
  go_wp2_with fail
  refine (worksW.works_yes _).mono ?_
  rintro e w4 ⟨rfl, hb_w4⟩
  have hb34 : Below w3.heap.size w3 w4 := hb_w4
  have P4 : Hid (Sl w4 w4.heap.size (Value.int .u8) (.slice C1 p.length c1) p) := P3.out.at_below hb34
  have X4 : Hid (Sl w4 w4.heap.size Value.bool (.slice C2 X.length c2) X) := X3.out.at_below hb34
  have M4 : Hid (Sl w4 w4.heap.size Value.bool (.slice C3 M.length c3) M) := S3.out.at_below hb34
  clear hb34 P3 X3 S3
  obtain ⟨hc_w4, hf_w4⟩ := bcell hb_w4; have hz_w4 := hb_w4.size; (try simp at hz_w4); have hB_w4 : Below w.heap.size w w4 := Below.trans (by repeat (first | exact Below.refl _ _ | assumption | refine Below.drew ?_ | refine below_drewN ?_ _ | (refine Below.alloc ?_ (by (try simp); (try omega)) _) | (refine Below.setCell ?_ (by (try simp); (try omega)) _))) (hb_w4.mono (by (try simp); (try omega))); have z_w4_0 : w1.heap.size < w4.heap.size := (by omega)
  have f4 : ∀ o, w4.cell? ⟨w1.heap.size, o, none⟩ = (w1.alloc (.cells #[.int .u32 x, .bool wide, .slice C1 p.length c1] 46)).cell? ⟨w1.heap.size, o, none⟩ := fun o => by
    rw [hc_w4 _ _ (by omega), hc_w3 _ _ (by omega), hc_w2 _ _ (by simp)]
  have f40 : w4.cell? ⟨w1.heap.size, 0, none⟩ = some (.int .u32 x) := by rw [f4]; simp
  have f41 : w4.cell? ⟨w1.heap.size, 1, none⟩ = some (.bool wide) := by rw [f4]; simp
  have f42 : w4.cell? ⟨w1.heap.size, 2, none⟩ = some (.slice C1 p.length c1) := by rw [f4]; simp
  clear f4 hc_w1 hc_w2 hc_w3 hc_w4 hf_w1 hf_w2 hf_w3 hf_w4 hB_w1 hB_w2 hB_w3 hb_w1 hb_w2 hb_w3 hb_w4 z_w2_0 z_w3_0 hz_w1 hz_w2 hz_w3 hz_w4
  unfold maxLen at hm1 hm2 hm3
  cases wide
  all_goals
    first
      | (have lx := LX.out
         simp only [Bool.false_eq_true, if_false, if_true] at lx
         skip)
    clear LX
    obtain ⟨XL, hXL⟩ : ∃ XL, XL = X.length := ⟨_, rfl⟩
    rw [← hXL] at lx M1 M2 bX X4 hc2
    rw [← hXL]
    have HXL := Lib.hid hXL; clear hXL
    have HLX := Lib.hid lx
    first
      | (have d9 : ((XL : Int) == 34 + 8 * (p.length : Int)) = true := by simp; omega
         have m1 : 34 + 8 * p.length + 10 ≤ M.length := by omega
         have m2 : M.length ≤ 34 + 8 * p.length + 10 + (34 + 8 * p.length - 1) / 4 := by omega
         have d10 : decide ((M.length : Int) ≤ 34 + 8 * (p.length : Int) + 10 + (34 + 8 * (p.length : Int) - 1) / 4) = true := decide_eq_true (by omega)
         skip)
      | (have d9 : ((XL : Int) == 54 + 8 * (p.length : Int)) = true := by simp; omega
         have m1 : 54 + 8 * p.length + 10 ≤ M.length := by omega
         have m2 : M.length ≤ 54 + 8 * p.length + 10 + (54 + 8 * p.length - 1) / 4 := by omega
         have d10 : decide ((M.length : Int) ≤ 54 + 8 * (p.length : Int) + 10 + (54 + 8 * (p.length : Int) - 1) / 4) = true := decide_eq_true (by omega)
         skip)
    clear lx M1 M2
    go_wp2_with fail
    refine (decW.dec_any _ M _ M4.out (by omega)).mono ?_
    intro e w5 hD
    rw [DEC.out] at hD
    obtain ⟨v5, rfl, hown5, hb_w5⟩ := hD
    have hs5 := Sl.of_own hown5
    obtain ⟨C5, c5, rfl, hc5, hm5⟩ := hs5.form
    have S5 := Lib.hid hs5; clear hs5 hown5
    have P5 : Hid (Sl w5 w5.heap.size (Value.int .u8) (.slice C1 p.length c1) p) := P4.out.at_below hb_w5
    have X5 : Hid (Sl w5 w5.heap.size Value.bool (.slice C2 XL c2) X) := X4.out.at_below hb_w5
    have M5 : Hid (Sl w5 w5.heap.size Value.bool (.slice C3 M.length c3) M) := M4.out.at_below hb_w5
    clear P4 X4 M4 hm5 hc5
    obtain ⟨hc_w5, hf_w5⟩ := bcell hb_w5; have hz_w5 := hb_w5.size; (try simp at hz_w5); have hB_w5 : Below w.heap.size w w5 := Below.trans (by repeat (first | exact Below.refl _ _ | assumption | refine Below.drew ?_ | refine below_drewN ?_ _ | (refine Below.alloc ?_ (by (try simp); (try omega)) _) | (refine Below.setCell ?_ (by (try simp); (try omega)) _))) (hb_w5.mono (by (try simp); (try omega))); have z_w5_0 : w1.heap.size < w5.heap.size := (by omega)
    go_wp2_with fail
    refine (sameW.frame_any x x _ _ _ _ p p _ (S5.out.at_below (by repeat (first | exact Below.refl _ _ | assumption | refine Below.drew ?_ | refine below_drewN ?_ _ | (refine Below.alloc ?_ (by (try simp); (try omega)) _) | (refine Below.setCell ?_ (by (try simp); (try omega)) _)))) (P5.out.at_below (by repeat (first | exact Below.refl _ _ | assumption | refine Below.drew ?_ | refine below_drewN ?_ _ | (refine Below.alloc ?_ (by (try simp); (try omega)) _) | (refine Below.setCell ?_ (by (try simp); (try omega)) _))))).mono ?_
    rintro e w6 ⟨rfl, hb_w6⟩
    rw [decide_eq_true (show x = x ∧ _ = _ ∧ p = p from ⟨rfl, rfl, rfl⟩)]
    have hb56 : Below w5.heap.size w5 w6 := Below.trans (b := _) (by repeat (first | exact Below.refl _ _ | assumption | refine Below.drew ?_ | refine below_drewN ?_ _ | (refine Below.alloc ?_ (by (try simp); (try omega)) _) | (refine Below.setCell ?_ (by (try simp); (try omega)) _))) (hb_w6.mono (by (try simp); (try omega)))
    have X6 : Hid (Sl w6 w6.heap.size Value.bool (.slice C2 XL c2) X) := X5.out.at_below hb56
    have M6 : Hid (Sl w6 w6.heap.size Value.bool (.slice C3 M.length c3) M) := M5.out.at_below hb56
    clear P5 X5 M5 S5 hb56
    obtain ⟨hc_w6, hf_w6⟩ := bcell hb_w6; have hz_w6 := hb_w6.size; (try simp at hz_w6); have hB_w6 : Below w.heap.size w w6 := Below.trans (by repeat (first | exact Below.refl _ _ | assumption | refine Below.drew ?_ | refine below_drewN ?_ _ | (refine Below.alloc ?_ (by (try simp); (try omega)) _) | (refine Below.setCell ?_ (by (try simp); (try omega)) _))) (hb_w6.mono (by (try simp); (try omega))); have z_w6_0 : w1.heap.size < w6.heap.size := (by omega)
    go_wp2_with fail
    refine (wireW.wire_any _ X _ X6.out (by have := HXL.out; omega)).mono ?_
    rintro e w7 ⟨v7, rfl, hown7, hb_w7⟩
    have hs7 := Sl.of_own hown7
    obtain ⟨C7, c7, rfl, hc7, hm7⟩ := hs7.form
    have S7 := Lib.hid hs7; clear hs7 hown7
    have M7 : Hid (Sl w7 w7.heap.size Value.bool (.slice C3 M.length c3) M) := M6.out.at_below hb_w7
    have hB7 : Below w.heap.size w w7 := Below.trans hB_w6 (hb_w7.mono (by omega))
    clear X6 M6 hm7 hc7 hb_w7
    go_wp2_with fail
    refine (sameW.bools_any _ _ (wireW.wireF X) M _ w7.heap.size S7.out M7.out).mono ?_
    rintro e w8 ⟨rfl, n8, rfl⟩
    rw [decide_eq_true (show wireW.wireF X = M from EM.out.symm)]
    go_wp2
    go_ret
    exact ⟨rfl, below_drewN hB7 _⟩


end Go.Proofs.YthjjockimpndbaaDoor.frameThere
