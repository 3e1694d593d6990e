/- Proves FrameApartSaid: the bits of two unlike frames differ in six places at least, or in their number. No condition. -/
import Derived.Test.YthjjockimpndbaaDoorRows
import Derived.Test.YthjjockimpndbaaDoorZFrameArg
import Derived.Test.YthjjockimpndbaaDoorZKit
import Derived.Test.YthjjockimpndbaaDoorZWorks
import Derived.Test.YthjjockimpndbaaDoorZApartLaw
namespace Go.Proofs.YthjjockimpndbaaDoor.frameApart
open Go.RowKit Go.Bus Go.Bus.bitK Go.Bus.crcLaw Go.ChangeShapes Go.WideShapes Go.ChangeAt Go.Joins
set_option linter.unusedVariables false

theorem rid_bd (id : Int) (wide : Bool) (h : 0 ≤ id) (h' : id < 4294967296) : 0 ≤ rightW.rid id wide ∧ rightW.rid id wide < (if wide = true then 536870912 else 2048) := by
  unfold rightW.rid
  cases wide
  · simp only [Bool.false_eq_true, if_false]
    rw [u32_and _ _ (by omega) (by omega) (by omega) (by omega)]
    have h1 : id.toNat &&& (2047 : Int).toNat ≤ 2047 := Nat.and_le_right
    omega
  · simp only [if_true]
    rw [u32_and _ _ (by omega) (by omega) (by omega) (by omega)]
    have h1 : id.toNat &&& (536870911 : Int).toNat ≤ 536870911 := Nat.and_le_right
    omega

theorem few_count {i j : Int} {wide : Bool} {l m : List Int} (hl : l.length = m.length) (h8 : l.length ≤ 8) (hc : (diff (bitsF i wide l) (bitsF j wide m)).count true ≤ 5) : (diff (bitsF i wide l) (bitsF j wide m)).count true = 0 := by
  have h := few_none hl h8 hc
  rw [h]
  have h1 : ∀ d : List Bool, (diff d d).count true = 0 := by
    intro d
    induction d with
    | nil => rfl
    | cons b d ih => rw [diff, List.count_cons, ih]; cases b <;> rfl
  exact h1 _
/-- In how many of the first k places two rows differ. -/
def cnt (X Y : List Bool) (k : Nat) : Nat := (diff (X.take k) (Y.take k)).count true
theorem cnt_zero (X Y : List Bool) : cnt X Y 0 = 0 := rfl
theorem diff_snoc : ∀ (l m : List Bool) (a b : Bool), l.length = m.length → diff (l ++ [a]) (m ++ [b]) = diff l m ++ [a != b]
  | [], [], a, b, _ => rfl
  | x :: l, y :: m, a, b, h => by
    show (x != y) :: diff (l ++ [a]) (m ++ [b]) = _
    rw [diff_snoc l m a b (by simpa using h)]; rfl
  | [], _ :: _, _, _, h => by simp at h
  | _ :: _, [], _, _, h => by simp at h
theorem cnt_succ {X Y : List Bool} {k : Nat} (h : k < X.length) (h' : k < Y.length) : cnt X Y (k + 1) = cnt X Y k + if (X[k] != Y[k]) = true then 1 else 0 := by
  unfold cnt
  rw [List.take_succ_eq_append_getElem h, List.take_succ_eq_append_getElem h', diff_snoc _ _ _ _ (by simp; omega), List.count_append]
  cases X[k] <;> cases Y[k] <;> simp
theorem cnt_le {X Y : List Bool} : ∀ {k : Nat}, k ≤ X.length → k ≤ Y.length → cnt X Y k ≤ k
  | 0, _, _ => Nat.zero_le _
  | k + 1, h, h' => by
    rw [cnt_succ (by omega) (by omega)]
    have := cnt_le (X := X) (Y := Y) (k := k) (by omega) (by omega)
    split <;> omega
theorem cnt_all {X Y : List Bool} (h : X.length = Y.length) : cnt X Y X.length = (diff X Y).count true := by
  unfold cnt
  rw [List.take_of_length_le (Nat.le_refl _), List.take_of_length_le (by omega)]

set_option maxRecDepth 100000 in
set_option maxHeartbeats 1000000 in
theorem walk (i j : Int) (a b : Bool) (u v : Value) (l m : List Int) (w : World) (hi : 0 ≤ i) (hi' : i < 4294967296) (hj : 0 ≤ j) (hj' : j < 4294967296) (hu : Sl w w.heap.size (Value.int .u8) u l) (hv : Sl w w.heap.size (Value.int .u8) v m) (hul : ∀ x ∈ l, 0 ≤ x ∧ x < 256) (hvm : ∀ x ∈ m, 0 ≤ x ∧ x < 256) :
    Calls Tryd.prog 68 #[.agg #[.int .u32 i, .bool a, u], .agg #[.int .u32 j, .bool b, v]] w fun e w' => e = .returned (.bool true) ∧ Below w.heap.size w w' := by
  obtain ⟨A1, n1, rfl, hn1, hx1⟩ := hu.form
  obtain ⟨A2, n2, rfl, hn2, hx2⟩ := hv.form
  have HU := Lib.hid hu; clear hu
  have HV := Lib.hid hv; clear hv
  clear hn1 hx1 hn2 hx2
  obtain ⟨p, hp⟩ : ∃ p, p = l.take 8 := ⟨_, rfl⟩
  obtain ⟨q, hq⟩ : ∃ q, q = m.take 8 := ⟨_, rfl⟩
  obtain ⟨x, hx⟩ : ∃ x, x = rightW.rid i a := ⟨_, rfl⟩
  obtain ⟨y, hy⟩ : ∃ y, y = rightW.rid j b := ⟨_, rfl⟩
  have RI := Lib.hid (rid_bd i a hi hi')
  have RJ := Lib.hid (rid_bd j b hj hj')
  rw [← hx] at RI
  rw [← hy] at RJ
  have hp8 : p.length ≤ 8 := by rw [hp, List.length_take]; omega
  have hq8 : q.length ≤ 8 := by rw [hq, List.length_take]; omega
  have BL : Hid (∀ x ∈ p, 0 ≤ x ∧ x < 256) := fun x hx => hul x (List.mem_of_mem_take (hp ▸ hx))
  have BM : Hid (∀ x ∈ q, 0 ≤ x ∧ x < 256) := fun x hx => hvm x (List.mem_of_mem_take (hq ▸ hx))
  have HP := Lib.hid hp; clear hp
  have HQ := Lib.hid hq; clear hq
  have HX := Lib.hid hx; clear hx
  have HY := Lib.hid hy; clear hy
  have x0 : 0 ≤ x := RI.out.1
  have x1 : x ≤ 536870911 := by have := RI.out.2; split at this <;> omega
  have X2 : Hid (a = false → x ≤ 2047) := by intro e; have := RI.out.2; rw [e] at this; simp at this; omega
  have y0 : 0 ≤ y := RJ.out.1
  have y1 : y ≤ 536870911 := by have := RJ.out.2; split at this <;> omega
  have Y2 : Hid (b = false → y ≤ 2047) := by intro e; have := RJ.out.2; rw [e] at this; simp at this; omega
  obtain ⟨X, hX⟩ : ∃ X, X = bitsF x a p := ⟨_, rfl⟩
  obtain ⟨Y, hY⟩ : ∃ Y, Y = bitsF y b q := ⟨_, rfl⟩
  have lX : X.length = (if a = true then 54 else 34) + 8 * p.length := by rw [hX]; exact bitsF_length _ _ _
  have lY : Y.length = (if b = true then 54 else 34) + 8 * q.length := by rw [hY]; exact bitsF_length _ _ _
  have bX : X.length ≤ 118 := by rw [lX]; split <;> omega
  have bY : Y.length ≤ 118 := by rw [lY]; split <;> omega
  have EX := Lib.hid hX; clear hX
  have EY := Lib.hid hY; clear hY
  have LX := Lib.hid lX; clear lX
  have LY := Lib.hid lY; clear lY
  clear hul hvm hi hi' hj hj'
  go_enter Tryd.func68, Tryd.ntmps68
  go_wp2_with fail
  refine (rightW.right_any i a _ l _ (HU.out.at_below (by repeat (first | exact Below.refl _ _ | assumption | refine Below.drew ?_ | refine below_drewN ?_ _ | (refine Below.alloc ?_ (by (try simp); (try omega)) _) | (refine Below.setCell ?_ (by (try simp); (try omega)) _))))).mono ?_
  rintro e w1 ⟨v1, rfl, hown1, hb_w1⟩
  rw [← HX.out]
  rw [← HP.out] at hown1
  have hs1 := Sl.of_own hown1
  obtain ⟨C1, c1, rfl, hc1, hm1⟩ := hs1.form
  have S1 := Lib.hid hs1; clear hs1 hown1
  obtain ⟨hc_w1, hf_w1⟩ := bcell hb_w1; have hz_w1 := hb_w1.size; (try simp at hz_w1); have hB_w1 : Below w.heap.size w w1 := Below.trans (by repeat (first | exact Below.refl _ _ | assumption | refine Below.drew ?_ | refine below_drewN ?_ _ | (refine Below.alloc ?_ (by (try simp); (try omega)) _) | (refine Below.setCell ?_ (by (try simp); (try omega)) _))) (hb_w1.mono (by (try simp); (try omega))); have z_w1_0 : w.heap.size < w1.heap.size := (by omega); have z_w1_1 : w.heap.size + 1 < w1.heap.size := (by omega)
  go_wp2_with fail
  refine (rightW.right_any j b _ m _ (HV.out.at_below (by repeat (first | exact Below.refl _ _ | assumption | refine Below.drew ?_ | refine below_drewN ?_ _ | (refine Below.alloc ?_ (by (try simp); (try omega)) _) | (refine Below.setCell ?_ (by (try simp); (try omega)) _))))).mono ?_
  rintro e w2 ⟨v2, rfl, hown2, hb_w2⟩
  rw [← HY.out]
  rw [← HQ.out] at hown2
  have hs2 := Sl.of_own hown2
  obtain ⟨C2, c2, rfl, hc2, hm2⟩ := hs2.form
  have S2 := Lib.hid hs2; clear hs2 hown2
  have hb12 : Below w1.heap.size w1 w2 := Below.trans (b := _) (by repeat (first | exact Below.refl _ _ | assumption | refine Below.drew ?_ | refine below_drewN ?_ _ | (refine Below.alloc ?_ (by (try simp); (try omega)) _) | (refine Below.setCell ?_ (by (try simp); (try omega)) _))) (hb_w2.mono (by (try simp); (try omega)))
  have S1' : Hid (Sl w2 w2.heap.size (Value.int .u8) (.slice C1 p.length c1) p) := S1.out.at_below hb12
  clear hb12 S1
  obtain ⟨hc_w2, hf_w2⟩ := bcell hb_w2; have hz_w2 := hb_w2.size; (try simp at hz_w2); have hB_w2 : Below w.heap.size w w2 := Below.trans (by repeat (first | exact Below.refl _ _ | assumption | refine Below.drew ?_ | refine below_drewN ?_ _ | (refine Below.alloc ?_ (by (try simp); (try omega)) _) | (refine Below.setCell ?_ (by (try simp); (try omega)) _))) (hb_w2.mono (by (try simp); (try omega))); have z_w2_0 : w1.heap.size < w2.heap.size := (by omega)
  go_wp2_with fail
  refine (bitsW.bits_ok x a _ p _ (S1'.out.at_below (by repeat (first | exact Below.refl _ _ | assumption | refine Below.drew ?_ | refine below_drewN ?_ _ | (refine Below.alloc ?_ (by (try simp); (try omega)) _) | (refine Below.setCell ?_ (by (try simp); (try omega)) _)))) x0 x1 X2.out hp8 BL.out).mono ?_
  rintro e w3 ⟨v3, rfl, hown3, hb_w3⟩
  rw [← EX.out] at hown3
  have hs3 := Sl.of_own hown3
  obtain ⟨C3, c3, rfl, hc3, hm3⟩ := hs3.form
  have S3 := Lib.hid hs3; clear hs3 hown3
  have hb23 : Below w2.heap.size w2 w3 := Below.trans (b := _) (by repeat (first | exact Below.refl _ _ | assumption | refine Below.drew ?_ | refine below_drewN ?_ _ | (refine Below.alloc ?_ (by (try simp); (try omega)) _) | (refine Below.setCell ?_ (by (try simp); (try omega)) _))) (hb_w3.mono (by (try simp); (try omega)))
  obtain ⟨hc_w3, hf_w3⟩ := bcell hb_w3; have hz_w3 := hb_w3.size; (try simp at hz_w3); have hB_w3 : Below w.heap.size w w3 := Below.trans (by repeat (first | exact Below.refl _ _ | assumption | refine Below.drew ?_ | refine below_drewN ?_ _ | (refine Below.alloc ?_ (by (try simp); (try omega)) _) | (refine Below.setCell ?_ (by (try simp); (try omega)) _))) (hb_w3.mono (by (try simp); (try omega))); have z_w3_0 : w1.heap.size < w3.heap.size := (by omega); have z_w3_1 : w2.heap.size < w3.heap.size := (by omega)
  go_wp2_with fail
  refine (bitsW.bits_ok y b _ q _ ((S2.out.at_below hb23).at_below (by repeat (first | exact Below.refl _ _ | assumption | refine Below.drew ?_ | refine below_drewN ?_ _ | (refine Below.alloc ?_ (by (try simp); (try omega)) _) | (refine Below.setCell ?_ (by (try simp); (try omega)) _)))) y0 y1 Y2.out hq8 BM.out).mono ?_
  rintro e w4 ⟨v4, rfl, hown4, hb_w4⟩
  rw [← EY.out] at hown4
  have hs4 := Sl.of_own hown4
  obtain ⟨C4, c4, rfl, hc4, hm4⟩ := hs4.form
  have S4 := Lib.hid hs4; clear hs4 hown4
  have hb34 : Below w3.heap.size w3 w4 := Below.trans (b := _) (by repeat (first | exact Below.refl _ _ | assumption | refine Below.drew ?_ | refine below_drewN ?_ _ | (refine Below.alloc ?_ (by (try simp); (try omega)) _) | (refine Below.setCell ?_ (by (try simp); (try omega)) _))) (hb_w4.mono (by (try simp); (try omega)))
  have S3' : Hid (Sl w4 w4.heap.size Value.bool (.slice C3 X.length c3) X) := S3.out.at_below hb34
  have hb24 : Below w2.heap.size w2 w4 := hb23.trans (hb34.mono hb23.size)
  obtain ⟨hc_w4, hf_w4⟩ := bcell hb_w4; have hz_w4 := hb_w4.size; (try simp at hz_w4); have hB_w4 : Below w.heap.size w w4 := Below.trans (by repeat (first | exact Below.refl _ _ | assumption | refine Below.drew ?_ | refine below_drewN ?_ _ | (refine Below.alloc ?_ (by (try simp); (try omega)) _) | (refine Below.setCell ?_ (by (try simp); (try omega)) _))) (hb_w4.mono (by (try simp); (try omega))); have z_w4_0 : w1.heap.size < w4.heap.size := (by omega); have z_w4_1 : w2.heap.size < w4.heap.size := (by omega)
  go_wp2_with fail
  refine (worksW.works_yes _).mono ?_
  rintro e w5 ⟨rfl, hb_w5⟩
  obtain ⟨hc_w5, hf_w5⟩ := bcell hb_w5; have hz_w5 := hb_w5.size; (try simp at hz_w5); have hB_w5 : Below w.heap.size w w5 := Below.trans (by repeat (first | exact Below.refl _ _ | assumption | refine Below.drew ?_ | refine below_drewN ?_ _ | (refine Below.alloc ?_ (by (try simp); (try omega)) _) | (refine Below.setCell ?_ (by (try simp); (try omega)) _))) (hb_w5.mono (by (try simp); (try omega))); have z_w5_0 : w1.heap.size < w5.heap.size := (by omega); have z_w5_1 : w2.heap.size < w5.heap.size := (by omega)
  have hb45 : Below w4.heap.size w4 w5 := hb_w5
  have SX : Hid (Sl w5 w5.heap.size Value.bool (.slice C3 X.length c3) X) := S3'.out.at_below hb45
  have SY : Hid (Sl w5 w5.heap.size Value.bool (.slice C4 Y.length c4) Y) := S4.out.at_below hb45
  have SQ : Hid (Sl w5 w5.heap.size (Value.int .u8) (.slice C2 q.length c2) q) := (S2.out.at_below hb24).at_below (hb45.mono (Nat.le_trans (Nat.le_refl _) (Nat.le_refl _)))
  have SP : Hid (Sl w5 w5.heap.size (Value.int .u8) (.slice C1 p.length c1) p) := ((S1'.out.at_below hb23).at_below hb34).at_below hb45
  clear S1' S2 S3 S3' S4 hb45 hb34 hb24 hb23
  have f5 : ∀ o, w5.cell? ⟨w1.heap.size, o, none⟩ = (w1.alloc (.cells #[.int .u32 x, .bool a, .slice C1 p.length c1] 46)).cell? ⟨w1.heap.size, o, none⟩ := fun o => by
    rw [hc_w5 _ _ (by omega), hc_w4 _ _ (by omega), hc_w3 _ _ (by simp; omega), World.cell?_alloc_lt w2 _ ⟨w1.heap.size, o, none⟩ (show w1.heap.size < w2.heap.size from z_w2_0), hc_w2 _ _ (by simp)]
  have f6 : ∀ o, w5.cell? ⟨w2.heap.size, o, none⟩ = (w2.alloc (.cells #[.int .u32 y, .bool b, .slice C2 q.length c2] 46)).cell? ⟨w2.heap.size, o, none⟩ := fun o => by
    rw [hc_w5 _ _ (by omega), hc_w4 _ _ (by omega), hc_w3 _ _ (by simp)]
  have f50 : w5.cell? ⟨w1.heap.size, 0, none⟩ = some (.int .u32 x) := by rw [f5]; simp
  have f51 : w5.cell? ⟨w1.heap.size, 1, none⟩ = some (.bool a) := by rw [f5]; simp
  have f52 : w5.cell? ⟨w1.heap.size, 2, none⟩ = some (.slice C1 p.length c1) := by rw [f5]; simp
  have f60 : w5.cell? ⟨w2.heap.size, 0, none⟩ = some (.int .u32 y) := by rw [f6]; simp
  have f61 : w5.cell? ⟨w2.heap.size, 1, none⟩ = some (.bool b) := by rw [f6]; simp
  have f62 : w5.cell? ⟨w2.heap.size, 2, none⟩ = some (.slice C2 q.length c2) := by rw [f6]; simp
  clear f5 f6 hc_w1 hc_w2 hc_w3 hc_w4 hc_w5 hf_w1 hf_w2 hf_w3 hf_w4 hf_w5 hB_w1 hB_w2 hB_w3 hB_w4 hb_w1 hb_w2 hb_w3 hb_w4 hb_w5
  -- which of the three: what the test asks, what the number of bits says
  have three : (a = b ∧ p.length = q.length ∧ X.length = Y.length) ∨ (a = b ∧ p.length ≠ q.length ∧ X.length ≠ Y.length) ∨ (a ≠ b ∧ X.length ≠ Y.length) := by
    rw [LX.out, LY.out]
    cases a <;> cases b <;> simp <;> omega
  unfold maxLen at hm1 hm2 hm3 hm4
  rcases three with ⟨t1, t2, t3⟩ | ⟨t1, t2, t3⟩ | ⟨t1, t3⟩
  · subst t1
    have d2 : ((p.length : Int) != (q.length : Int)) = false := by simp; omega
    have d3 : ((X.length : Int) != (Y.length : Int)) = false := by simp; omega
    have T2 := Lib.hid t2; clear t2
    go_wp2
    go_loopw [11, 12] (fun o i wr => ∃ k n : Nat, k ≤ X.length ∧ k ≤ Y.length ∧ o = .int .i64 (cnt X Y k : Nat) ∧ i = .int .i64 k ∧ wr = w5.drewN n) (fun _ i _ => X.length - (intOf i).toNat)
    case atStart => exact ⟨0, 0, Nat.zero_le _, Nat.zero_le _, rfl, rfl, rfl⟩
    case round =>
      obtain ⟨k, n, hk, hk', rfl, rfl, rfl⟩ := hrel
      have hcl := cnt_le hk hk'
      by_cases hlt : k < X.length
      · by_cases hlt2 : k < Y.length
        · obtain ⟨b1, o1, rfl, hb1, hq1⟩ := SX.out.at_ hlt
          obtain ⟨b2, o2, rfl, hb2, hq2⟩ := SY.out.at_ hlt2
          have hs := cnt_succ hlt hlt2
          generalize X[k] = x1 at *
          generalize Y[k] = y1 at *
          generalize cnt X Y k = N at *
          have HS := Lib.hid hs; clear hs
          cases x1 <;> cases y1
          all_goals
            go_wp2
            go_quiet (fail)
            go_wp2
            go_roundw
          all_goals first
            | exact ⟨k + 1, _, by omega, by omega, by rw [HS.out]; first | rfl | (simp; done) | go_num, by go_num, rfl⟩
            | (simp [intOf]; done)
            | (simp [intOf]; omega)
        · exact absurd hlt (by omega)
      · obtain rfl : k = X.length := by omega
        have hall : cnt X Y X.length = (diff X Y).count true := cnt_all t3
        by_cases hle : (diff X Y).count true ≤ 5
        · have h0 : (diff X Y).count true = 0 := by
            rw [EX.out, EY.out] at hle ⊢; exact few_count T2.out hp8 hle
          have hin := bitsF_inj (wide := a) T2.out BL.out BM.out RI.out.1 RI.out.2 RJ.out.1 RJ.out.2 (by rw [← EX.out, ← EY.out]; exact diff_none X Y t3 h0)
          rw [h0] at hall
          rw [hall]
          have HIN := Lib.hid hin
          clear hin h0 hle hall hcl
          go_wp2_with fail
          refine (sameW.frame_any x y a a _ _ p q _ (SP.out.at_below (by repeat (first | exact Below.refl _ _ | assumption | refine Below.drew ?_ | refine below_drewN ?_ _ | (refine Below.alloc ?_ (by (try simp); (try omega)) _) | (refine Below.setCell ?_ (by (try simp); (try omega)) _)))) (SQ.out.at_below (by repeat (first | exact Below.refl _ _ | assumption | refine Below.drew ?_ | refine below_drewN ?_ _ | (refine Below.alloc ?_ (by (try simp); (try omega)) _) | (refine Below.setCell ?_ (by (try simp); (try omega)) _))))).mono ?_
          rintro e w6 ⟨rfl, hb_w6⟩
          rw [decide_eq_true (show x = y ∧ a = a ∧ p = q from ⟨HIN.out.1, rfl, HIN.out.2⟩)]
          go_wp2
          go_ret
          exact ⟨rfl, (below_drewN hB_w5 _).trans (hb_w6.mono (by (try simp); (try omega)))⟩
        · have hN : 6 ≤ cnt X Y X.length := by omega
          generalize cnt X Y X.length = N at *
          clear hall hle
          go_wp2
          go_ret
          exact ⟨rfl, below_drewN hB_w5 _⟩
  · subst t1
    have d2 : ((p.length : Int) != (q.length : Int)) = true := by simp; omega
    have d3 : ((X.length : Int) != (Y.length : Int)) = true := by simp; omega
    clear t2 t3
    go_wp2
    go_loopw [11, 12] (fun o i wr => ∃ k n : Nat, k ≤ X.length ∧ k ≤ Y.length ∧ o = .int .i64 (cnt X Y k : Nat) ∧ i = .int .i64 k ∧ wr = w5.drewN n) (fun _ i _ => X.length - (intOf i).toNat)
    case atStart => exact ⟨0, 0, Nat.zero_le _, Nat.zero_le _, rfl, rfl, rfl⟩
    case round =>
      obtain ⟨k, n, hk, hk', rfl, rfl, rfl⟩ := hrel
      have hcl := cnt_le hk hk'
      by_cases hlt : k < X.length
      · by_cases hlt2 : k < Y.length
        · obtain ⟨b1, o1, rfl, hb1, hq1⟩ := SX.out.at_ hlt
          obtain ⟨b2, o2, rfl, hb2, hq2⟩ := SY.out.at_ hlt2
          have hs := cnt_succ hlt hlt2
          generalize X[k] = x1 at *
          generalize Y[k] = y1 at *
          generalize cnt X Y k = N at *
          have HS := Lib.hid hs; clear hs
          cases x1 <;> cases y1
          all_goals
            go_wp2
            go_quiet (fail)
            go_wp2
            go_roundw
          all_goals first
            | exact ⟨k + 1, _, by omega, by omega, by rw [HS.out]; first | rfl | (simp; done) | go_num, by go_num, rfl⟩
            | (simp [intOf]; done)
            | (simp [intOf]; omega)
        · have d5 : k = Y.length := by omega
          go_wp2
          go_ret
          exact ⟨rfl, below_drewN hB_w5 _⟩
      · obtain rfl : k = X.length := by omega
        go_wp2
        go_ret
        exact ⟨rfl, below_drewN hB_w5 _⟩
  · obtain rfl : b = !a := by cases a <;> cases b <;> simp_all
    have d1 : (a != !a) = true := by cases a <;> rfl
    have d3 : ((X.length : Int) != (Y.length : Int)) = true := by simp; omega
    clear t3 t1
    go_wp2
    go_loopw [11, 12] (fun o i wr => ∃ k n : Nat, k ≤ X.length ∧ k ≤ Y.length ∧ o = .int .i64 (cnt X Y k : Nat) ∧ i = .int .i64 k ∧ wr = w5.drewN n) (fun _ i _ => X.length - (intOf i).toNat)
    case atStart => exact ⟨0, 0, Nat.zero_le _, Nat.zero_le _, rfl, rfl, rfl⟩
    case round =>
      obtain ⟨k, n, hk, hk', rfl, rfl, rfl⟩ := hrel
      have hcl := cnt_le hk hk'
      by_cases hlt : k < X.length
      · by_cases hlt2 : k < Y.length
        · obtain ⟨b1, o1, rfl, hb1, hq1⟩ := SX.out.at_ hlt
          obtain ⟨b2, o2, rfl, hb2, hq2⟩ := SY.out.at_ hlt2
          have hs := cnt_succ hlt hlt2
          generalize X[k] = x1 at *
          generalize Y[k] = y1 at *
          generalize cnt X Y k = N at *
          have HS := Lib.hid hs; clear hs
          cases x1 <;> cases y1
          all_goals
            go_wp2
            go_quiet (fail)
            go_wp2
            go_roundw
          all_goals first
            | exact ⟨k + 1, _, by omega, by omega, by rw [HS.out]; first | rfl | (simp; done) | go_num, by go_num, rfl⟩
            | (simp [intOf]; done)
            | (simp [intOf]; omega)
        · have d5 : k = Y.length := by omega
          go_wp2
          go_ret
          exact ⟨rfl, below_drewN hB_w5 _⟩
      · obtain rfl : k = X.length := by omega
        go_wp2
        go_ret
        exact ⟨rfl, below_drewN hB_w5 _⟩


end Go.Proofs.YthjjockimpndbaaDoor.frameApart
