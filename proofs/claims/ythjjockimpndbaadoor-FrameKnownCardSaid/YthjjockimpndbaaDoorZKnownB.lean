/- The closed statement FrameKnown: knownFrames. Condition: errors.errorType is laid. -/
import Derived.Test.YthjjockimpndbaaDoorZKnownA
import Derived.Test.YthjjockimpndbaaDoorZFrameThere
import Derived.Test.YthjjockimpndbaaDoorZFrameApart
import Derived.Test.YthjjockimpndbaaDoorZFrameBitsAll
namespace Go.Proofs.YthjjockimpndbaaDoor.frameKnownW
open Go.RowKit Go.Bus Go.Bus.bitK
set_option linter.unusedVariables false
def IDS : List Int := [0, 1, 1024, 1365, 2047, 2048, 131072, 262144, 262143, 536870911, 536870912, 4294967295]
theorem ids_ok : ∀ x ∈ IDS, 0 ≤ x ∧ x < 4294967296 := by decide

set_option maxRecDepth 100000 in
set_option maxHeartbeats 4000000 in
theorem frames (w : World) (hG : asK.ErrT w) : Calls Tryd.prog 32 #[] w fun e w' => e = .returned (.bool true) ∧ Below w.heap.size w w' := by
  obtain ⟨i0, hi, hz0, hz1, hz2⟩ := info_parts Tryd.infoB
  have HG := Lib.hid hG; clear hG
  go_enter Tryd.func32, Tryd.ntmps32
  obtain ⟨W1, hW1⟩ : ∃ W1, W1 = w.alloc (.cells (IDS.map (Value.int .u32)).toArray 43) := ⟨_, rfl⟩
  have HD1 := Lib.hid (show Has W1 w.heap.size 43 (IDS.map (Value.int .u32)).toArray by rw [hW1]; exact Has.new w _ _)
  have HB1 := Lib.hid (show Below w.heap.size w W1 by rw [hW1]; exact (Below.refl _ w).alloc (Nat.le_refl _) _)
  have hz1w : w.heap.size < W1.heap.size := by rw [hW1]; simp
  have HW1 := Lib.hid (show W1 = w.alloc (.cells #[.int .u32 0, .int .u32 1, .int .u32 1024, .int .u32 1365, .int .u32 2047, .int .u32 2048, .int .u32 131072, .int .u32 262144, .int .u32 262143, .int .u32 536870911, .int .u32 536870912, .int .u32 4294967295] 43) from hW1)
  clear hW1
  go_wp2
  rw [← HW1.out]
  go_loopw [2] (fun i wr => ∃ k : Nat, i = .int .i64 k ∧ k ≤ 12 ∧ Below W1.heap.size W1 wr) (fun i _ => 12 - (intOf i).toNat)
  case atStart => exact ⟨0, rfl, by omega, Below.refl _ _⟩
  case round =>
    obtain ⟨k, rfl, hk, hB⟩ := hrel
    have HB := Lib.hid hB
    clear hB
    by_cases hlt : k < 12
    · have dk : decide ((k : Int) < 12) = true := decide_eq_true (by omega)
      go_wp2
      clear dk
      go_loopw [3, 4] (fun o i wr => ∃ (j : Nat) (D : List Int), i = .int .i64 j ∧ j ≤ 11 ∧ D.length = j ∧ Hid (∀ x ∈ D, 0 ≤ x ∧ x < 256) ∧ wr.ownsRow W1.heap.size 5 1 o D.length (D.map (Value.int .u8)) ∧ Below W1.heap.size W1 wr) (fun _ i _ => 11 - (intOf i).toNat)
      case atStart => exact ⟨0, [], rfl, by omega, rfl, Lib.hid (by simp), World.ownsRow_nil _ _ _ _, HB.out⟩
      case round =>
        clear HB
        obtain ⟨j, D, rfl, hj, hDl, HDB, hown, hB⟩ := hrel
        have HDL := Lib.hid hDl
        have hDl1 : D.length ≤ j := by omega
        have hDl2 : j ≤ D.length := by omega
        obtain ⟨A, c, rfl⟩ := decW.own_slice hown
        have H0 := Lib.hid hown
        have HB0 := Lib.hid hB
        clear hDl hown
        by_cases hlt2 : j ≤ 10
        · have dj : decide ((j : Int) ≤ 10) = true := decide_eq_true (by omega)
          obtain ⟨x, hx⟩ : ∃ x, IDS[k]? = some x := ⟨_, List.getElem?_eq_getElem (show k < IDS.length from hlt)⟩
          have hxb := ids_ok x (List.mem_of_getElem? hx)
          obtain ⟨hx0, hx1⟩ := hxb
          have hidk : wr.cell? ⟨w.heap.size, k, none⟩ = some (.int .u32 x) := by
            rw [(HD1.out.below hB HD1.out.lt).cell k]; simp [hx]
          have hzr := hB.size
          have hwz : w.heap.size < wr.heap.size := by omega
          clear hB hx
          obtain ⟨V0, hV0⟩ : ∃ V0, V0 = (wr.alloc (.cells #[.int .u32 x, .bool false, .slice A D.length c] 46)).alloc (.cells #[.int .u32 x, .bool true, .slice A D.length c] 46) := ⟨_, rfl⟩
          have hb0 : Below wr.heap.size wr V0 := by rw [hV0]; exact ((Below.refl _ wr).alloc (Nat.le_refl _) _).alloc (by simp) _
          have HO0 := Lib.hid (own_kept H0.out hb0)
          have HF0 := Lib.hid (show Has V0 wr.heap.size 46 #[.int .u32 x, .bool false, .slice A D.length c] by rw [hV0]; exact (Has.new wr _ _).alloc _)
          have HH0 := Lib.hid (show Has V0 (wr.heap.size + 1) 46 #[.int .u32 x, .bool true, .slice A D.length c] by rw [hV0]; exact decW.arr_new wr _ _ _)
          have HBV0 := Lib.hid (HB0.out.trans (hb0.mono HB0.out.size))
          have HV0 := Lib.hid hV0
          clear hV0 hb0 H0 HB0
          go_wp2_with fail
          rw [← HV0.out]
          refine (frameBitsW.whole x false _ D _ (Sl.of_own HO0.out) (by omega) (HG.out.at_below (HB1.out.trans (HBV0.out.mono HB1.out.size))) hx0 hx1 HDB.out).mono ?_
          rintro e V1 ⟨rfl, hb⟩
          have HO1 := Lib.hid (own_kept HO0.out hb)
          have HF1 := Lib.hid (HF0.out.below hb HF0.out.lt)
          have HH1 := Lib.hid (HH0.out.below hb HH0.out.lt)
          have HBV1 := Lib.hid (HBV0.out.trans (hb.mono HBV0.out.size))
          clear hb
          have d0 := HH1.out.cell 0
          have d1 := HH1.out.cell 1
          have d2 := HH1.out.cell 2
          simp only [List.getElem?_toArray, List.getElem?_cons_zero, List.getElem?_cons_succ] at d0 d1 d2
          go_wp2_with fail
          clear d0 d1 d2
          refine (frameBitsW.whole x true _ D _ (Sl.of_own HO1.out) (by omega) (HG.out.at_below (HB1.out.trans (HBV1.out.mono HB1.out.size))) hx0 hx1 HDB.out).mono ?_
          rintro e V2 ⟨rfl, hb⟩
          have HO2 := Lib.hid (own_kept HO1.out hb)
          have HF2 := Lib.hid (HF1.out.below hb HF1.out.lt)
          have HH2 := Lib.hid (HH1.out.below hb HH1.out.lt)
          have HBV2 := Lib.hid (HBV1.out.trans (hb.mono HBV1.out.size))
          clear hb
          have c0 := HF2.out.cell 0
          have c1 := HF2.out.cell 1
          have c2 := HF2.out.cell 2
          simp only [List.getElem?_toArray, List.getElem?_cons_zero, List.getElem?_cons_succ] at c0 c1 c2
          go_wp2_with fail
          clear c0 c1 c2
          refine (frameThere.walk x false _ D _ hx0 hx1 (Sl.of_own HO2.out) HDB.out).mono ?_
          rintro e V3 ⟨rfl, hb⟩
          have HO3 := Lib.hid (own_kept HO2.out hb)
          have HF3 := Lib.hid (HF2.out.below hb HF2.out.lt)
          have HH3 := Lib.hid (HH2.out.below hb HH2.out.lt)
          have HBV3 := Lib.hid (HBV2.out.trans (hb.mono HBV2.out.size))
          clear hb
          have d0 := HH3.out.cell 0
          have d1 := HH3.out.cell 1
          have d2 := HH3.out.cell 2
          simp only [List.getElem?_toArray, List.getElem?_cons_zero, List.getElem?_cons_succ] at d0 d1 d2
          go_wp2_with fail
          clear d0 d1 d2
          refine (frameThere.walk x true _ D _ hx0 hx1 (Sl.of_own HO3.out) HDB.out).mono ?_
          rintro e V4 ⟨rfl, hb⟩
          have HO4 := Lib.hid (own_kept HO3.out hb)
          have HF4 := Lib.hid (HF3.out.below hb HF3.out.lt)
          have HH4 := Lib.hid (HH3.out.below hb HH3.out.lt)
          have HBV4 := Lib.hid (HBV3.out.trans (hb.mono HBV3.out.size))
          clear hb
          have c0 := HF4.out.cell 0
          have c1 := HF4.out.cell 1
          have c2 := HF4.out.cell 2
          simp only [List.getElem?_toArray, List.getElem?_cons_zero, List.getElem?_cons_succ] at c0 c1 c2
          have d0 := HH4.out.cell 0
          have d1 := HH4.out.cell 1
          have d2 := HH4.out.cell 2
          simp only [List.getElem?_toArray, List.getElem?_cons_zero, List.getElem?_cons_succ] at d0 d1 d2
          go_wp2_with fail
          clear c0 c1 c2 d0 d1 d2
          refine (frameApart.walk x x false true _ _ D D _ hx0 hx1 hx0 hx1 (Sl.of_own HO4.out) (Sl.of_own HO4.out) HDB.out HDB.out).mono ?_
          rintro e V5 ⟨rfl, hb⟩
          have HO5 := Lib.hid (own_kept HO4.out hb)
          have HF5 := Lib.hid (HF4.out.below hb HF4.out.lt)
          have HH5 := Lib.hid (HH4.out.below hb HH4.out.lt)
          have HBV5 := Lib.hid (HBV4.out.trans (hb.mono HBV4.out.size))
          clear hb
          have hzV := HBV5.out.size
          obtain ⟨y, hy⟩ : ∃ y, y = 31 * ((k : Int) + (j : Int)) % 256 := ⟨_, rfl⟩
          have hyb : 0 ≤ y ∧ y < 256 := by omega
          have HY := Lib.hid hy
          clear hy
          go_wp2_with (at_builtin; rw [← HY.out]; refine wpList_append_own _ rfl _ _ 44 rfl W1.heap.size 5 i0 (.int .u8 0) 1 1 Tryd.underlying44 hi hz0 hz1 hz2 rfl (by decide) _ _ _ rfl (HO5.out.alloc _) ⟨V5.heap.size, 0, none⟩ 1 1 [.int .u8 y] rfl rfl ?c1 ?c2 ?c3 ?c4 ?c5 ?_)
          case c1 => exact one_new V5 _ _
          case c2 => intro u hu; simp at hu; subst hu; rfl
          case c3 => unfold maxLen; omega
          case c4 => omega
          case c5 => simp; omega
          intro v' w9 hown' hgrow _
          have hr := Round.step (B := W1.heap.size) HBV5.out HO5.out hown' hgrow hzV (hxs := rfl)
          have hown2 : w9.ownsRow W1.heap.size 5 1 v' (D ++ [y]).length ((D ++ [y]).map (Value.int .u8)) := by rw [List.length_append, List.map_append]; exact hr.1
          have HO9 := Lib.hid hown2
          have HB9 := Lib.hid hr.2
          have HDN : Hid (∀ x ∈ D ++ [y], 0 ≤ x ∧ x < 256) := Lib.hid fun x hx => by
            rcases List.mem_append.1 hx with h | h
            · exact HDB.out x h
            · rw [List.mem_singleton.1 h]; exact hyb
          clear hown' hgrow hr hown2
          go_wp2
          go_roundw
          case rel => first | exact ⟨j + 1, D ++ [y], by go_num, by omega, by rw [List.length_append, HDL.out]; rfl, HDN, HO9.out, HB9.out⟩ | ((repeat apply Exists.intro); exact ⟨⟨j + 1, D ++ [y], by go_num, by omega, by rw [List.length_append, HDL.out]; rfl, HDN, HO9.out, HB9.out⟩, rfl⟩)
          case measure => first | (simp [intOf]; done) | (simp [intOf]; omega)
        · obtain rfl : j = 11 := by omega
          clear hB
          go_wp2
          go_roundw
          case rel => exact ⟨k + 1, by go_num, by omega, HB0.out⟩
          case measure => first | (simp [intOf]; done) | (simp [intOf]; omega)
    · obtain rfl : k = 12 := by omega
      go_wp2
      go_ret
      exact ⟨rfl, HB1.out.trans (HB.out.mono HB1.out.size)⟩
end Go.Proofs.YthjjockimpndbaaDoor.frameKnownW
