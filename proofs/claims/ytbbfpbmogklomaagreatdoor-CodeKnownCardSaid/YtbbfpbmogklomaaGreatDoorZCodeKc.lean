/- busbarlaw12.knownBytes. Condition: the library's errors' type is laid. -/
import Derived.Test.YtbbfpbmogklomaaGreatDoorZCodeKb
import Derived.Test.YtbbfpbmogklomaaGreatDoorZKr
import Derived.Test.YtbbfpbmogklomaaGreatDoorZKn
namespace Go.Proofs.YtbbfpbmogklomaaGreatDoor
open Go.RowKit Go.Bus Go.Bus.cellK Go.Bus.codeK
set_option linter.unusedVariables false
set_option linter.unusedSimpArgs false
namespace codeW
theorem sl_lit {w : World} {e : TypeId} (l : List Int) (N : Nat) (hN : l.length = N) (hm : N ≤ 1000) : Sl (w.alloc (.cells (l.map byteV).toArray e)) (w.alloc (.cells (l.map byteV).toArray e)).heap.size byteV (.slice (some ⟨w.heap.size, 0, none⟩) N N) l := by
  have h := sl_pre (n := N) (Has.new w e (l.map byteV).toArray) hN hm (Nat.le_refl _)
  rw [List.take_of_length_le (by omega)] at h
  exact h
theorem own_lit {w : World} {e : TypeId} (l : List Int) (N : Nat) (hN : l.length = N) (hm : N ≤ 1000) : (w.alloc (.cells (l.map byteV).toArray e)).ownsRow w.heap.size e 1 (.slice (some ⟨w.heap.size, 0, none⟩) N N) N (l.map byteV) :=
  own_of_has (size := 1) (n := N) (Has.new w e _) (by simp [hN]) (Nat.le_refl _) (by unfold maxLen; omega)
set_option maxRecDepth 100000 in
set_option maxHeartbeats 16000000 in
theorem knownbytes_any (w : World) (hG : asK.ErrT w) : Calls Tryz.prog 6 #[] w fun e w' => e = .returned (.bool true) ∧ Below w.heap.size w w' := by
  obtain ⟨i1, hj, hj0, hj1, hj2⟩ := info_parts Tryz.infoB
  have HDE : Hid (∀ W, Below w.heap.size w W → ∀ (l : List Int) v, Sl W W.heap.size byteV v l → (∀ c ∈ l, Byte c) → l.length ≤ 1000 → Calls Tryz.prog 17 #[v] W fun e w' => e = .returned (.bool true) ∧ Below W.heap.size W w') := Lib.hid (fun W hw l v h hb hl => decodes_any W h hb (by omega) (hG.at_below hw))
  have HON : Hid (∀ W, Below w.heap.size w W → ∀ (l : List Int) v, Sl W W.heap.size byteV v l → (∀ c ∈ l, Byte c) → Calls Tryz.prog 18 #[v] W fun e w' => e = .returned (.bool true) ∧ Below W.heap.size W w') := Lib.hid (fun W hw l v h hb => only_any W h hb)
  have HCO : Hid (∀ W (l : List Int) v, Sl W W.heap.size byteV v l → l.length ≤ 1000 → Calls Tryz.prog 19 #[v] W fun e w' => ∃ u, e = .returned u ∧ w'.ownsRow W.heap.size 5 1 u l.length (l.map byteV) ∧ Below W.heap.size W w') := Lib.hid (fun W l v h hl => copybytes_any v l W h (by omega))
  clear hG
  go_enter Tryz.func6, Tryz.ntmps6
  go_wp2
  go_loopw [1] (fun ov wr => ∃ op : Nat, ov = .int .i64 (op : Nat) ∧ op ≤ 23 ∧ Hid (Below w.heap.size w wr)) (fun ov _ => 23 - (intOf ov).toNat)
  case atStart => exact ⟨0, rfl, by decide, Lib.hid (Below.refl _ _)⟩
  case round =>
    obtain ⟨op, rfl, hop, HB⟩ := hrel
    by_cases hlt : op < 23
    · have hle : decide ((op : Int) ≤ 22) = true := by simp; omega
      go_wp2
      go_loopw [2] (fun kv wr => ∃ k : Nat, kv = .int .i64 (k : Nat) ∧ k ≤ 262 ∧ Hid (Below w.heap.size w wr)) (fun kv _ => 262 - (intOf kv).toNat)
      case atStart => exact ⟨0, rfl, by decide, HB⟩
      case round =>
        clear HB
        obtain ⟨k, rfl, hk, HB⟩ := hrel
        by_cases hlk : k < 256
        · have dk : decide ((k : Int) < 256) = true := by simp; omega
          obtain ⟨bl, hbl⟩ : ∃ bl : List Int, bl = [(op : Int), (k : Int) % 17, (k : Int), (k : Int) / 2, (k : Int) / 16, 0] := ⟨_, rfl⟩
          have hb6 : bl.length = 6 := by rw [hbl]; rfl
          have HBY : Hid (∀ c ∈ bl, Byte c) := Lib.hid (by
            intro c hc; rw [hbl] at hc; unfold Byte
            simp only [List.mem_cons, List.not_mem_nil, or_false] at hc
            rcases hc with rfl | rfl | rfl | rfl | rfl | rfl <;> omega)
          have HNEW : Hid (Has (wr.alloc (.cells #[.int .u8 (op : Int), .int .u8 ((k : Int) % 17), .int .u8 (k : Int), .int .u8 ((k : Int) / 2), .int .u8 ((k : Int) / 16), .int .u8 0] 5)) wr.heap.size 5 (bl.map byteV).toArray) := Lib.hid (by rw [hbl]; exact Has.new wr _ _)
          have HB1 : Hid (Below w.heap.size w (wr.alloc (.cells #[.int .u8 (op : Int), .int .u8 ((k : Int) % 17), .int .u8 (k : Int), .int .u8 ((k : Int) / 2), .int .u8 ((k : Int) / 16), .int .u8 0] 5))) := Lib.hid (HB.out.alloc HB.out.size _)
          clear hbl
          go_wp2
          obtain ⟨wo, rfl⟩ : ∃ wo : World, wo = wr := ⟨_, rfl⟩
          go_loopw [4] (fun nv wr => ∃ n : Nat, nv = .int .i64 (n : Nat) ∧ n ≤ 7 ∧ Hid (Below w.heap.size w wr) ∧ Hid (Has wr wo.heap.size 5 (bl.map byteV).toArray)) (fun nv _ => 7 - (intOf nv).toNat)
          case atStart => exact ⟨0, rfl, by decide, HB1, HNEW⟩
          case round =>
            clear HB1 HNEW
            obtain ⟨n, rfl, hn, HBr, HH⟩ := hrel
            by_cases hln : n < 7
            · have hn6 : (n : Int) ≤ 6 := by omega
              have hs1 : ∀ W, (Instr.slice 28 (.slice (some ⟨wo.heap.size, 0, none⟩) 6 6) none (some (.int .i64 (n : Nat))) none).run Tryz.prog W = .ok (.slice (some ⟨wo.heap.size, 0, none⟩) n 6) W := fun W => slice_toB _ 6 6 n (by omega) W
              go_wp2_with fail
              refine (HDE.out wr HBr.out _ _ (sl_pre HH.out hb6 (by decide) (by omega)) (fun c hc => HBY.out c (List.mem_of_mem_take hc)) (by rw [List.length_take]; omega)).mono ?_
              rintro e w1 ⟨rfl, hb⟩
              have HB1 : Hid (Below w.heap.size w w1) := Lib.hid (HBr.out.trans (hb.mono HBr.out.size))
              have HH1 := Lib.hid (HH.out.below hb HH.out.lt)
              clear hb
              go_wp2_with fail
              refine (HON.out w1 HB1.out _ _ (sl_pre HH1.out hb6 (by decide) (by omega)) (fun c hc => HBY.out c (List.mem_of_mem_take hc))).mono ?_
              rintro e w2 ⟨rfl, hb⟩
              have HB2 : Hid (Below w.heap.size w w2) := Lib.hid (HB1.out.trans (hb.mono HB1.out.size))
              have HH2 := Lib.hid (HH1.out.below hb HH1.out.lt)
              clear hb
              go_wp2
              go_roundw
              case rel => exact ⟨n + 1, by go_num, by omega, HB2, HH2⟩
              case measure => simp [intOf]; omega
            · obtain rfl : n = 7 := by omega
              go_wp2
              go_roundw
              case rel => exact ⟨k + 7, by go_num, by omega, HBr⟩
              case measure => simp [intOf]; omega
        · go_wp2
          go_roundw
          case rel => exact ⟨op + 1, by go_num, by omega, HB⟩
          case measure => simp [intOf]; omega
    · obtain rfl : op = 23 := by omega
      have HO0 : Hid ((wr.alloc (.cells #[.int .u8 1, .int .u8 3] 5)).ownsRow w.heap.size 5 1 (.slice (some ⟨wr.heap.size, 0, none⟩) 2 2) 2 ([1, 3].map byteV)) := Lib.hid (own_base (own_lit [1, 3] 2 rfl (by decide)) HB.out.size)
      have HB0 : Hid (Below w.heap.size w (wr.alloc (.cells #[.int .u8 1, .int .u8 3] 5))) := Lib.hid (HB.out.alloc HB.out.size _)
      go_wp2
      obtain ⟨wq, rfl⟩ : ∃ wq : World, wq = wr := ⟨_, rfl⟩
      go_loopw [5, 6] (fun bv iv wr => ∃ (i : Nat) (l : List Int), iv = .int .i64 (i : Nat) ∧ i ≤ 12 ∧ l.length = 2 + i ∧ Hid (∀ c ∈ l, Byte c) ∧ Hid (wr.ownsRow w.heap.size 5 1 bv (2 + i) (l.map byteV)) ∧ Hid (Below w.heap.size w wr)) (fun _ iv _ => 12 - (intOf iv).toNat)
      case atStart => exact ⟨0, [1, 3], rfl, by decide, rfl, Lib.hid (by intro c hc; unfold Byte; simp at hc; omega), HO0, HB0⟩
      case round =>
        clear HO0 HB0 HB
        obtain ⟨i, l, rfl, hi, hl, HBY, HO, HBx⟩ := hrel
        obtain ⟨bA, bc, rfl⟩ := own_slice HO.out
        by_cases hli : i < 12
        · have di : decide ((i : Int) < 12) = true := by simp; omega
          go_wp2_with fail
          refine (HCO.out wr l _ (Sl.of_own (base := w.heap.size) (e := 5) (by rw [hl]; exact HO.out)) (by omega)).mono ?_
          rintro e w1 ⟨u, rfl, ho1, hb1⟩
          rw [hl] at ho1
          have HO1 := Lib.hid ho1
          have HC1 := Lib.hid hb1
          have zx := HBx.out.size
          clear ho1 hb1
          go_wp2
          obtain ⟨wo, rfl⟩ : ∃ wo : World, wo = wr := ⟨_, rfl⟩
          go_loopw [8] (fun lv wr => ∃ j : Nat, lv = .int .i64 (j : Nat) ∧ j ≤ 306 ∧ Hid (wr.ownsRow wo.heap.size 5 1 u (2 + i) (l.map byteV)) ∧ Hid (Below wo.heap.size wo wr)) (fun lv _ => 306 - (intOf lv).toNat)
          case atStart => exact ⟨0, rfl, by decide, HO1, HC1⟩
          case round =>
            clear HO1 HC1
            obtain ⟨j, rfl, hjj, HOc, HCc⟩ := hrel
            by_cases hlj : j < 256
            · skip
              have z0 := HCc.out.size
              go_wp2_with (at_builtin; refine wpList_append_beside _ (by rfl) _ _ 28 (by rfl) wo.heap.size 5 i1 (.int .u8 0) 1 1 Tryz.underlying28 hj hj0 hj1 hj2 (by rfl) (by decide) _ (2 + i) (l.map byteV) (by rfl) (by exact HOc.out.alloc _) (by omega) ⟨wr.heap.size, 0, none⟩ 1 1 [.int .u8 (j : Int)] (by rfl) (by rfl) (by exact one_new wr _ _) (by intro u hu; simp at hu; subst hu; rfl) (by unfold maxLen; omega) (by omega) (by simp; omega) ?_)
              intro v0 u1 hn1 ho1 hg1
              have HN0 : Hid (Sl u1 u1.heap.size byteV v0 (l ++ [(j : Int)])) := Lib.hid (Sl.of_own (base := wo.heap.size) (e := 5) (by rw [List.map_append, List.length_append, hl]; exact hn1))
              have HC0 : Hid (Below wo.heap.size wo u1) := Lib.hid ((HCc.out.alloc z0 _).grown hg1 (by simp; omega) (fun x hx => (HOc.out.lt x hx).1))
              have HO0 := Lib.hid ho1
              clear hn1 ho1 hg1
              go_wp2_with fail
              refine (HDE.out u1 (HBx.out.trans (HC0.out.mono zx)) _ _ HN0.out (fun c hc => by rcases List.mem_append.1 hc with hc | hc; exact HBY.out c hc; exact (by unfold Byte; simp at hc; omega)) (by simp; omega)).mono ?_
              rintro e u2 ⟨rfl, hb⟩
              have HCx0 := Lib.hid (HC0.out.trans (hb.mono HC0.out.size))
              have HOx0 := Lib.hid (own_kept HO0.out hb)
              clear hb HC0 HO0 HN0
              have z1 := HCx0.out.size
              go_wp2_with (at_builtin; refine wpList_append_beside _ (by rfl) _ _ 28 (by rfl) wo.heap.size 5 i1 (.int .u8 0) 1 1 Tryz.underlying28 hj hj0 hj1 hj2 (by rfl) (by decide) _ (2 + i) (l.map byteV) (by rfl) (by exact HOx0.out.alloc _) (by omega) ⟨u2.heap.size, 0, none⟩ 2 2 [.int .u8 1, .int .u8 (j : Int)] (by rfl) (by rfl) (by exact news_new u2 _ _) (by intro u hu; simp at hu; rcases hu with rfl | rfl <;> rfl) (by unfold maxLen; omega) (by omega) (by simp; omega) ?_)
              intro v1 u3 hn1 ho1 hg1
              have HN1 : Hid (Sl u3 u3.heap.size byteV v1 (l ++ [1, (j : Int)])) := Lib.hid (Sl.of_own (base := wo.heap.size) (e := 5) (by rw [List.map_append, List.length_append, hl]; exact hn1))
              have HC1 : Hid (Below wo.heap.size wo u3) := Lib.hid ((HCx0.out.alloc z1 _).grown hg1 (by simp; omega) (fun x hx => (HOx0.out.lt x hx).1))
              have HO1 := Lib.hid ho1
              clear hn1 ho1 hg1
              go_wp2_with fail
              refine (HDE.out u3 (HBx.out.trans (HC1.out.mono zx)) _ _ HN1.out (fun c hc => by rcases List.mem_append.1 hc with hc | hc; exact HBY.out c hc; exact (by unfold Byte; simp at hc; omega)) (by simp; omega)).mono ?_
              rintro e u4 ⟨rfl, hb⟩
              have HCx1 := Lib.hid (HC1.out.trans (hb.mono HC1.out.size))
              have HOx1 := Lib.hid (own_kept HO1.out hb)
              clear hb HC1 HO1 HN1
              have z2 := HCx1.out.size
              go_wp2_with (at_builtin; refine wpList_append_beside _ (by rfl) _ _ 28 (by rfl) wo.heap.size 5 i1 (.int .u8 0) 1 1 Tryz.underlying28 hj hj0 hj1 hj2 (by rfl) (by decide) _ (2 + i) (l.map byteV) (by rfl) (by exact HOx1.out.alloc _) (by omega) ⟨u4.heap.size, 0, none⟩ 1 1 [.int .u8 0] (by rfl) (by rfl) (by exact one_new u4 _ _) (by intro u hu; simp at hu; subst hu; rfl) (by unfold maxLen; omega) (by omega) (by simp; omega) ?_)
              intro v2 u5 hn1 ho1 hg1
              have HN2 : Hid (Sl u5 u5.heap.size byteV v2 (l ++ [0])) := Lib.hid (Sl.of_own (base := wo.heap.size) (e := 5) (by rw [List.map_append, List.length_append, hl]; exact hn1))
              have HC2 : Hid (Below wo.heap.size wo u5) := Lib.hid ((HCx1.out.alloc z2 _).grown hg1 (by simp; omega) (fun x hx => (HOx1.out.lt x hx).1))
              have HO2 := Lib.hid ho1
              clear hn1 ho1 hg1
              go_wp2_with fail
              refine (HDE.out u5 (HBx.out.trans (HC2.out.mono zx)) _ _ HN2.out (fun c hc => by rcases List.mem_append.1 hc with hc | hc; exact HBY.out c hc; exact (by unfold Byte; simp at hc; omega)) (by simp; omega)).mono ?_
              rintro e u6 ⟨rfl, hb⟩
              have HCx2 := Lib.hid (HC2.out.trans (hb.mono HC2.out.size))
              have HOx2 := Lib.hid (own_kept HO2.out hb)
              clear hb HC2 HO2 HN2
              have z3 := HCx2.out.size
              go_wp2_with (at_builtin; refine wpList_append_beside _ (by rfl) _ _ 28 (by rfl) wo.heap.size 5 i1 (.int .u8 0) 1 1 Tryz.underlying28 hj hj0 hj1 hj2 (by rfl) (by decide) _ (2 + i) (l.map byteV) (by rfl) (by exact HOx2.out.alloc _) (by omega) ⟨u6.heap.size, 0, none⟩ 1 1 [.int .u8 2] (by rfl) (by rfl) (by exact one_new u6 _ _) (by intro u hu; simp at hu; subst hu; rfl) (by unfold maxLen; omega) (by omega) (by simp; omega) ?_)
              intro v3 u7 hn1 ho1 hg1
              have HN3 : Hid (Sl u7 u7.heap.size byteV v3 (l ++ [2])) := Lib.hid (Sl.of_own (base := wo.heap.size) (e := 5) (by rw [List.map_append, List.length_append, hl]; exact hn1))
              have HC3 : Hid (Below wo.heap.size wo u7) := Lib.hid ((HCx2.out.alloc z3 _).grown hg1 (by simp; omega) (fun x hx => (HOx2.out.lt x hx).1))
              have HO3 := Lib.hid ho1
              clear hn1 ho1 hg1
              go_wp2_with fail
              refine (HDE.out u7 (HBx.out.trans (HC3.out.mono zx)) _ _ HN3.out (fun c hc => by rcases List.mem_append.1 hc with hc | hc; exact HBY.out c hc; exact (by unfold Byte; simp at hc; omega)) (by simp; omega)).mono ?_
              rintro e u8 ⟨rfl, hb⟩
              have HCx3 := Lib.hid (HC3.out.trans (hb.mono HC3.out.size))
              have HOx3 := Lib.hid (own_kept HO3.out hb)
              clear hb HC3 HO3 HN3
              go_wp2
              go_roundw
              case rel => exact ⟨j + 51, by go_num, by omega, HOx3, HCx3⟩
              case measure => simp [intOf]; omega
            · have HBr : Hid (Below w.heap.size w wr) := Lib.hid (HBx.out.trans (HCc.out.mono zx))
              have HOb := Lib.hid (own_kept HO.out HCc.out)
              have zr := HBr.out.size
              go_wp2_with (at_builtin; refine wpList_append_own _ rfl _ _ 28 (by rfl) w.heap.size 5 i1 (.int .u8 0) 1 1 Tryz.underlying28 hj hj0 hj1 hj2 (by rfl) (by decide) _ (2 + i) (l.map byteV) (by rfl) (by exact HOb.out.alloc _) ⟨wr.heap.size, 0, none⟩ 1 1 [.int .u8 255] (by rfl) (by rfl) (by exact one_new wr _ _) (by intro u hu; simp at hu; subst hu; rfl) (by unfold maxLen; omega) (by omega) (by simp; omega) ?_)
              intro v9 w9 ho9 hg9 _
              have HO9 : Hid (w9.ownsRow w.heap.size 5 1 v9 (2 + (i + 1)) ((l ++ [255]).map byteV)) := Lib.hid (by rw [List.map_append]; exact ho9)
              have HB9 : Hid (Below w.heap.size w w9) := Lib.hid ((HBr.out.alloc zr _).grown hg9 (by simp; omega) (fun x hx => (HOb.out.lt x hx).1))
              clear ho9 hg9
              have hl9 : (l ++ [255]).length = 2 + (i + 1) := by rw [List.length_append, hl]; rfl
              have HBY9 : Hid (∀ c ∈ l ++ [255], Byte c) := Lib.hid (fun c hc => by rcases List.mem_append.1 hc with hc | hc; exact HBY.out c hc; exact (by unfold Byte; simp at hc; omega))
              go_wp2
              go_roundw
              case rel => first | exact ⟨i + 1, l ++ [255], by go_num, by omega, hl9, HBY9, HO9, HB9⟩ | ((repeat apply Exists.intro); exact ⟨⟨i + 1, l ++ [255], by go_num, by omega, hl9, HBY9, HO9, HB9⟩, rfl⟩)
              case measure => simp [intOf]; omega
        · obtain rfl : i = 12 := by omega
          go_wp2_with fail
          refine (HDE.out _ (HBx.out.alloc HBx.out.size _) [20] _ (by exact sl_lit [20] 1 rfl (by decide)) (by intro c hc; unfold Byte; simp at hc; omega) (by decide)).mono ?_
          rintro e e0 ⟨rfl, hb⟩
          have HE0 : Hid (Below w.heap.size w e0) := Lib.hid ((HBx.out.alloc HBx.out.size _).trans (hb.mono (by have := HBx.out.size; simp; omega)))
          clear hb
          go_wp2_with fail
          refine (HDE.out _ (HE0.out.alloc HE0.out.size _) [0, 2, 16, 0] _ (by exact sl_lit [0, 2, 16, 0] 4 rfl (by decide)) (by intro c hc; unfold Byte; simp at hc; omega) (by decide)).mono ?_
          rintro e e1 ⟨rfl, hb⟩
          have HE1 : Hid (Below w.heap.size w e1) := Lib.hid ((HE0.out.alloc HE0.out.size _).trans (hb.mono (by have := HE0.out.size; simp; omega)))
          clear hb
          go_wp2_with fail
          refine (HDE.out _ (HE1.out.alloc HE1.out.size _) [18, 129, 128, 1] _ (by exact sl_lit [18, 129, 128, 1] 4 rfl (by decide)) (by intro c hc; unfold Byte; simp at hc; omega) (by decide)).mono ?_
          rintro e e2 ⟨rfl, hb⟩
          have HE2 : Hid (Below w.heap.size w e2) := Lib.hid ((HE1.out.alloc HE1.out.size _).trans (hb.mono (by have := HE1.out.size; simp; omega)))
          clear hb
          go_wp2_with fail
          refine (HDE.out _ (HE2.out.alloc HE2.out.size _) [18, 255, 255, 255, 255, 255, 255, 255, 255, 255, 1] _ (by exact sl_lit [18, 255, 255, 255, 255, 255, 255, 255, 255, 255, 1] 11 rfl (by decide)) (by intro c hc; unfold Byte; simp at hc; omega) (by decide)).mono ?_
          rintro e e3 ⟨rfl, hb⟩
          have HE3 : Hid (Below w.heap.size w e3) := Lib.hid ((HE2.out.alloc HE2.out.size _).trans (hb.mono (by have := HE2.out.size; simp; omega)))
          clear hb
          go_wp2
          go_ret
          exact ⟨rfl, HE3.out⟩
end codeW
end Go.Proofs.YtbbfpbmogklomaaGreatDoor
