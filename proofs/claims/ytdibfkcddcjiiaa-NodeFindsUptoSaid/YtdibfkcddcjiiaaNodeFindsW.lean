/- Proves NodeFindsUptoSaid: the first message of a name, and each message that a part is, are found; memory. Condition: what is read is of bulk at most 1048576. -/
import Derived.Test.YtdibfkcddcjiiaaRows
import Derived.Test.YtdibfkcddcjiiaaNodeFi1
import Derived.Deep.DeepCutAuto
namespace Go.Proofs.Ytdibfkcddcjiiaa.nodeFinds
open Go.RowKit Go.Bus Go.Bus.cellK Go.Bus.dbK Go.ChangeShapes Go.WideShapes Go.ChangeAt Go.Joins
open nodeC nodeK nodeL nodeT bookD
set_option linter.unusedVariables false
set_option linter.unusedSimpArgs false
set_option maxRecDepth 100000 in
set_option maxHeartbeats 8000000 in
theorem walk (d : Db) (sv mv tv : Value) (name : ByteArray) (w : World) (hs : SlK 1 strE w (Old w.heap.size) sv d.sta.names) (hm : SlK 8 msgE w (Old w.heap.size) mv d.msgs) (ht : SlK 6 tabE w (Old w.heap.size) tv d.tabs) (hok : DbOk d) (hN : bulkU.dbN d ≤ 1048576) :
    Calls Try.prog 4 #[.agg (dbCells d sv mv tv).toArray, .string name] w fun e w' => e = .returned (.bool true) ∧ Below w.heap.size w w' := by
  obtain ⟨Am, cm, rfl, _, m2⟩ := hm.form
  obtain ⟨At, ct, rfl, _, t2⟩ := ht.form
  unfold maxLen at m2 t2
  have hal : Below w.heap.size w (w.alloc (.cells (dbCells d sv (.slice Am d.msgs.length cm) (.slice At d.tabs.length ct)).toArray 32)) := (Below.refl _ _).alloc (Nat.le_refl _) _
  have HLI := Lib.hid (list_any d sv (.slice Am d.msgs.length cm) (.slice At d.tabs.length ct) (Old w.heap.size) (w.alloc (.cells (dbCells d sv (.slice Am d.msgs.length cm) (.slice At d.tabs.length ct)).toArray 32)) (hs.below strE_mono hal) (hm.below msgE_mono hal) (ht.below tabE_mono hal) (fun b hb => Nat.lt_of_lt_of_le hb hal.size) hok)
  have HX0 := Lib.hid (Has.new w 32 (dbCells d sv (.slice Am d.msgs.length cm) (.slice At d.tabs.length ct)).toArray)
  have HAL := Lib.hid hal
  have HS := Lib.hid hs
  have HM := Lib.hid hm
  have HT := Lib.hid ht
  have HOK := Lib.hid hok
  have HSUM : Hid ((d.msgs.map bulkU.msgN).sum ≤ 1048576) := by
    unfold bulkU.dbN at hN
    exact Lib.hid (by omega)
  have hdm : d.msgs.length ≤ 1048576 := by have := sumS_le d.msgs; have := HSUM.out; omega
  clear hs hm ht hok hal hN
  simp only [dbCells] at HLI HX0 HAL ⊢
  go_enter Try.func4, Try.ntmps4
  go_wp2_with fail
  refine (HLI.out).mono ?_
  rintro e w1 ⟨v, rfl, hO, hb1⟩
  have HL : Hid (SlK 1 ndE w1 (Old w1.heap.size) v (nodes d)) := Lib.hid (((hO.sl ndO_mono).weak (fun _ _ => ndO_ndE)).more ndE_mono (fun b hb => hb.2))
  have HX1 := Lib.hid (HX0.out.below hb1 HX0.out.lt)
  have HB1 : Hid (Below w.heap.size w w1) := Lib.hid (HAL.out.trans (hb1.mono HAL.out.size))
  obtain ⟨Al, cl, rfl, l1, l2⟩ := HL.out.form
  unfold maxLen at l2
  have HTOLD : Hid (∀ W, Below w1.heap.size w1 W → Calls Try.prog 7 #[.slice Al (nodes d).length cl, .agg #[.bool d.hasV, .int .i64 d.ver.line, .int .i64 d.ver.col, .string d.ver.text, .int .i64 d.sta.line, .int .i64 d.sta.col, sv, .slice Am d.msgs.length cm, .slice At d.tabs.length ct]] W fun e w' => e = .returned (.bool true) ∧ Below W.heap.size W w') := fun W hW => by
    have hwW : Below w.heap.size w W := HB1.out.trans (hW.mono HB1.out.size)
    exact told_any _ d sv (.slice Am d.msgs.length cm) (.slice At d.tabs.length ct) (Old w1.heap.size) W (HL.out.below ndE_mono hW) ((HS.out.below strE_mono hwW).more strE_mono (fun b hb => Nat.lt_of_lt_of_le hb HB1.out.size)) ((HM.out.below msgE_mono hwW).more msgE_mono (fun b hb => Nat.lt_of_lt_of_le hb HB1.out.size)) ((HT.out.below tabE_mono hwW).more tabE_mono (fun b hb => Nat.lt_of_lt_of_le hb HB1.out.size)) (fun b hb => Nat.lt_of_lt_of_le hb hW.size) HOK.out
  have HCB : Hid (∀ W, Below w1.heap.size w1 W → W.cell? ⟨w.heap.size, 0, none⟩ = some (.bool d.hasV) ∧ W.cell? ⟨w.heap.size, 1, none⟩ = some (.int .i64 d.ver.line) ∧ W.cell? ⟨w.heap.size, 2, none⟩ = some (.int .i64 d.ver.col) ∧ W.cell? ⟨w.heap.size, 3, none⟩ = some (.string d.ver.text) ∧ W.cell? ⟨w.heap.size, 4, none⟩ = some (.int .i64 d.sta.line) ∧ W.cell? ⟨w.heap.size, 5, none⟩ = some (.int .i64 d.sta.col) ∧ W.cell? ⟨w.heap.size, 6, none⟩ = some sv ∧ W.cell? ⟨w.heap.size, 7, none⟩ = some (.slice Am d.msgs.length cm) ∧ W.cell? ⟨w.heap.size, 8, none⟩ = some (.slice At d.tabs.length ct) ∧ w.heap.size < W.heap.size) := fun W hW => by
    have h := HX1.out.below hW HX1.out.lt
    exact ⟨(h.cell 0).trans rfl, (h.cell 1).trans rfl, (h.cell 2).trans rfl, (h.cell 3).trans rfl, (h.cell 4).trans rfl, (h.cell 5).trans rfl, (h.cell 6).trans rfl, (h.cell 7).trans rfl, (h.cell 8).trans rfl, h.lt⟩
  have HRF : Hid (∀ W, Below w1.heap.size w1 W → Calls Try.prog 11 #[.slice Am d.msgs.length cm, .string name] W fun e w' => ∃ u, e = .returned (.tuple #[.agg (msgCells ((findD d.msgs name).getD m0) u).toArray, .bool (findD d.msgs name).isSome]) ∧ SlK 19 sigE w' (Old w1.heap.size) u ((findD d.msgs name).getD m0).sigs ∧ Below W.heap.size W w') := fun W hW => by
    have hwW : Below w.heap.size w W := HB1.out.trans (hW.mono HB1.out.size)
    refine (rfind2 _ d.msgs name (Old w1.heap.size) W ((HM.out.below msgE_mono hwW).more msgE_mono (fun b hb => Nat.lt_of_lt_of_le hb HB1.out.size)) (fun b hb => Nat.lt_of_lt_of_le hb hW.size)).mono ?_
    rintro e w' ⟨u, rfl, h1, h2⟩
    exact ⟨u, rfl, h1.belowF sigE_mono (fun b hb => Nat.lt_of_lt_of_le hb hW.size) h2, h2⟩
  have HNF : Hid (∀ W, Below w1.heap.size w1 W → Calls Try.prog 12 #[.slice Al (nodes d).length cl, .string name] W fun e w' => ∃ u, e = .returned (.tuple #[.agg (msgCells ((findD d.msgs name).getD m0) u).toArray, .bool (findD d.msgs name).isSome]) ∧ OwD 19 (sigO tStr) w' (Iv W.heap.size w'.heap.size) 0 tSig u ((findD d.msgs name).getD m0).sigs ∧ Below W.heap.size W w') := fun W hW => by
    have h := find2 _ (nodes d) name (Old w1.heap.size) W (HL.out.below ndE_mono hW) (fun b hb => Nat.lt_of_lt_of_le hb hW.size) (fun m hm => HOK.out.msgs m (by
      unfold nodes at hm
      rw [List.mem_append, List.mem_append, List.mem_append] at hm
      rcases hm with ((h | h) | h) | h
      · split at h <;> simp at h
      · simp at h
      · simpa using h
      · simp at h))
    rw [msgs_nodes] at h
    exact h
  obtain ⟨M, hM⟩ : ∃ M, M = (findD d.msgs name).getD m0 := ⟨_, rfl⟩
  obtain ⟨bo, hbo⟩ : ∃ bo, bo = (findD d.msgs name).isSome := ⟨_, rfl⟩
  rw [← hM, ← hbo] at HRF HNF
  have hfl := found_le (l := d.msgs) (s := name) HSUM.out
  rw [← hM] at hfl
  have hml : M.sigs.length ≤ 1048576 := hfl.1
  have HFL := Lib.hid hfl
  clear hM hbo hfl hO hb1 HLI HX0 HAL
  simp only [msgCells] at HRF HNF
  obtain ⟨y0, y1, y2, y3, y4, y5, y6, y7, y8, ylt⟩ := HCB.out w1 (Below.refl _ _)
  go_wp2_with fail
  refine (HTOLD.out w1 (Below.refl _ _)).mono ?_
  rintro e w2 ⟨rfl, hb2⟩
  have HB2 := Lib.hid hb2
  clear y0 y1 y2 y3 y4 y5 y6 y7 y8 ylt hb2
  obtain ⟨y0, y1, y2, y3, y4, y5, y6, y7, y8, ylt⟩ := HCB.out w2 HB2.out
  go_wp2_with fail
  refine (HRF.out w2 HB2.out).mono ?_
  rintro e w3 ⟨u3, rfl, hu3, hb3⟩
  obtain ⟨A3, c3, rfl, _, _⟩ := hu3.form
  have HU3 := Lib.hid hu3
  have hal3 : Below w3.heap.size w3 (w3.alloc (.cells #[.int .i64 M.line, .int .i64 M.col, .int .u32 M.id, .bool M.wide, .string M.name, .int .i64 M.size, .string M.sender, .slice A3 M.sigs.length c3] 62)) := (Below.refl _ _).alloc (Nat.le_refl _) _
  have HB3 : Hid (Below w1.heap.size w1 (w3.alloc (.cells #[.int .i64 M.line, .int .i64 M.col, .int .u32 M.id, .bool M.wide, .string M.name, .int .i64 M.size, .string M.sender, .slice A3 M.sigs.length c3] 62))) := Lib.hid ((HB2.out.trans (hb3.mono HB2.out.size)).trans (hal3.mono (Nat.le_trans HB2.out.size hb3.size)))
  have HW3 := Lib.hid (Has.new w3 62 #[.int .i64 M.line, .int .i64 M.col, .int .u32 M.id, .bool M.wide, .string M.name, .int .i64 M.size, .string M.sender, .slice A3 M.sigs.length c3])
  have HU3' : Hid (SlK 19 sigE (w3.alloc (.cells #[.int .i64 M.line, .int .i64 M.col, .int .u32 M.id, .bool M.wide, .string M.name, .int .i64 M.size, .string M.sender, .slice A3 M.sigs.length c3] 62)) (Old w1.heap.size) (.slice A3 M.sigs.length c3) M.sigs) := Lib.hid (hu3.belowF sigE_mono (fun b hb => Nat.lt_of_lt_of_le hb (Nat.le_trans HB2.out.size hb3.size)) hal3)
  clear y0 y1 y2 y3 y4 y5 y6 y7 y8 ylt hu3 hb3 hal3 HU3
  go_wp2_with fail
  generalize w3.alloc (.cells #[.int .i64 M.line, .int .i64 M.col, .int .u32 M.id, .bool M.wide, .string M.name, .int .i64 M.size, .string M.sender, .slice A3 M.sigs.length c3] 62) = W3 at HB3 HW3 HU3' ⊢
  refine (HNF.out W3 HB3.out).mono ?_
  rintro e w4 ⟨u4, rfl, hu4, hb4⟩
  obtain ⟨A4, c4, rfl, _, _⟩ := (hu4.sl sigO_mono).form
  have hc4 := Coll.nil_ w1.heap.size W3 [] [] []
  obtain ⟨D4, T4, S4, hc4, ht4, hs4, hd4⟩ := add2 hc4 HB3.out.size hb4 hu4 (by omega) (fun s hs => by have := HFL.out.2 s hs; omega)
  have hal4 : Below w4.heap.size w4 (w4.alloc (.cells #[.int .i64 M.line, .int .i64 M.col, .int .u32 M.id, .bool M.wide, .string M.name, .int .i64 M.size, .string M.sender, .slice A4 M.sigs.length c4] 62)) := (Below.refl _ _).alloc (Nat.le_refl _) _
  have HC4 := Lib.hid (hc4.below hal4)
  have HD4 := Lib.hid (hd4.below hal4)
  have HT4 := Lib.hid ht4
  have HS4 := Lib.hid hs4
  have hb34 : Below W3.heap.size W3 (w4.alloc (.cells #[.int .i64 M.line, .int .i64 M.col, .int .u32 M.id, .bool M.wide, .string M.name, .int .i64 M.size, .string M.sender, .slice A4 M.sigs.length c4] 62)) := hb4.trans (hal4.mono hb4.size)
  have HU4 : Hid (SlK 19 sigE (w4.alloc (.cells #[.int .i64 M.line, .int .i64 M.col, .int .u32 M.id, .bool M.wide, .string M.name, .int .i64 M.size, .string M.sender, .slice A4 M.sigs.length c4] 62)) (Old w4.heap.size) (.slice A4 M.sigs.length c4) M.sigs) := Lib.hid (((hu4.sl sigO_mono).weak (fun _ _ => sigO_sigE)).more sigE_mono (fun b hb => hb.2) |>.below sigE_mono hal4)
  have HB4 : Hid (Below w1.heap.size w1 (w4.alloc (.cells #[.int .i64 M.line, .int .i64 M.col, .int .u32 M.id, .bool M.wide, .string M.name, .int .i64 M.size, .string M.sender, .slice A4 M.sigs.length c4] 62))) := Lib.hid (HB3.out.trans (hb34.mono HB3.out.size))
  have HW3b := Lib.hid (HW3.out.below hb34 HW3.out.lt)
  have HU3b := Lib.hid (HU3'.out.belowF sigE_mono (fun b hb => Nat.lt_of_lt_of_le hb HB3.out.size) hb34)
  have HW4 := Lib.hid (Has.new w4 62 #[.int .i64 M.line, .int .i64 M.col, .int .u32 M.id, .bool M.wide, .string M.name, .int .i64 M.size, .string M.sender, .slice A4 M.sigs.length c4])
  have hl4 : w4.heap.size < (w4.alloc (.cells #[.int .i64 M.line, .int .i64 M.col, .int .u32 M.id, .bool M.wide, .string M.name, .int .i64 M.size, .string M.sender, .slice A4 M.sigs.length c4] 62)).heap.size := HW4.out.lt
  have HL4 := Lib.hid hl4
  clear hc4 hd4 hb34 hal4 hu4 hb4 ht4 hs4 hl4 HW3 HU3'
  go_wp2_with fail
  generalize (w4.alloc (.cells #[.int .i64 M.line, .int .i64 M.col, .int .u32 M.id, .bool M.wide, .string M.name, .int .i64 M.size, .string M.sender, .slice A4 M.sigs.length c4] 62)) = W4 at HC4 HD4 HU4 HB4 HW3b HU3b HW4 HL4 ⊢
  refine (HNF.out W4 HB4.out).mono ?_
  rintro e w5 ⟨u5, rfl, hu5, hb5⟩
  obtain ⟨A5, c5, rfl, _, _⟩ := (hu5.sl sigO_mono).form
  obtain ⟨D5, T5, S5, hc5, ht5, hs5, hd5⟩ := add2 HC4.out HB4.out.size hb5 hu5 (by omega) (fun s hs => by have := HFL.out.2 s hs; omega)
  have hal5 : Below w5.heap.size w5 (w5.alloc (.cells #[.int .i64 M.line, .int .i64 M.col, .int .u32 M.id, .bool M.wide, .string M.name, .int .i64 M.size, .string M.sender, .slice A5 M.sigs.length c5] 62)) := (Below.refl _ _).alloc (Nat.le_refl _) _
  have HC5 := Lib.hid (hc5.below hal5)
  have HD5 := Lib.hid (hd5.below hal5)
  have HT5 := Lib.hid ht5
  have HS5 := Lib.hid hs5
  have hb45 : Below W4.heap.size W4 (w5.alloc (.cells #[.int .i64 M.line, .int .i64 M.col, .int .u32 M.id, .bool M.wide, .string M.name, .int .i64 M.size, .string M.sender, .slice A5 M.sigs.length c5] 62)) := hb5.trans (hal5.mono hb5.size)
  have HU5 : Hid (SlK 19 sigE (w5.alloc (.cells #[.int .i64 M.line, .int .i64 M.col, .int .u32 M.id, .bool M.wide, .string M.name, .int .i64 M.size, .string M.sender, .slice A5 M.sigs.length c5] 62)) (Old w5.heap.size) (.slice A5 M.sigs.length c5) M.sigs) := Lib.hid (((hu5.sl sigO_mono).weak (fun _ _ => sigO_sigE)).more sigE_mono (fun b hb => hb.2) |>.below sigE_mono hal5)
  have HB5 : Hid (Below w1.heap.size w1 (w5.alloc (.cells #[.int .i64 M.line, .int .i64 M.col, .int .u32 M.id, .bool M.wide, .string M.name, .int .i64 M.size, .string M.sender, .slice A5 M.sigs.length c5] 62))) := Lib.hid (HB4.out.trans (hb45.mono HB4.out.size))
  have HW3c := Lib.hid (HW3b.out.below hb45 HW3b.out.lt)
  have HU3c := Lib.hid (HU3b.out.belowF sigE_mono (fun b hb => Nat.lt_of_lt_of_le hb HB4.out.size) hb45)
  have HW4c := Lib.hid (HW4.out.below hb45 HW4.out.lt)
  have HU4c := Lib.hid (HU4.out.belowF sigE_mono (fun b hb => Nat.lt_trans hb HL4.out) hb45)
  have HD4c := Lib.hid (HD4.out.below hb45)
  have HW5 := Lib.hid (Has.new w5 62 #[.int .i64 M.line, .int .i64 M.col, .int .u32 M.id, .bool M.wide, .string M.name, .int .i64 M.size, .string M.sender, .slice A5 M.sigs.length c5])
  have HL5 := Lib.hid (show w4.heap.size < (w5.alloc (.cells #[.int .i64 M.line, .int .i64 M.col, .int .u32 M.id, .bool M.wide, .string M.name, .int .i64 M.size, .string M.sender, .slice A5 M.sigs.length c5] 62)).heap.size from Nat.lt_of_lt_of_le HL4.out hb45.size)
  have HL6 := Lib.hid (show w5.heap.size < (w5.alloc (.cells #[.int .i64 M.line, .int .i64 M.col, .int .u32 M.id, .bool M.wide, .string M.name, .int .i64 M.size, .string M.sender, .slice A5 M.sigs.length c5] 62)).heap.size from HW5.out.lt)
  clear hc5 hd5 hb45 hal5 hu5 hb5 ht5 hs5 HW3b HU3b HW4 HU4 HC4
  have HCELL : Hid (∀ W, Below (w5.alloc (.cells #[.int .i64 M.line, .int .i64 M.col, .int .u32 M.id, .bool M.wide, .string M.name, .int .i64 M.size, .string M.sender, .slice A5 M.sigs.length c5] 62)).heap.size (w5.alloc (.cells #[.int .i64 M.line, .int .i64 M.col, .int .u32 M.id, .bool M.wide, .string M.name, .int .i64 M.size, .string M.sender, .slice A5 M.sigs.length c5] 62)) W → W.cell? ⟨w3.heap.size, 0, none⟩ = some (.int .i64 M.line) ∧ W.cell? ⟨w3.heap.size, 1, none⟩ = some (.int .i64 M.col) ∧ W.cell? ⟨w3.heap.size, 2, none⟩ = some (.int .u32 M.id) ∧ W.cell? ⟨w3.heap.size, 3, none⟩ = some (.bool M.wide) ∧ W.cell? ⟨w3.heap.size, 4, none⟩ = some (.string M.name) ∧ W.cell? ⟨w3.heap.size, 5, none⟩ = some (.int .i64 M.size) ∧ W.cell? ⟨w3.heap.size, 6, none⟩ = some (.string M.sender) ∧ W.cell? ⟨w3.heap.size, 7, none⟩ = some (.slice A3 M.sigs.length c3) ∧ W.cell? ⟨w4.heap.size, 0, none⟩ = some (.int .i64 M.line) ∧ W.cell? ⟨w4.heap.size, 1, none⟩ = some (.int .i64 M.col) ∧ W.cell? ⟨w4.heap.size, 2, none⟩ = some (.int .u32 M.id) ∧ W.cell? ⟨w4.heap.size, 3, none⟩ = some (.bool M.wide) ∧ W.cell? ⟨w4.heap.size, 4, none⟩ = some (.string M.name) ∧ W.cell? ⟨w4.heap.size, 5, none⟩ = some (.int .i64 M.size) ∧ W.cell? ⟨w4.heap.size, 6, none⟩ = some (.string M.sender) ∧ W.cell? ⟨w4.heap.size, 7, none⟩ = some (.slice A4 M.sigs.length c4) ∧ W.cell? ⟨w5.heap.size, 0, none⟩ = some (.int .i64 M.line) ∧ W.cell? ⟨w5.heap.size, 1, none⟩ = some (.int .i64 M.col) ∧ W.cell? ⟨w5.heap.size, 2, none⟩ = some (.int .u32 M.id) ∧ W.cell? ⟨w5.heap.size, 3, none⟩ = some (.bool M.wide) ∧ W.cell? ⟨w5.heap.size, 4, none⟩ = some (.string M.name) ∧ W.cell? ⟨w5.heap.size, 5, none⟩ = some (.int .i64 M.size) ∧ W.cell? ⟨w5.heap.size, 6, none⟩ = some (.string M.sender) ∧ W.cell? ⟨w5.heap.size, 7, none⟩ = some (.slice A5 M.sigs.length c5)) := fun W hW => by
    have h3 := HW3c.out.below hW HW3c.out.lt
    have h4 := HW4c.out.below hW HW4c.out.lt
    have h5 := HW5.out.below hW HW5.out.lt
    exact ⟨(h3.cell 0).trans rfl, (h3.cell 1).trans rfl, (h3.cell 2).trans rfl, (h3.cell 3).trans rfl, (h3.cell 4).trans rfl, (h3.cell 5).trans rfl, (h3.cell 6).trans rfl, (h3.cell 7).trans rfl, (h4.cell 0).trans rfl, (h4.cell 1).trans rfl, (h4.cell 2).trans rfl, (h4.cell 3).trans rfl, (h4.cell 4).trans rfl, (h4.cell 5).trans rfl, (h4.cell 6).trans rfl, (h4.cell 7).trans rfl, (h5.cell 0).trans rfl, (h5.cell 1).trans rfl, (h5.cell 2).trans rfl, (h5.cell 3).trans rfl, (h5.cell 4).trans rfl, (h5.cell 5).trans rfl, (h5.cell 6).trans rfl, (h5.cell 7).trans rfl⟩
  have HSM1 : Hid (∀ W, Below (w5.alloc (.cells #[.int .i64 M.line, .int .i64 M.col, .int .u32 M.id, .bool M.wide, .string M.name, .int .i64 M.size, .string M.sender, .slice A5 M.sigs.length c5] 62)).heap.size (w5.alloc (.cells #[.int .i64 M.line, .int .i64 M.col, .int .u32 M.id, .bool M.wide, .string M.name, .int .i64 M.size, .string M.sender, .slice A5 M.sigs.length c5] 62)) W → Calls Try.prog 13 #[.agg #[.int .i64 M.line, .int .i64 M.col, .int .u32 M.id, .bool M.wide, .string M.name, .int .i64 M.size, .string M.sender, .slice A4 M.sigs.length c4], .agg #[.int .i64 M.line, .int .i64 M.col, .int .u32 M.id, .bool M.wide, .string M.name, .int .i64 M.size, .string M.sender, .slice A3 M.sigs.length c3]] W (sameK.Yes W)) := fun W hW => by
    exact sameK.sameMessage M (msgCells M (.slice A4 M.sigs.length c4)) (msgCells M (.slice A3 M.sigs.length c3)) (Old w4.heap.size) (Old w1.heap.size) W ⟨_, rfl, HU4c.out.belowF sigE_mono (fun b hb => Nat.lt_trans hb HL5.out) hW⟩ ⟨_, rfl, HU3c.out.belowF sigE_mono (fun b hb => Nat.lt_of_lt_of_le hb HB5.out.size) hW⟩ (fun b hb => Nat.lt_of_lt_of_le (Nat.lt_trans hb HL5.out) hW.size) (fun b hb => Nat.lt_of_lt_of_le (Nat.lt_of_lt_of_le hb HB5.out.size) hW.size)
  have HSM2 : Hid (∀ W, Below (w5.alloc (.cells #[.int .i64 M.line, .int .i64 M.col, .int .u32 M.id, .bool M.wide, .string M.name, .int .i64 M.size, .string M.sender, .slice A5 M.sigs.length c5] 62)).heap.size (w5.alloc (.cells #[.int .i64 M.line, .int .i64 M.col, .int .u32 M.id, .bool M.wide, .string M.name, .int .i64 M.size, .string M.sender, .slice A5 M.sigs.length c5] 62)) W → Calls Try.prog 13 #[.agg #[.int .i64 M.line, .int .i64 M.col, .int .u32 M.id, .bool M.wide, .string M.name, .int .i64 M.size, .string M.sender, .slice A5 M.sigs.length c5], .agg #[.int .i64 M.line, .int .i64 M.col, .int .u32 M.id, .bool M.wide, .string M.name, .int .i64 M.size, .string M.sender, .slice A3 M.sigs.length c3]] W (sameK.Yes W)) := fun W hW => by
    exact sameK.sameMessage M (msgCells M (.slice A5 M.sigs.length c5)) (msgCells M (.slice A3 M.sigs.length c3)) (Old w5.heap.size) (Old w1.heap.size) W ⟨_, rfl, HU5.out.belowF sigE_mono (fun b hb => Nat.lt_trans hb HL6.out) hW⟩ ⟨_, rfl, HU3c.out.belowF sigE_mono (fun b hb => Nat.lt_of_lt_of_le hb HB5.out.size) hW⟩ (fun b hb => Nat.lt_of_lt_of_le (Nat.lt_trans hb HL6.out) hW.size) (fun b hb => Nat.lt_of_lt_of_le (Nat.lt_of_lt_of_le hb HB5.out.size) hW.size)
  go_upto_region 7 with fail
  generalize (w5.alloc (.cells #[.int .i64 M.line, .int .i64 M.col, .int .u32 M.id, .bool M.wide, .string M.name, .int .i64 M.size, .string M.sender, .slice A5 M.sigs.length c5] 62)) = W5 at HC5 HD5 HU5 HB5 HW3c HU3c HW4c HU4c HD4c HW5 HL5 HL6 HCELL HSM1 HSM2 ⊢
  obtain ⟨z0, z1, z2, z3, z4, z5, z6, z7, z8, z9, z10, z11, z12, z13, z14, z15, z16, z17, z18, z19, z20, z21, z22, z23⟩ := HCELL.out W5 (Below.refl _ _)
  go_wp2_with fail
  refine (HSM1.out W5 (Below.refl _ _)).mono ?_
  rintro e w6 ⟨rfl, hb6⟩
  have HB6 := Lib.hid hb6
  clear z0 z1 z2 z3 z4 z5 z6 z7 z8 z9 z10 z11 z12 z13 z14 z15 z16 z17 z18 z19 z20 z21 z22 z23 hb6
  obtain ⟨z0, z1, z2, z3, z4, z5, z6, z7, z8, z9, z10, z11, z12, z13, z14, z15, z16, z17, z18, z19, z20, z21, z22, z23⟩ := HCELL.out w6 HB6.out
  go_wp2_with fail
  refine (HSM2.out w6 HB6.out).mono ?_
  rintro e w7 ⟨rfl, hb7⟩
  have HB7 := Lib.hid (HB6.out.trans (hb7.mono HB6.out.size))
  clear z0 z1 z2 z3 z4 z5 z6 z7 z8 z9 z10 z11 z12 z13 z14 z15 z16 z17 z18 z19 z20 z21 z22 z23 hb7
  go_upto_region 9 with fail
  obtain ⟨z0, z1, z2, z3, z4, z5, z6, z7, z8, z9, z10, z11, z12, z13, z14, z15, z16, z17, z18, z19, z20, z21, z22, z23⟩ := HCELL.out w7 HB7.out
  have zl3 : w3.heap.size < w7.heap.size := Nat.lt_of_lt_of_le HW3c.out.lt HB7.out.size
  have zl4 : w4.heap.size < w7.heap.size := Nat.lt_of_lt_of_le HL5.out HB7.out.size
  have zl5 : w5.heap.size < w7.heap.size := Nat.lt_of_lt_of_le HL6.out HB7.out.size
  go_wp2_with fail
  have HQ := Lib.hid (Has.new w7 54 #[.slice none 0 0, .slice none 0 0, .slice none 0 0, .slice none 0 0, .slice none 0 0, .slice none 0 0, .slice none 0 0, .slice none 0 0, .slice none 0 0, .slice none 0 0, .slice none 0 0, .slice none 0 0, .slice none 0 0, .slice none 0 0, .slice none 0 0])
  have halq : Below w7.heap.size w7 (w7.alloc (.cells #[.slice none 0 0, .slice none 0 0, .slice none 0 0, .slice none 0 0, .slice none 0 0, .slice none 0 0, .slice none 0 0, .slice none 0 0, .slice none 0 0, .slice none 0 0, .slice none 0 0, .slice none 0 0, .slice none 0 0, .slice none 0 0, .slice none 0 0] 54)) := (Below.refl _ _).alloc (Nat.le_refl _) _
  have hb58 := HB7.out.trans (halq.mono HB7.out.size)
  have HB8 := Lib.hid (HB5.out.trans (hb58.mono HB5.out.size))
  have HC8 := Lib.hid (HC5.out.below hb58)
  have HD48 := Lib.hid (HD4c.out.below hb58)
  have HD58 := Lib.hid (HD5.out.below hb58)
  have HCL8 := Lib.hid (HCELL.out _ hb58)
  have HQL := Lib.hid (show w3.heap.size < w7.heap.size ∧ w4.heap.size < w7.heap.size ∧ w5.heap.size < w7.heap.size from ⟨zl3, zl4, zl5⟩)
  have HQ0 := Lib.hid (show w1.heap.size ≤ w7.heap.size from Nat.le_trans HB5.out.size HB7.out.size)
  clear z0 z1 z2 z3 z4 z5 z6 z7 z8 z9 z10 z11 z12 z13 z14 z15 z16 z17 z18 z19 z20 z21 z22 z23 zl3 zl4 zl5 hb58 halq HC5 HD5 HU5 HW3c HU3c HW4c HU4c HD4c HW5 HL5 HL6 HCELL HSM1 HSM2 HD4 HL4
  generalize w7.alloc (.cells #[.slice none 0 0, .slice none 0 0, .slice none 0 0, .slice none 0 0, .slice none 0 0, .slice none 0 0, .slice none 0 0, .slice none 0 0, .slice none 0 0, .slice none 0 0, .slice none 0 0, .slice none 0 0, .slice none 0 0, .slice none 0 0, .slice none 0 0] 54) = W8 at HQ HB8 HC8 HD48 HD58 HCL8 ⊢
  have HBK : Hid (Bk W8 w7.heap.size ⟨.slice none 0 0, .slice none 0 0, .slice none 0 0, .slice none 0 0, .slice none 0 0⟩ ⟨[], [], [], [], []⟩) := Lib.hid ⟨HQ.out, World.ownsRow_nil _ _ _ _, World.ownsRow_nil _ _ _ _, World.ownsRow_nil _ _ _ _, World.ownsRow_nil _ _ _ _, World.ownsRow_nil _ _ _ _⟩
  have hm4 := message2 w7.heap.size _ _ D4 M (.slice A4 M.sigs.length c4) W8 HBK.out HD48.out (by simp; omega) (by simp)
  simp only [msgCells] at hm4
  refine hm4.mono ?_
  clear hm4
  rintro e w9 ⟨v9, rfl, hk9, hb9, hkb9, hs9⟩
  have HK9 := Lib.hid hk9
  have HB9 := Lib.hid hb9
  have HKB9 := Lib.hid hkb9
  have HS9 := Lib.hid hs9
  have z16 : w9.cell? ⟨w5.heap.size, 0, none⟩ = some (.int .i64 M.line) := (hb9.cell (p := ⟨w5.heap.size, 0, none⟩) HQL.out.2.2).trans HCL8.out.2.2.2.2.2.2.2.2.2.2.2.2.2.2.2.2.1
  have z17 : w9.cell? ⟨w5.heap.size, 1, none⟩ = some (.int .i64 M.col) := (hb9.cell (p := ⟨w5.heap.size, 1, none⟩) HQL.out.2.2).trans HCL8.out.2.2.2.2.2.2.2.2.2.2.2.2.2.2.2.2.2.1
  have z18 : w9.cell? ⟨w5.heap.size, 2, none⟩ = some (.int .u32 M.id) := (hb9.cell (p := ⟨w5.heap.size, 2, none⟩) HQL.out.2.2).trans HCL8.out.2.2.2.2.2.2.2.2.2.2.2.2.2.2.2.2.2.2.1
  have z19 : w9.cell? ⟨w5.heap.size, 3, none⟩ = some (.bool M.wide) := (hb9.cell (p := ⟨w5.heap.size, 3, none⟩) HQL.out.2.2).trans HCL8.out.2.2.2.2.2.2.2.2.2.2.2.2.2.2.2.2.2.2.2.1
  have z20 : w9.cell? ⟨w5.heap.size, 4, none⟩ = some (.string M.name) := (hb9.cell (p := ⟨w5.heap.size, 4, none⟩) HQL.out.2.2).trans HCL8.out.2.2.2.2.2.2.2.2.2.2.2.2.2.2.2.2.2.2.2.2.1
  have z21 : w9.cell? ⟨w5.heap.size, 5, none⟩ = some (.int .i64 M.size) := (hb9.cell (p := ⟨w5.heap.size, 5, none⟩) HQL.out.2.2).trans HCL8.out.2.2.2.2.2.2.2.2.2.2.2.2.2.2.2.2.2.2.2.2.2.1
  have z22 : w9.cell? ⟨w5.heap.size, 6, none⟩ = some (.string M.sender) := (hb9.cell (p := ⟨w5.heap.size, 6, none⟩) HQL.out.2.2).trans HCL8.out.2.2.2.2.2.2.2.2.2.2.2.2.2.2.2.2.2.2.2.2.2.2.1
  have z23 : w9.cell? ⟨w5.heap.size, 7, none⟩ = some (.slice A5 M.sigs.length c5) := (hb9.cell (p := ⟨w5.heap.size, 7, none⟩) HQL.out.2.2).trans HCL8.out.2.2.2.2.2.2.2.2.2.2.2.2.2.2.2.2.2.2.2.2.2.2.2
  clear hk9 hb9 hkb9 hs9
  go_wp2_with fail
  have hm5 := message2 w7.heap.size v9 _ D5 M (.slice A5 M.sigs.length c5) w9 HK9.out (HD58.out.kb HKB9.out) (by have h9 := HD48.out; obtain ⟨hDD, _⟩ := h9; simp [hDD]; omega) (by simp)
  simp only [msgCells] at hm5
  refine hm5.mono ?_
  clear hm5 z16 z17 z18 z19 z20 z21 z22 z23
  rintro e w10 ⟨v10, rfl, hk10, hb10, hkb10, hs10⟩
  have HBK10 := Lib.hid hk10
  have HB10 : Hid (Below w1.heap.size w1 w10) := Lib.hid (HB8.out.trans ((HB9.out.trans hb10).mono HQ0.out))
  have HC10 := Lib.hid ((HC8.out.kb HKB9.out).kb hkb10)
  have HV10 : Hid (v10.r = .slice none 0 0 ∧ v10.m = .slice none 0 0 ∧ v10.b = .slice none 0 0) := Lib.hid ⟨hs10.1.trans HS9.out.1, hs10.2.1.trans HS9.out.2.1, hs10.2.2.trans HS9.out.2.2⟩
  clear hk10 hb10 hkb10 hs10 HBK HC8 HD48 HD58 HCL8 HK9 HB9 HKB9 HS9 HQ HB8 HQL HB7 HB6 HB5
  have HIS : Hid (∀ (i : Nat) (m : Msg), (nodes d)[i]? = some (.msg m) → d.msgs[(msgsOf ((nodes d).take i)).length]? = some m) := Lib.hid (fun i m hx => by have := msgs_at hx; rwa [msgs_nodes] at this)
  have HFIN : Hid (msgsOf (nodes d) = d.msgs) := Lib.hid (msgs_nodes d)
  obtain ⟨N, hNN⟩ : ∃ N, N = nodes d := ⟨_, rfl⟩
  rw [← hNN] at HL HTOLD HIS HFIN HNF l1 ⊢
  clear hNN HNF HRF
  go_wp2
  go_loopw [14, 13] (fun i n wr => ∃ (k : Nat) (v : BV) (x : BL) (RT : List (Value × List ByteArray)) (RS : List apartSg.Row), i = .int .i64 k ∧ k ≤ N.length ∧ n = .int .i64 ((msgsOf (N.take k)).length : Nat) ∧ Hid (Bk wr w7.heap.size v x) ∧ Hid (Coll w1.heap.size wr x RT RS) ∧ Hid (v.r = .slice none 0 0 ∧ v.m = .slice none 0 0 ∧ v.b = .slice none 0 0) ∧ Hid (Below w1.heap.size w1 wr) ∧ Hid (RT.length = M.sigs.length + M.sigs.length + sumS (msgsOf (N.take k)) ∧ RS.length = 2 + (msgsOf (N.take k)).length)) (fun i _ _ => N.length - (intOf i).toNat)
  case atStart => exact ⟨0, v10, _, T5, S5, rfl, Nat.zero_le _, by simp [msgsOf], HBK10, HC10, HV10, HB10, Lib.hid ⟨by have := HT5.out; have := HT4.out; simp [msgsOf, sumS] at *; omega, by have := HS5.out; have := HS4.out; simp [msgsOf] at *; omega⟩⟩
  case round =>
    clear HBK10 HC10 HV10 HB10
    obtain ⟨k, v, x, RT, RS, rfl, hk, rfl, HBK, HCO, HV, HBW, HLN⟩ := hrel
    by_cases hlt : k < N.length
    · obtain ⟨y, hy⟩ : ∃ y, N[k]? = some y := ⟨_, List.getElem?_eq_getElem hlt⟩
      obtain ⟨b, off, cs, rfl, hFb, hl1, hr, he⟩ := HL.out.at_ (A := Al) hlt
      have hye : N[k] = y := (List.getElem?_eq_some_iff.1 hy).2
      rw [hye] at he
      obtain ⟨c, rfl, he⟩ := he
      have hbl : b < w1.heap.size := hFb
      have c0 : wr.cell? ⟨b, off + k, none⟩ = some (ndV c y) := by have := (HBW.out.cell (p := ⟨b, off + k * 1, none⟩) hbl).trans (hr 0 _ rfl); rwa [Nat.mul_one] at this
      have HCUT := Lib.hid (cut_at hy).2
      have HKD := Lib.hid (Kind_any y c wr)
      have HHY := Lib.hid hy
      have HE := Lib.hid he
      have hbr : b < wr.heap.size := Nat.lt_of_lt_of_le hbl HBW.out.size
      clear hy hl1 hr he hye hFb
      cases y with
      | ver y =>
        simp only [ndV, kname] at c0 HKD
        have hmm : (msgsOf (N.take (k + 1))) = msgsOf (N.take k) := by rw [HCUT.out, msgsOf_app]; simp [msgsOf]
        have HMM := Lib.hid hmm
        clear hmm HE
        go_wp2_with fail
        refine (HKD.out).mono ?_
        rintro e w11 ⟨rfl, hb11⟩
        have HB11 := Lib.hid hb11
        clear hb11 c0 HKD
        go_wp2
        exact ⟨⟨k + 1, v, x, RT, RS, by go_num, by omega, by rw [HMM.out], HBK.out.below HB11.out, HCO.out.below HB11.out, HV, HBW.out.trans (HB11.out.mono HBW.out.size), Lib.hid (by rw [HMM.out]; exact HLN.out)⟩, by simp [intOf]; omega⟩
      | sta y =>
        simp only [ndV, kname] at c0 HKD
        have hmm : (msgsOf (N.take (k + 1))) = msgsOf (N.take k) := by rw [HCUT.out, msgsOf_app]; simp [msgsOf]
        have HMM := Lib.hid hmm
        clear hmm HE
        go_wp2_with fail
        refine (HKD.out).mono ?_
        rintro e w11 ⟨rfl, hb11⟩
        have HB11 := Lib.hid hb11
        clear hb11 c0 HKD
        go_wp2
        exact ⟨⟨k + 1, v, x, RT, RS, by go_num, by omega, by rw [HMM.out], HBK.out.below HB11.out, HCO.out.below HB11.out, HV, HBW.out.trans (HB11.out.mono HBW.out.size), Lib.hid (by rw [HMM.out]; exact HLN.out)⟩, by simp [intOf]; omega⟩
      | tab y =>
        simp only [ndV, kname] at c0 HKD
        have hmm : (msgsOf (N.take (k + 1))) = msgsOf (N.take k) := by rw [HCUT.out, msgsOf_app]; simp [msgsOf]
        have HMM := Lib.hid hmm
        clear hmm HE
        go_wp2_with fail
        refine (HKD.out).mono ?_
        rintro e w11 ⟨rfl, hb11⟩
        have HB11 := Lib.hid hb11
        clear hb11 c0 HKD
        go_wp2
        exact ⟨⟨k + 1, v, x, RT, RS, by go_num, by omega, by rw [HMM.out], HBK.out.below HB11.out, HCO.out.below HB11.out, HV, HBW.out.trans (HB11.out.mono HBW.out.size), Lib.hid (by rw [HMM.out]; exact HLN.out)⟩, by simp [intOf]; omega⟩
      | msg y =>
        obtain ⟨vm, rfl, hvm⟩ : msgE w1 (Old w1.heap.size) c y := HE.out
        have HMA := Lib.hid (fun (W : World) (hW : Below w1.heap.size w1 W) => nodeM.Message_any y vm (Old w1.heap.size) W (hvm.below sigE_mono hW) (fun b hb => Nat.lt_of_lt_of_le hb hW.size))
        obtain ⟨mi, hmi⟩ : ∃ mi, mi = (msgsOf (N.take k)).length := ⟨_, rfl⟩
        have hmx := HIS.out k y HHY.out
        rw [← hmi] at hmx ⊢
        have hmem := List.mem_of_getElem? hmx
        have hto := to_le d.msgs hmem
        have hyl : y.sigs.length ≤ 1048576 := Nat.le_trans hto.1 HSUM.out
        have HTO := Lib.hid (fun s hs => Nat.le_trans (hto.2 s hs) HSUM.out)
        have hyo := HOK.out.msgs y hmem
        have HYO := Lib.hid hyo
        have hml2 : mi < d.msgs.length := (List.getElem?_eq_some_iff.1 hmx).1
        have hnl : ¬ d.msgs.length ≤ mi := by omega
        obtain ⟨bm, om, cs2, rfl, hFm, hlm, hrm, hem⟩ := HM.out.at_ (A := Am) hml2
        have hme : d.msgs[mi] = y := (List.getElem?_eq_some_iff.1 hmx).2
        rw [hme] at hem
        obtain ⟨vd, rfl, hvd⟩ := hem
        have hbm : bm < w.heap.size := hFm
        have HRM := Lib.hid hrm
        have HVD := Lib.hid hvd
        have HMI := Lib.hid hmi
        have hmm : msgsOf (N.take (k + 1)) = msgsOf (N.take k) ++ [y] := by rw [HCUT.out, msgsOf_app]; rfl
        have HMM := Lib.hid hmm
        have hsm : sumS (msgsOf (N.take k)) ≤ 1048576 := by
          have h1 : d.msgs = msgsOf (N.take k) ++ msgsOf (N.drop k) := by rw [← HFIN.out, ← msgsOf_app, List.take_append_drop]
          have h2 := sumS_le d.msgs
          have h3 : sumS d.msgs = sumS (msgsOf (N.take k)) + sumS (msgsOf (N.drop k)) := by rw [h1, sumS_app]
          have := HSUM.out
          omega
        simp only [ndV, kname, msgCells] at c0 HKD HMA
        have HVM := Lib.hid hvm
        clear HE hvm hmx hmem hto hyo hlm hrm hme hvd hmi hmm hFm
        go_wp2_with fail
        refine (HKD.out).mono ?_
        rintro e w11 ⟨rfl, hb11⟩
        have HB11 := Lib.hid hb11
        have HBW11 := Lib.hid (HBW.out.trans (hb11.mono HBW.out.size))
        have c1 := (hb11.cell (p := ⟨b, off + k, none⟩) hbr).trans c0
        have hbr2 : b < w11.heap.size := Nat.lt_of_lt_of_le hbr hb11.size
        clear hb11 c0 HKD
        go_wp2_with fail
        refine (HMA.out w11 HBW11.out HYO.out.len (fun s hs => (HYO.out.sigs s hs).to)).mono ?_
        rintro e w12 ⟨_, rfl, ⟨u, rfl, ho⟩, hb12⟩
        obtain ⟨A12, c12, rfl, _, _⟩ := (ho.sl sigO_mono).form
        obtain ⟨D12, T12, S12, hc12, ht12, hs12, hd12⟩ := add2 (HCO.out.below HB11.out) HBW11.out.size hb12 ho (by omega) (fun s hs => by have := HTO.out s hs; omega)
        have hal : Below w12.heap.size w12 (w12.alloc (.cells #[.int .i64 y.line, .int .i64 y.col, .int .u32 y.id, .bool y.wide, .string y.name, .int .i64 y.size, .string y.sender, .slice A12 y.sigs.length c12] 62)) := (Below.refl _ _).alloc (Nat.le_refl _) _
        have h1112 : Below w11.heap.size w11 (w12.alloc (.cells #[.int .i64 y.line, .int .i64 y.col, .int .u32 y.id, .bool y.wide, .string y.name, .int .i64 y.size, .string y.sender, .slice A12 y.sigs.length c12] 62)) := hb12.trans (hal.mono hb12.size)
        have HC12 := Lib.hid (hc12.below hal)
        have HD12 := Lib.hid (hd12.below hal)
        have HT12 := Lib.hid ht12
        have HS12 := Lib.hid hs12
        have HBK12 := Lib.hid ((HBK.out.below HB11.out).below h1112)
        have HBW12 := Lib.hid (HBW11.out.trans (h1112.mono HBW11.out.size))
        have HX12 := Lib.hid (Has.new w12 62 #[.int .i64 y.line, .int .i64 y.col, .int .u32 y.id, .bool y.wide, .string y.name, .int .i64 y.size, .string y.sender, .slice A12 y.sigs.length c12])
        have HU12 : Hid (SlK 19 sigE (w12.alloc (.cells #[.int .i64 y.line, .int .i64 y.col, .int .u32 y.id, .bool y.wide, .string y.name, .int .i64 y.size, .string y.sender, .slice A12 y.sigs.length c12] 62)) (Old w12.heap.size) (.slice A12 y.sigs.length c12) y.sigs) := Lib.hid (((ho.sl sigO_mono).weak (fun _ _ => sigO_sigE)).more sigE_mono (fun b hb => hb.2) |>.below sigE_mono hal)
        clear hal h1112 hc12 hd12 ht12 hs12 hb12 ho HMA c1
        simp only [msgCells]
        go_upto_region 18 with fail
        generalize (w12.alloc (.cells #[.int .i64 y.line, .int .i64 y.col, .int .u32 y.id, .bool y.wide, .string y.name, .int .i64 y.size, .string y.sender, .slice A12 y.sigs.length c12] 62)) = W12 at HC12 HD12 HBK12 HBW12 HX12 HU12 ⊢
        have CELLS : Hid (∀ W, Below W12.heap.size W12 W → W.cell? ⟨w12.heap.size, 0, none⟩ = some (.int .i64 y.line) ∧ W.cell? ⟨w12.heap.size, 1, none⟩ = some (.int .i64 y.col) ∧ W.cell? ⟨w12.heap.size, 2, none⟩ = some (.int .u32 y.id) ∧ W.cell? ⟨w12.heap.size, 3, none⟩ = some (.bool y.wide) ∧ W.cell? ⟨w12.heap.size, 4, none⟩ = some (.string y.name) ∧ W.cell? ⟨w12.heap.size, 5, none⟩ = some (.int .i64 y.size) ∧ W.cell? ⟨w12.heap.size, 6, none⟩ = some (.string y.sender) ∧ W.cell? ⟨w12.heap.size, 7, none⟩ = some (.slice A12 y.sigs.length c12) ∧ W.cell? ⟨w.heap.size, 7, none⟩ = some (.slice (some ⟨bm, om, none⟩) d.msgs.length cm) ∧ W.cell? ⟨bm, om + mi * 8, none⟩ = some (.int .i64 y.line) ∧ W.cell? ⟨bm, om + mi * 8 + 1, none⟩ = some (.int .i64 y.col) ∧ W.cell? ⟨bm, om + mi * 8 + 2, none⟩ = some (.int .u32 y.id) ∧ W.cell? ⟨bm, om + mi * 8 + 3, none⟩ = some (.bool y.wide) ∧ W.cell? ⟨bm, om + mi * 8 + 4, none⟩ = some (.string y.name) ∧ W.cell? ⟨bm, om + mi * 8 + 5, none⟩ = some (.int .i64 y.size) ∧ W.cell? ⟨bm, om + mi * 8 + 6, none⟩ = some (.string y.sender) ∧ W.cell? ⟨bm, om + mi * 8 + 7, none⟩ = some (vd)) := fun W hW => by
          have hwW : Below w.heap.size w W := HB1.out.trans ((HBW12.out.trans (hW.mono HBW12.out.size)).mono HB1.out.size)
          have h1 := HX12.out.below hW HX12.out.lt
          have h2 := HX1.out.below (HBW12.out.trans (hW.mono HBW12.out.size)) HX1.out.lt
          exact ⟨(h1.cell 0).trans rfl, (h1.cell 1).trans rfl, (h1.cell 2).trans rfl, (h1.cell 3).trans rfl, (h1.cell 4).trans rfl, (h1.cell 5).trans rfl, (h1.cell 6).trans rfl, (h1.cell 7).trans rfl, (h2.cell 7).trans rfl, (hwW.cell (p := ⟨bm, om + mi * 8 + 0, none⟩) hbm).trans (HRM.out 0 _ rfl), (hwW.cell (p := ⟨bm, om + mi * 8 + 1, none⟩) hbm).trans (HRM.out 1 _ rfl), (hwW.cell (p := ⟨bm, om + mi * 8 + 2, none⟩) hbm).trans (HRM.out 2 _ rfl), (hwW.cell (p := ⟨bm, om + mi * 8 + 3, none⟩) hbm).trans (HRM.out 3 _ rfl), (hwW.cell (p := ⟨bm, om + mi * 8 + 4, none⟩) hbm).trans (HRM.out 4 _ rfl), (hwW.cell (p := ⟨bm, om + mi * 8 + 5, none⟩) hbm).trans (HRM.out 5 _ rfl), (hwW.cell (p := ⟨bm, om + mi * 8 + 6, none⟩) hbm).trans (HRM.out 6 _ rfl), (hwW.cell (p := ⟨bm, om + mi * 8 + 7, none⟩) hbm).trans (HRM.out 7 _ rfl)⟩
        have HSM : Hid (∀ W, Below W12.heap.size W12 W → Calls Try.prog 13 #[.agg #[.int .i64 y.line, .int .i64 y.col, .int .u32 y.id, .bool y.wide, .string y.name, .int .i64 y.size, .string y.sender, .slice A12 y.sigs.length c12], .agg #[.int .i64 y.line, .int .i64 y.col, .int .u32 y.id, .bool y.wide, .string y.name, .int .i64 y.size, .string y.sender, vd]] W (sameK.Yes W)) := fun W hW => by
          have hwW : Below w.heap.size w W := HB1.out.trans ((HBW12.out.trans (hW.mono HBW12.out.size)).mono HB1.out.size)
          exact sameK.sameMessage y (msgCells y (.slice A12 y.sigs.length c12)) (msgCells y vd) (Old w12.heap.size) (Old w.heap.size) W ⟨_, rfl, HU12.out.belowF sigE_mono (fun b hb => Nat.lt_trans hb HX12.out.lt) hW⟩ ⟨_, rfl, HVD.out.below sigE_mono hwW⟩ (fun b hb => Nat.lt_of_lt_of_le (Nat.lt_trans hb HX12.out.lt) hW.size) (fun b hb => Nat.lt_of_lt_of_le hb hwW.size)
        refine wp_region_held (S := (fun W => Below W12.heap.size W12 W)) (by kernel_rfl) ?_
        refine wpAnyH_take (i := 0) (oi := { dst := some 82, op := Op.move (Operand.tmp 13), type := 3, pos := "law.go:174", after := #[], guard := none }) (v := ?_) rfl (by kernel_rfl) (by kernel_rfl) (by kernel_rfl) (fun _ _ _ h => h) (Or.inl ⟨by rfl, ?_⟩) (by exact (Below.refl W12.heap.size W12).drew) ?_
        rotate_left; focus (intro W hW; go_simp; try with_reducible rfl)
        (try simp only [Act.put, List.setIfInBounds_toArray, List.set_cons_zero, List.set_cons_succ])
        refine wpAnyH_take (i := 1) (oi := { dst := some 83, op := Op.fieldAddr 32 (Operand.tmp 2) 3, type := 0, pos := "law.go:174", after := #[], guard := none }) (v := ?_) rfl (by kernel_rfl) (by kernel_rfl) (by kernel_rfl) (fun _ _ _ h => h) (Or.inl ⟨by rfl, ?_⟩) (by exact (Below.refl W12.heap.size W12).drew) ?_
        rotate_left; focus (intro W hW; go_simp; try with_reducible rfl)
        (try simp only [Act.put, List.setIfInBounds_toArray, List.set_cons_zero, List.set_cons_succ])
        refine wpAnyH_take (i := 2) (oi := { dst := some 84, op := Op.load 29 (Operand.tmp 83), type := 29, pos := "law.go:174", after := #[{ on := 1, ground := Ground.data }], guard := none }) (v := ?_) rfl (by kernel_rfl) (by kernel_rfl) (by kernel_rfl) (fun _ _ _ h => h) (Or.inl ⟨by rfl, ?_⟩) (by exact (Below.refl W12.heap.size W12).drew) ?_
        rotate_left; focus (intro W hW; obtain ⟨x0, x1, x2, x3, x4, x5, x6, x7, x8, x9, x10, x11, x12, x13, x14, x15, x16⟩ := CELLS.out W hW; go_simp; try with_reducible rfl)
        (try simp only [Act.put, List.setIfInBounds_toArray, List.set_cons_zero, List.set_cons_succ])
        refine wpAnyH_take (i := 3) (oi := { dst := some 85, op := Op.call { callee := Callee.builtin Builtin.len, args := #[Operand.tmp 84], argTypes := #[29] }, type := 3, pos := "law.go:174", after := #[{ on := 2, ground := Ground.data }], guard := none }) (v := ?_) rfl (by kernel_rfl) (by kernel_rfl) (by kernel_rfl) (fun _ _ _ h => h) (Or.inl ⟨by rfl, ?_⟩) (by exact (Below.refl W12.heap.size W12).drew) ?_
        rotate_left; focus (intro W hW; go_simp; try with_reducible rfl)
        (try simp only [Act.put, List.setIfInBounds_toArray, List.set_cons_zero, List.set_cons_succ])
        refine wpAnyH_take (i := 4) (oi := { dst := some 86, op := Op.binOp BinOp.geq 3 (Operand.tmp 82) (Operand.tmp 85) 3, type := 4, pos := "law.go:174", after := #[{ on := 0, ground := Ground.data }, { on := 3, ground := Ground.data }], guard := none }) (v := ?_) rfl (by kernel_rfl) (by kernel_rfl) (by kernel_rfl) (fun _ _ _ h => h) (Or.inl ⟨by rfl, ?_⟩) (by exact (Below.refl W12.heap.size W12).drew) ?_
        rotate_left; focus (intro W hW; go_simp; try with_reducible rfl)
        (try simp only [Act.put, List.setIfInBounds_toArray, List.set_cons_zero, List.set_cons_succ])
        refine wpAnyH_take (i := 5) (oi := { dst := some 87, op := Op.move (Operand.tmp 86), type := 4, pos := "law.go:174", after := #[{ on := 4, ground := Ground.data }], guard := none }) (v := ?_) rfl (by kernel_rfl) (by kernel_rfl) (by kernel_rfl) (fun _ _ _ h => h) (Or.inl ⟨by rfl, ?_⟩) (by exact (Below.refl W12.heap.size W12).drew) ?_
        rotate_left; focus (intro W hW; go_simp; try with_reducible rfl)
        (try simp only [Act.put, List.setIfInBounds_toArray, List.set_cons_zero, List.set_cons_succ])
        refine wpAnyH_take (i := 6) (oi := { dst := some 88, op := Op.load 62 (Operand.tmp 15), type := 62, pos := "law.go:174", after := #[{ on := 5, ground := Ground.guard }], guard := some (5, false) }) (v := ?_) rfl (by kernel_rfl) (by kernel_rfl) (by kernel_rfl) (fun _ _ _ h => h) (Or.inl ⟨by rfl, ?_⟩) (by exact (Below.refl W12.heap.size W12).drew) ?_
        rotate_left; focus (intro W hW; obtain ⟨x0, x1, x2, x3, x4, x5, x6, x7, x8, x9, x10, x11, x12, x13, x14, x15, x16⟩ := CELLS.out W hW; go_simp; try with_reducible rfl)
        (try simp only [Act.put, List.setIfInBounds_toArray, List.set_cons_zero, List.set_cons_succ])
        refine wpAnyH_take (i := 7) (oi := { dst := some 89, op := Op.fieldAddr 32 (Operand.tmp 2) 3, type := 0, pos := "law.go:174", after := #[{ on := 5, ground := Ground.guard }], guard := some (5, false) }) (v := ?_) rfl (by kernel_rfl) (by kernel_rfl) (by kernel_rfl) (fun _ _ _ h => h) (Or.inl ⟨by rfl, ?_⟩) (by exact (Below.refl W12.heap.size W12).drew) ?_
        rotate_left; focus (intro W hW; go_simp; try with_reducible rfl)
        (try simp only [Act.put, List.setIfInBounds_toArray, List.set_cons_zero, List.set_cons_succ])
        refine wpAnyH_take (i := 8) (oi := { dst := some 90, op := Op.load 29 (Operand.tmp 89), type := 29, pos := "law.go:174", after := #[{ on := 7, ground := Ground.data }, { on := 5, ground := Ground.guard }], guard := some (5, false) }) (v := ?_) rfl (by kernel_rfl) (by kernel_rfl) (by kernel_rfl) (fun _ _ _ h => h) (Or.inl ⟨by rfl, ?_⟩) (by exact (Below.refl W12.heap.size W12).drew) ?_
        rotate_left; focus (intro W hW; obtain ⟨x0, x1, x2, x3, x4, x5, x6, x7, x8, x9, x10, x11, x12, x13, x14, x15, x16⟩ := CELLS.out W hW; go_simp; try with_reducible rfl)
        (try simp only [Act.put, List.setIfInBounds_toArray, List.set_cons_zero, List.set_cons_succ])
        refine wpAnyH_take (i := 9) (oi := { dst := some 91, op := Op.move (Operand.tmp 13), type := 3, pos := "law.go:174", after := #[{ on := 5, ground := Ground.guard }], guard := some (5, false) }) (v := ?_) rfl (by kernel_rfl) (by kernel_rfl) (by kernel_rfl) (fun _ _ _ h => h) (Or.inl ⟨by rfl, ?_⟩) (by exact (Below.refl W12.heap.size W12).drew) ?_
        rotate_left; focus (intro W hW; go_simp; try with_reducible rfl)
        (try simp only [Act.put, List.setIfInBounds_toArray, List.set_cons_zero, List.set_cons_succ])
        refine wpAnyH_take (i := 10) (oi := { dst := some 92, op := Op.indexAddr 29 (Operand.tmp 90) (Operand.tmp 91), type := 0, pos := "law.go:174", after := #[{ on := 8, ground := Ground.data }, { on := 9, ground := Ground.data }, { on := 5, ground := Ground.guard }], guard := some (5, false) }) (v := ?_) rfl (by kernel_rfl) (by kernel_rfl) (by kernel_rfl) (fun _ _ _ h => h) (Or.inl ⟨by rfl, ?_⟩) (by exact (Below.refl W12.heap.size W12).drew) ?_
        rotate_left; focus (intro W hW; go_simp; try with_reducible rfl)
        (try simp only [Act.put, List.setIfInBounds_toArray, List.set_cons_zero, List.set_cons_succ])
        refine wpAnyH_take (i := 11) (oi := { dst := some 93, op := Op.load 62 (Operand.tmp 92), type := 62, pos := "law.go:174", after := #[{ on := 10, ground := Ground.data }, { on := 5, ground := Ground.guard }], guard := some (5, false) }) (v := ?_) rfl (by kernel_rfl) (by kernel_rfl) (by kernel_rfl) (fun _ _ _ h => h) (Or.inl ⟨by rfl, ?_⟩) (by exact (Below.refl W12.heap.size W12).drew) ?_
        rotate_left; focus (intro W hW; obtain ⟨x0, x1, x2, x3, x4, x5, x6, x7, x8, x9, x10, x11, x12, x13, x14, x15, x16⟩ := CELLS.out W hW; go_simp; try with_reducible rfl)
        (try simp only [Act.put, List.setIfInBounds_toArray, List.set_cons_zero, List.set_cons_succ])
        refine wpAnyH_ready (rs := [12]) (by kernel_rfl) (by simp) ?_
        refine AllReadyH.cons (o := { dst := some 94, op := Op.call { callee := Callee.value (Operand.func 13), args := #[Operand.tmp 88, Operand.tmp 93], argTypes := #[62, 62] }, type := 4, pos := "law.go:174", after := #[{ on := 6, ground := Ground.data }, { on := 11, ground := Ground.data }, { on := 5, ground := Ground.chain }, { on := 5, ground := Ground.guard }], guard := some (5, false) }) rfl (fun K hK => ?_) AllReadyH.nil
        go_simp
        go_at_call 13
        refine (HSM.out _ (by exact (Below.refl W12.heap.size W12).drew)).mono ?_
        rintro e w13 ⟨rfl, hbw13⟩
        have Bw13 := Lib.hid (show Below W12.heap.size W12 w13 from Below.trans (Below.refl W12.heap.size W12).drew (hbw13.mono (Below.size (Below.refl W12.heap.size W12).drew)))
        clear hbw13
        refine hK.out _ _ (by exact Bw13.out) (fun hHeld => ?_)
        clear hHeld hK K
        (try simp only [Act.put, List.setIfInBounds_toArray, List.set_cons_zero, List.set_cons_succ])
        refine wpAnyH_take (i := 13) (oi := { dst := some 95, op := Op.unOp UnOp.not 4 (Operand.tmp 94), type := 4, pos := "law.go:174", after := #[{ on := 12, ground := Ground.data }, { on := 5, ground := Ground.guard }], guard := some (5, false) }) (v := ?_) rfl (by kernel_rfl) (by kernel_rfl) (by kernel_rfl) (fun _ _ _ h => h) (Or.inl ⟨by rfl, ?_⟩) (by exact Bw13.out) ?_
        rotate_left; focus (intro W hW; go_simp; try with_reducible rfl)
        (try simp only [Act.put, List.setIfInBounds_toArray, List.set_cons_zero, List.set_cons_succ])
        refine wpAnyH_take (i := 14) (oi := { dst := some 96, op := Op.pick (Operand.tmp 87) (Operand.const (Value.bool true)) (Operand.tmp 95), type := 4, pos := "law.go:174", after := #[{ on := 5, ground := Ground.data }, { on := 13, ground := Ground.data }], guard := none }) (v := ?_) rfl (by kernel_rfl) (by kernel_rfl) (by kernel_rfl) (fun _ _ _ h => h) (Or.inl ⟨by rfl, ?_⟩) (by exact Bw13.out) ?_
        rotate_left; focus (intro W hW; go_simp; try with_reducible rfl)
        (try simp only [Act.put, List.setIfInBounds_toArray, List.set_cons_zero, List.set_cons_succ])
        refine wpAnyH_done (by kernel_rfl) ?_ _
        obtain ⟨z0, z1, z2, z3, z4, z5, z6, z7, -⟩ := CELLS.out w13 Bw13.out
        have zl : w12.heap.size < w13.heap.size := Nat.lt_of_lt_of_le HX12.out.lt Bw13.out.size
        have hm13 := message2 w7.heap.size v x D12 y (.slice A12 y.sigs.length c12) w13 (HBK12.out.below Bw13.out) (HD12.out.below Bw13.out) (by have := (nodeT.Coll.len HCO.out).1; have := HLN.out.1; omega) (by have := (nodeT.Coll.len HCO.out).2; have := HLN.out.2; have := HMI.out; omega)
        simp only [msgCells] at hm13
        have HM13 := Lib.hid hm13
        clear hm13
        go_wp2_with fail
        refine (HM13.out).mono ?_
        rintro e w14 ⟨v14, rfl, hk14, hb14, hkb14, hs14⟩
        have HF14 : Hid (∃ (v : BV) (x : BL) (RT : List (Value × List ByteArray)) (RS : List apartSg.Row), Hid (Bk w14 w7.heap.size v x) ∧ Hid (Coll w1.heap.size w14 x RT RS) ∧ Hid (v.r = .slice none 0 0 ∧ v.m = .slice none 0 0 ∧ v.b = .slice none 0 0) ∧ Hid (Below w1.heap.size w1 w14) ∧ Hid (RT.length = M.sigs.length + M.sigs.length + sumS (msgsOf (N.take (k + 1))) ∧ RS.length = 2 + (msgsOf (N.take (k + 1))).length)) := Lib.hid ⟨v14, _, T12, S12, hk14, (HC12.out.below Bw13.out).kb hkb14, ⟨hs14.1.trans HV.out.1, hs14.2.1.trans HV.out.2.1, hs14.2.2.trans HV.out.2.2⟩, (HBW12.out.trans (Bw13.out.mono HBW12.out.size)).trans (hb14.mono HQ0.out), Lib.hid (by rw [HMM.out, sumS_app, List.length_append]; have h1 := HT12.out; have h2 := HS12.out; have h3 := HLN.out; simp [sumS] at h3 ⊢; omega)⟩
        clear hk14 hb14 hkb14 hs14 HM13 z0 z1 z2 z3 z4 z5 z6 z7 zl
        have hmi8 : mi ≤ 2000000 := by omega
        go_wp2
        obtain ⟨v', x', RT', RS', q1, q2, q3, q4, q5⟩ := HF14.out
        exact ⟨⟨k + 1, v', x', RT', RS', by go_num, by omega, by rw [HMM.out, List.length_append, ← HMI.out]; go_num, q1, q2, q3, q4, q5⟩, by simp [intOf]; omega⟩
    · obtain rfl : k = N.length := by omega
      have hmn : (msgsOf (N.take N.length)).length = d.msgs.length := by rw [List.take_length, HFIN.out]
      rw [hmn]
      obtain ⟨y0, y1, y2, y3, y4, y5, y6, y7, y8, ylt⟩ := HCB.out wr HBW.out
      have HAP := Lib.hid (apart_ts HBK.out HCO.out HV.out.1 HV.out.2.1 HV.out.2.2 HBW.out.size (by have h1 := HLN.out.1; have h2 := sumS_le d.msgs; have h3 := HSUM.out; rw [List.take_length, HFIN.out] at h1; omega) (by have h1 := HLN.out.2; rw [List.take_length, HFIN.out] at h1; omega) (by have h1 := HLN.out.2; omega))
      clear hmn
      go_wp2_with fail
      refine (HAP.out).mono ?_
      rintro e w15 ⟨rfl, hb15⟩
      have HB15 := Lib.hid (HBW.out.trans hb15)
      clear y0 y1 y2 y3 y4 y5 y6 y7 y8 ylt hb15
      obtain ⟨y0, y1, y2, y3, y4, y5, y6, y7, y8, ylt⟩ := HCB.out w15 HB15.out
      go_wp2_with fail
      refine (HTOLD.out w15 HB15.out).mono ?_
      rintro e w16 ⟨rfl, hb16⟩
      have HB16 := Lib.hid (HB15.out.trans (hb16.mono HB15.out.size))
      clear y0 y1 y2 y3 y4 y5 y6 y7 y8 ylt hb16
      go_wp2
      go_ret
      exact ⟨rfl, HB1.out.trans (HB16.out.mono HB1.out.size)⟩

theorem bulk_of {H : Type} {l : List (DataW H)} (hk : Rows.uptoSmall H l = true) {d : DataW H} (hd : d ∈ l) : Rows.uptoBulk d ≤ 1048576 := by
  have hb : Rows.uptoBulkAll l ≤ 1048576 := by simpa [Rows.uptoSmall] using hk
  exact Nat.le_trans (bulkK.one_of hd) hb
theorem walkE (d : Db) (cs : List Value) (name : ByteArray) (w : World) (hd : dbE w (Old w.heap.size) cs d) (hok : DbOk d) (hN : bulkU.dbN d ≤ 1048576) :
    Calls Try.prog 4 #[.agg cs.toArray, .string name] w fun e w' => e = .returned (.bool true) ∧ Below w.heap.size w w' := by
  obtain ⟨sv, mv, tv, rfl, h1, h2, h3⟩ := hd
  exact walk d sv mv tv name w h1 h2 h3 hok hN

end Go.Proofs.Ytdibfkcddcjiiaa.nodeFinds
