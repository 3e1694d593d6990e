/- DumpAll's walk: of any lines. Conditions: the library's tables and some of its errors are laid, one variable of the library's holds some int. -/
import Derived.Test.YtbhhfdajaoemnaaDoorDumpFj
import Derived.Test.YtbhhfdajaoemnaaDoorLinesOpen
import Derived.Test.YtbhhfdajaoemnaaDoorDumpJl
import Derived.Test.YtbhhfdajaoemnaaDoorFarm2
import Derived.Lib.AppendStr
import Derived.Laws.IdiomStrings
import Derived.Laws.BytesArg
import Derived.Maps.AppendAt
namespace Go.Proofs.YtbhhfdajaoemnaaDoor
open Go.RowKit Go.Bus Go.Bus.cellK Go.Bus.dumpK Go.Bus.textK
set_option linter.unusedVariables false
set_option linter.unusedSimpArgs false
namespace dumpW
def byC (b : UInt8) : Value := .int .u8 (b.toNat : Int)
theorem strCells_of (T : List UInt8) : Lib.strCells ⟨T.toArray⟩ = T.map byC := rfl
/-- What the loop has put together. -/
structure AllI (w0 wr : World) (B : Nat) (bv wv : Value) (xs : List Value) (ls : List Ln) : Prop where
  text : wr.ownsRow B 5 1 bv (textL ls).length ((textL ls).map byC)
  row : wr.ownsRow B 34 5 wv ls.length xs
  each : ∀ i x, ls[i]? = some x → lineR wr (Old w0.heap.size) (eltOf 5 xs i) x
theorem AllI.sl {w0 wr : World} {B : Nat} {bv wv : Value} {xs : List Value} {ls : List Ln} (h : AllI w0 wr B bv wv xs ls) (hw : w0.heap.size ≤ wr.heap.size) : SlK 5 lineR wr (Old wr.heap.size) wv ls := by
  have hr := h.row
  rcases hr.2 with ⟨rfl, h0⟩ | ⟨g, cap, cur, rfl, hb, hg, hn, hm, hs, ht⟩
  · obtain rfl : ls = [] := List.eq_nil_of_length_eq_zero h0
    exact SlK.nil_ _ _ _ _
  · refine ⟨xs, ⟨_, cap, rfl, hn, hm, hr.1, fun _ => ⟨g, 0, rfl, (hr.lt g rfl).2, fun j u hj => ?_⟩⟩, fun i x hi => lineR_mono wr wr _ _ _ x (fun b hb => Nat.lt_of_lt_of_le hb hw) (fun _ _ => rfl) (h.each i x hi)⟩
    have h2 := hr.cells (g := g) rfl j u hj
    rw [Addr.add_mid] at h2
    exact h2
theorem text_conv {w : World} {B : Nat} {bv : Value} {T : List UInt8} (h : w.ownsRow B 5 1 bv T.length (T.map byC)) : (convert 24 9 bv).run Tryd.prog w = .ok (.string ⟨T.toArray⟩) w := by
  rcases h.2 with ⟨rfl, h0⟩ | ⟨g, cap, cur, rfl, hb, hg, hn, hm, hs, ht⟩
  · rw [List.eq_nil_of_length_eq_zero h0]
    exact run_convert_bytes_nil w 24 5 Tryd.underlying24 Tryd.underlying5 0 0 9 Tryd.underlying9
  · exact run_convert_bytes_back w 24 9 5 ⟨g, 0, none⟩ cap T Tryd.underlying24 Tryd.underlying5 Tryd.underlying9 (fun j hj => h.cells (g := g) rfl j _ (by rw [List.getElem?_map, List.getElem?_eq_getElem hj]; rfl))
set_option maxRecDepth 100000 in
set_option maxHeartbeats 16000000 in
theorem all_lines (L : List Ln) (v : Value) (w : World) (hL : SlK 5 lineR w (Old w.heap.size) v L) (hfit : ∀ x ∈ L, linesA.Fit x) (hT : fmtK.Tab w) (hZ : hexW.Tz w) (hM : Mx w) (hR : laidK.Rng w) : Calls Tryd.prog 3 #[v] w (YesL w) := by
  obtain ⟨i0, hi, hz0, hz1, hz2⟩ := info_parts Tryd.infoB
  obtain ⟨i1, hj, hy0, hy1, hy2⟩ := info_parts Tryd.infoLn
  obtain ⟨A, cap, rfl, hcap, hmax⟩ := hL.form
  unfold maxLen at hmax
  have HL := Lib.hid hL
  have HFT := Lib.hid hfit
  have HT := Lib.hid hT
  have HZ := Lib.hid hZ
  have HM := Lib.hid hM
  have HR := Lib.hid hR
  have HWK := Lib.hid (works_any w hT hZ)
  have hi1 : (Tryd.prog.info? 34).map (·.size) = some 5 := by kernel_rfl
  have HI1 := Lib.hid hi1
  clear hL hfit hT hZ hM hR hi1
  go_enter Tryd.func3, Tryd.ntmps3
  go_wp2_with fail
  refine (HWK.out).mono ?_
  rintro e w1 ⟨rfl, hb⟩
  have HB1 := Lib.hid hb
  clear hb HWK
  go_wp2
  go_loopw [3, 4, 5] (fun bv' wv' iv wr => ∃ (bv wv : Value) (k : Nat) (xs : List Value), bv = bv' ∧ wv = wv' ∧ iv = .int .i64 (k : Nat) ∧ k ≤ L.length ∧ k ≤ 200 ∧ Hid (AllI w wr w1.heap.size bv wv xs (okL (L.take k))) ∧ Hid (Below w1.heap.size w1 wr)) (fun _ _ iv _ => 200 - (intOf iv).toNat)
  case atStart => exact ⟨_, _, 0, [], rfl, rfl, rfl, Nat.zero_le _, Nat.zero_le _, Lib.hid ⟨World.ownsRow_nil _ _ _ _, World.ownsRow_nil _ _ _ _, fun i x hi => by simp [okL] at hi⟩, Lib.hid (Below.refl _ _)⟩
  case round =>
    obtain ⟨bv, wv, k, xs, rfl, rfl, rfl, hk, hk2, HA, HBr⟩ := hrel
    have hzr := HBr.out.size
    have z01 := HB1.out.size
    have HBw : Hid (Below w.heap.size w wr) := Lib.hid (HB1.out.trans (HBr.out.mono z01))
    have HGD : Hid (∀ l ∈ okL (L.take k), l.Ok ∧ wrong l = 0) := Lib.hid (fun l hl => ⟨(HFT.out l (List.mem_of_mem_take (okL_mem hl).1)).1, (okL_mem hl).2⟩)
    have HLN : Hid ((okL (L.take k)).length ≤ 200) := Lib.hid (by have h1 := okL_len (L.take k); rw [List.length_take] at h1; omega)
    have HTL : Hid ((textL (okL (L.take k))).length ≤ 40200) := Lib.hid (by have h1 := textL_len _ HGD.out; have h2 := HLN.out; omega)
    by_cases hlt : k < L.length ∧ k < 200
    · obtain ⟨hlt1, hlt2⟩ := hlt
      have e1 : decide ((k : Int) < (L.length : Int)) = true := by simp; omega
      have e2 : decide ((k : Int) < 200) = true := by simp; omega
      obtain ⟨b, off, cs, rfl, hbF, hl5, hrg, hre⟩ := HL.out.at_ hlt1
      have hmem : L[k] ∈ L := List.getElem_mem hlt1
      have hts : L.take (k + 1) = L.take k ++ [L[k]] := by rw [List.take_succ_eq_append_getElem hlt1]
      generalize L[k] = x at *
      obtain ⟨sv, rfl, hsl⟩ := hre
      have hsx := by_sl hsl
      obtain ⟨sA, sc, rfl, hs1, hs2⟩ := hsx.form
      have HSX := Lib.hid hsx
      have HSLK := Lib.hid hsl
      have HFX := Lib.hid (HFT.out x hmem)
      have HPR := Lib.hid (dprint_any x HFX.out.1 (.slice sA x.data.length sc) wr (HSX.out.at_below HBw.out) HFX.out.2 (HT.out.at_below HBw.out) (HZ.out.at_below HBw.out))
      have HRG := Lib.hid hrg
      have hbw : b < w.heap.size := hbF
      have HRN : ∀ W, Below w.heap.size w W → W.rangeAt b (off + k * 5) (lnC x (.slice sA x.data.length sc)) := fun W hW j u hj => (hW.cell (p := ⟨b, off + k * 5 + j, none⟩) hbw).trans (HRG.out j u hj)
      have HRN := Lib.hid HRN
      clear hrg hsl hsx hl5 hbF hmem hs1 hs2
      unfold lnC at HPR HRN
      go_wp2_with (refine wpList_load_mid rfl 34 _ rfl b (off + k * 5) rfl [.int .u64 (x.time : Nat), .string ⟨x.port.toArray⟩, .int .u32 (x.id : Nat), .bool x.wide, .slice sA x.data.length sc] _ (by exact HRN.out _ HBw.out) Tryd.underlying34 rfl (HI1.out) ?_)
      refine HPR.out.mono ?_
      rintro e w2 ⟨hb, ⟨hw, rfl⟩ | ⟨hw, rfl⟩⟩
      · have HB2 := Lib.hid hb
        have HX2 := Lib.hid (HBr.out.trans (hb.mono hzr))
        have HT2 := Lib.hid (own_kept HA.out.text hb)
        have HW2 := Lib.hid (own_kept HA.out.row hb)
        have HOK := Lib.hid (show okL (L.take (k + 1)) = okL (L.take k) ++ [x] from by rw [hts]; exact okL_good _ hw)
        have HLX := Lib.hid (line_len' HFX.out.1 hw)
        have z12 : w1.heap.size ≤ w2.heap.size := HX2.out.size
        clear hb hw hts
        obtain ⟨ls, hls⟩ : ∃ ls, ls = okL (L.take k) := ⟨_, rfl⟩
        rw [← hls] at HT2 HW2 HOK HLN HTL
        have HEA := Lib.hid HA.out.each
        rw [← hls] at HEA
        have hxl := HA.out.row.1
        rw [← hls] at hxl
        clear hls
        go_wp2_with (at_builtin; refine Lib.wpList_append_own_string _ rfl _ _ 24 9 rfl w1.heap.size 5 i0 Tryd.underlying24 Tryd.underlying9 hi hz0 hz1 hz2 bv (textL ls).length ((textL ls).map byC) rfl HT2.out ⟨(lineD x).toArray⟩ rfl (by have h1 := HTL.out; have h2 := HLX.out; show _ + (lineD x).toArray.size ≤ _; rw [List.size_toArray]; unfold maxLen; omega) (by have h1 := HTL.out; have h2 := HLX.out; show _ + (lineD x).toArray.size ≤ _; rw [List.size_toArray]; omega) z12 ?_)
        intro v3 w3 ho3 hg3 _
        have HO3 := Lib.hid ho3
        have HW3 := Lib.hid (HW2.out.kept hg3 (by
          cases hv : wv.ownBlock with
          | none => exact .inl rfl
          | some r => exact .inr (fun e => farmK.own_ne_own HW2.out HT2.out (by decide) r hv e.symm)))
        have HX3 := Lib.hid (Below.grown HX2.out hg3 z12 fun r hr => (HT2.out.lt r hr).1)
        have z13 : w1.heap.size ≤ w3.heap.size := HX3.out.size
        clear ho3 hg3
        go_wp2_with (at_builtin; refine wpList_append_own _ rfl _ _ 24 rfl w1.heap.size 5 i0 (.int .u8 0) 1 1 Tryd.underlying24 hi hz0 hz1 hz2 rfl (by decide) _ _ _ rfl (HO3.out.alloc _) ⟨w3.heap.size, 0, none⟩ 1 1 [.int .u8 10] rfl rfl (one_new w3 _ _) (by intro u hu; simp at hu; subst hu; rfl) (by have h1 := HTL.out; have h2 := HLX.out; show _ + (lineD x).toArray.size + 1 ≤ _; rw [List.size_toArray]; unfold maxLen; omega) (by have h1 := HTL.out; have h2 := HLX.out; show (_ + (lineD x).toArray.size + 1) * 1 ≤ _; rw [List.size_toArray]; omega) (by simp; omega) ?_)
        intro v4 w4 ho4 hg4 _
        have HO4 : Hid (w4.ownsRow w1.heap.size 5 1 v4 (textL (ls ++ [x])).length ((textL (ls ++ [x])).map byC)) := Lib.hid (by
          have e2 : (textL (ls ++ [x])).map byC = (textL ls).map byC ++ (Lib.strCells ⟨(lineD x).toArray⟩ ++ [.int .u8 10]) := by
            rw [textL_snoc, List.map_append, List.map_append, strCells_of, List.append_assoc]; rfl
          have e3 : (textL (ls ++ [x])).length = (textL ls).length + (lineD x).length + 1 := by
            rw [textL_snoc, List.length_append, List.length_append]; rfl
          rw [e2, e3]
          exact ho4)
        have HW4 := Lib.hid ((HW3.out.alloc (.cells #[.int .u8 10] 5)).kept hg4 (by
          cases hv : wv.ownBlock with
          | none => exact .inl rfl
          | some r => exact .inr (fun e => farmK.own_ne_own HW3.out HO3.out (by decide) r hv e.symm)))
        have HX4 := Lib.hid (Below.grown (HX3.out.alloc z13 (.cells #[.int .u8 10] 5)) hg4 (by simp; omega) fun r hr => (HO3.out.lt r hr).1)
        have z14 : w1.heap.size ≤ w4.heap.size := HX4.out.size
        have HBw4 : Hid (Below w.heap.size w w4) := Lib.hid (HB1.out.trans (HX4.out.mono z01))
        have zb4 : b < w4.heap.size := by have := HBw4.out.size; omega
        clear ho4 hg4
        go_wp2_with (first
          | (refine wpList_load_mid rfl 34 _ rfl b (off + k * 5) rfl [.int .u64 (x.time : Nat), .string ⟨x.port.toArray⟩, .int .u32 (x.id : Nat), .bool x.wide, .slice sA x.data.length sc] _ (by exact HRN.out _ HBw4.out) Tryd.underlying34 rfl (HI1.out) ?_)
          | (at_builtin; refine wpList_append_own_at _ rfl _ _ 22 rfl w1.heap.size 34 i1 (.agg #[.int .u64 0, .string ⟨#[]⟩, .int .u32 0, .bool false, .slice none 0 0]) 5 56 Tryd.underlying22 hj hy0 hy1 hy2 rfl (by decide) _ ls.length xs rfl (HW4.out.alloc _) ⟨w4.heap.size, 0, none⟩ 1 1 (lnC x (.slice sA x.data.length sc)) rfl rfl (news_ln w4 _ _) (lnC_one x) (by have := HLN.out; unfold maxLen; omega) (by have := HLN.out; omega) (by simp; omega) ?_))
        intro v5 w5 ho5 hg5 _ hat5
        have HX5 : Hid (Below w1.heap.size w1 w5) := Lib.hid (Below.grown (HX4.out.alloc z14 _) hg5 (by simp; omega) fun r hr => (HW4.out.lt r hr).1)
        have HBw5 : Hid (Below w.heap.size w w5) := Lib.hid (HB1.out.trans (HX5.out.mono z01))
        have HA5 : Hid (AllI w w5 w1.heap.size v4 v5 (xs ++ lnC x (.slice sA x.data.length sc)) (okL (L.take (k + 1)))) := Lib.hid (by
          rw [HOK.out]
          refine ⟨(HO4.out.alloc (.cells (lnC x (.slice sA x.data.length sc)).toArray 34)).kept hg5 (by
            cases hv : v4.ownBlock with
            | none => exact .inl rfl
            | some r => exact .inr (fun e => farmK.own_ne_own HO4.out HW4.out (by decide) r hv e.symm)), by rw [List.length_append]; exact ho5, fun i y hiy => ?_⟩
          rcases Nat.lt_or_ge i ls.length with hlt | hge
          · rw [List.getElem?_append_left hlt] at hiy
            rw [part_append_left hxl hlt]
            exact lineR_mono wr w5 _ _ _ y (fun _ h => h) (fun b hb => (HBw5.out.block b hb).trans (HBw.out.block b hb).symm) (HEA.out i y hiy)
          · have hl2 := (List.getElem?_eq_some_iff.1 hiy).1
            simp at hl2
            obtain rfl : i = ls.length := by omega
            rw [List.getElem?_append_right (Nat.le_refl _), Nat.sub_self] at hiy
            simp at hiy
            subst hiy
            rw [part_append_right hxl rfl]
            exact ⟨_, rfl, HSLK.out.belowF byE_mono (fun b hb => hb) HBw5.out⟩)
        clear ho5 hg5 hat5
        go_wp2
        go_roundw
        case rel => exact ⟨_, _, k + 1, _, rfl, rfl, by go_num, by omega, by omega, HA5, HX5⟩
        case measure => simp [intOf]; omega
      · have HX2 := Lib.hid (HBr.out.trans (hb.mono hzr))
        have HBw2 : Hid (Below w.heap.size w w2) := Lib.hid (HBw.out.trans (hb.mono HBw.out.size))
        have HA2 : Hid (AllI w w2 w1.heap.size bv wv xs (okL (L.take (k + 1)))) := Lib.hid (by
          rw [hts, okL_bad _ hw]
          exact ⟨own_kept HA.out.text hb, own_kept HA.out.row hb, fun i y hiy => lineR_mono wr w2 _ _ _ y (fun _ h => h) (fun b hb => (HBw2.out.block b hb).trans (HBw.out.block b hb).symm) (HA.out.each i y hiy)⟩)
        clear hb hw hts
        go_wp2
        go_roundw
        case rel => exact ⟨_, _, k + 1, _, rfl, rfl, by go_num, by omega, by omega, HA2, HX2⟩
        case measure => simp [intOf]; omega
    · have hdis : (decide ((k : Int) < (L.length : Int)) = false ∧ decide (k < L.length) = false) ∨ (decide ((k : Int) < (L.length : Int)) = true ∧ decide (k < L.length) = true ∧ decide ((k : Int) < 200) = false ∧ decide (k < 200) = false) := by
        by_cases h1 : k < L.length
        · refine .inr ⟨by simp; omega, by simp; omega, ?_, ?_⟩
          · simp; omega
          · simp; omega
        · exact .inl ⟨by simp; omega, by simp; omega⟩
      obtain ⟨T, hT⟩ : ∃ T, T = textL (okL (L.take k)) := ⟨_, rfl⟩
      have hcv := text_conv HA.out.text
      rw [← hT] at hcv
      have HFO : Hid (Calls Tryd.prog 6 #[.string ⟨T.toArray⟩] wr fun e w' => ∃ A c xs, e = .returned (.tuple #[.slice A (okL (L.take k)).length c, .nilIface]) ∧ (0 < (okL (L.take k)).length → ∃ g, A = some ⟨g, 0, none⟩) ∧ OwX 5 lineO w' (Iv wr.heap.size w'.heap.size) wr.heap.size 34 (.slice A (okL (L.take k)).length c) (okL (L.take k)) xs ∧ Below wr.heap.size wr w') := Lib.hid (file_ok (by rw [hT]; exact fileF_printed HGD.out (by have := HLN.out; omega)) (by have := HTL.out; rw [hT]; omega) wr (HM.out.at_below HBw.out) (HR.out.at_below HBw.out))
      have HWS := Lib.hid (HA.out.sl HBw.out.size)
      clear hT hlt
      rcases hdis with ⟨q1, q2⟩ | ⟨q1, q2, q3, q4⟩
      all_goals (
        go_wp2_with fail
        refine HFO.out.mono ?_
        rintro e w6 ⟨A6, c6, xs6, rfl, -, ho6, hb6⟩
        have HO6 := Lib.hid ho6
        have HB6 := Lib.hid hb6
        have z6 : wr.heap.size ≤ w6.heap.size := hb6.size
        clear ho6 hb6
        go_wp2_with fail
        refine (same_lines _ _ (okL (L.take k)) _ _ w6 (lines_R HO6.out) (HWS.out.belowF lineR_mono (fun b hb => hb) HB6.out) (fun b hb => hb.2) (fun b hb => Nat.lt_of_lt_of_le hb z6)).mono ?_
        rintro e w7 ⟨rfl, hb7⟩
        have HB7 := Lib.hid hb7
        clear hb7
        go_wp2
        go_ret
        exact ⟨rfl, HBw.out.trans ((HB6.out.mono HBw.out.size).trans (HB7.out.mono (Nat.le_trans HBw.out.size z6)))⟩)
end dumpW
end Go.Proofs.YtbhhfdajaoemnaaDoor
