/- Proves FrameFiveSaid: at most five bits of a frame that are turned ahead of its stuffing are seen. No condition. -/
import Derived.Test.YthjjockimpndbaaDoorRows
import Derived.Test.YthjjockimpndbaaDoorZKit
import Derived.Test.YthjjockimpndbaaDoorZWorks
import Derived.Test.YthjjockimpndbaaDoorZDecode
import Derived.Laws.OwnMore
namespace Go.Proofs.YthjjockimpndbaaDoor.frameFive
open Go.RowKit Go.Bus Go.Bus.bitK Go.Bus.crcLaw Go.Bus.decK Go.Bus.stuffK Go.ChangeShapes Go.WideShapes Go.ChangeAt Go.Joins
set_option linter.unusedVariables false

theorem rid_bd (id : Int) (wide : Bool) (h : 0 ≤ id) (h' : id < 4294967296) : 0 ≤ rightW.rid id wide ∧ rightW.rid id wide < (if wide = true then 536870912 else 2048) := by
  unfold rightW.rid
  cases wide
  · simp only [Bool.false_eq_true, if_false]
    rw [u32_and _ _ (by omega) (by omega) (by omega) (by omega)]
    have h1 : id.toNat &&& (2047 : Int).toNat ≤ 2047 := Nat.and_le_right
    omega
  · simp only [if_true]
    rw [u32_and _ _ (by omega) (by omega) (by omega) (by omega)]
    have h1 : id.toNat &&& (536870911 : Int).toNat ≤ 536870911 := Nat.and_le_right
    omega
theorem err_form (x : Err) : ∃ T v, decW.errV x = .iface T v := by
  obtain ⟨k, n⟩ := x
  cases n with
  | none => exact ⟨_, _, rfl⟩
  | some n => exact ⟨_, _, rfl⟩

set_option maxRecDepth 100000 in
set_option maxHeartbeats 1000000 in
theorem walk (id : Int) (wide : Bool) (sv iv : Value) (l ks : List Int) (w : World) (hi : 0 ≤ id) (hi' : id < 4294967296) (hs : Sl w w.heap.size (Value.int .u8) sv l) (hb : ∀ x ∈ l, 0 ≤ x ∧ x < 256)
    (hk : Sl w w.heap.size (Value.int .i64) iv ks) (hkb : ∀ x ∈ ks, -9223372036854775808 ≤ x ∧ x < 9223372036854775808) (hkl : ks.length ≤ 140737488351232) :
    Calls Tryd.prog 71 #[.agg #[.int .u32 id, .bool wide, sv], iv] w fun e w' => e = .returned (.bool true) ∧ Below w.heap.size w w' := by
  obtain ⟨A, cap, rfl, hcap, hmax⟩ := hs.form
  obtain ⟨A0, cap0, rfl, hcap0, hmax0⟩ := hk.form
  obtain ⟨i0, hi0, hz0, hz1, hz2⟩ := info_parts Tryd.infoBool
  have HU := Lib.hid hs; clear hs hcap hmax
  have HKS := Lib.hid hk; clear hk hcap0 hmax0
  have HKB := Lib.hid hkb; clear hkb
  obtain ⟨p, hp⟩ : ∃ p, p = l.take 8 := ⟨_, rfl⟩
  obtain ⟨x, hx⟩ : ∃ x, x = rightW.rid id wide := ⟨_, rfl⟩
  have RI := Lib.hid (rid_bd id wide hi hi')
  rw [← hx] at RI
  have hp8 : p.length ≤ 8 := by rw [hp, List.length_take]; omega
  have BL : Hid (∀ y ∈ p, 0 ≤ y ∧ y < 256) := fun y hy => hb y (List.mem_of_mem_take (hp ▸ hy))
  have HP := Lib.hid hp; clear hp
  have HX := Lib.hid hx; clear hx
  have x0 : 0 ≤ x := RI.out.1
  have x1 : x ≤ 536870911 := by have := RI.out.2; split at this <;> omega
  have X2 : Hid (wide = false → x ≤ 2047) := by intro e; have := RI.out.2; rw [e] at this; simp at this; omega
  obtain ⟨X, hX⟩ : ∃ X, X = bitsF x wide p := ⟨_, rfl⟩
  have lX : X.length = (if wide = true then 54 else 34) + 8 * p.length := by rw [hX]; exact bitsF_length _ _ _
  have bX : X.length ≤ 118 := by rw [lX]; split <;> omega
  have bX0 : 34 ≤ X.length := by rw [lX]; split <;> omega
  have EX := Lib.hid hX; clear hX
  clear hb hi hi' lX
  go_enter Tryd.func71, Tryd.ntmps71
  go_wp2_with fail
  refine (rightW.right_any id wide _ l _ (HU.out.at_below (by repeat (first | exact Below.refl _ _ | assumption | refine Below.drew ?_ | refine below_drewN ?_ _ | (refine Below.alloc ?_ (by (try simp); (try omega)) _) | (refine Below.setCell ?_ (by (try simp); (try omega)) _))))).mono ?_
  rintro e w1 ⟨v1, rfl, hown1, hb_w1⟩
  rw [← HX.out]
  rw [← HP.out] at hown1
  have hs1 := Sl.of_own hown1
  obtain ⟨C1, c1, rfl, hc1, hm1⟩ := hs1.form
  have S1 := Lib.hid hs1; clear hs1 hown1
  obtain ⟨hc_w1, hf_w1⟩ := bcell hb_w1; have hz_w1 := hb_w1.size; (try simp at hz_w1); have hB_w1 : Below w.heap.size w w1 := Below.trans (by repeat (first | exact Below.refl _ _ | assumption | refine Below.drew ?_ | refine below_drewN ?_ _ | (refine Below.alloc ?_ (by (try simp); (try omega)) _) | (refine Below.setCell ?_ (by (try simp); (try omega)) _))) (hb_w1.mono (by (try simp); (try omega))); have z_w1_0 : w.heap.size < w1.heap.size := (by omega)
  go_wp2_with fail
  refine (bitsW.bits_ok x wide _ p _ (S1.out.at_below (by repeat (first | exact Below.refl _ _ | assumption | refine Below.drew ?_ | refine below_drewN ?_ _ | (refine Below.alloc ?_ (by (try simp); (try omega)) _) | (refine Below.setCell ?_ (by (try simp); (try omega)) _)))) x0 x1 X2.out hp8 BL.out).mono ?_
  rintro e w2 ⟨v2, rfl, hown2, hb_w2⟩
  rw [← EX.out] at hown2
  have hs2 := Sl.of_own hown2
  obtain ⟨C2, c2, rfl, hc2, hm2⟩ := hs2.form
  have S2 := Lib.hid hs2; clear hs2 hown2
  have hb12 : Below w1.heap.size w1 w2 := Below.trans (b := _) (by repeat (first | exact Below.refl _ _ | assumption | refine Below.drew ?_ | refine below_drewN ?_ _ | (refine Below.alloc ?_ (by (try simp); (try omega)) _) | (refine Below.setCell ?_ (by (try simp); (try omega)) _))) (hb_w2.mono (by (try simp); (try omega)))
  have P2 : Hid (Sl w2 w2.heap.size (Value.int .u8) (.slice C1 p.length c1) p) := S1.out.at_below hb12
  clear hb12 S1
  obtain ⟨hc_w2, hf_w2⟩ := bcell hb_w2; have hz_w2 := hb_w2.size; (try simp at hz_w2); have hB_w2 : Below w.heap.size w w2 := Below.trans (by repeat (first | exact Below.refl _ _ | assumption | refine Below.drew ?_ | refine below_drewN ?_ _ | (refine Below.alloc ?_ (by (try simp); (try omega)) _) | (refine Below.setCell ?_ (by (try simp); (try omega)) _))) (hb_w2.mono (by (try simp); (try omega))); have z_w2_0 : w1.heap.size < w2.heap.size := (by omega)
  go_wp2_with fail
  refine (worksW.works_yes _).mono ?_
  rintro e w3 ⟨rfl, hb_w3⟩
  have P3 : Hid (Sl w3 w3.heap.size (Value.int .u8) (.slice C1 p.length c1) p) := P2.out.at_below hb_w3
  have X3 : Hid (Sl w3 w3.heap.size Value.bool (.slice C2 X.length c2) X) := S2.out.at_below hb_w3
  clear P2 S2
  obtain ⟨hc_w3, hf_w3⟩ := bcell hb_w3; have hz_w3 := hb_w3.size; (try simp at hz_w3); have hB_w3 : Below w.heap.size w w3 := Below.trans (by repeat (first | exact Below.refl _ _ | assumption | refine Below.drew ?_ | refine below_drewN ?_ _ | (refine Below.alloc ?_ (by (try simp); (try omega)) _) | (refine Below.setCell ?_ (by (try simp); (try omega)) _))) (hb_w3.mono (by (try simp); (try omega))); have z_w3_0 : w1.heap.size < w3.heap.size := (by omega)
  have f3 : ∀ o, w3.cell? ⟨w1.heap.size, o, none⟩ = (w1.alloc (.cells #[.int .u32 x, .bool wide, .slice C1 p.length c1] 46)).cell? ⟨w1.heap.size, o, none⟩ := fun o => by
    rw [hc_w3 _ _ (by omega), hc_w2 _ _ (by simp)]
  have f30 : w3.cell? ⟨w1.heap.size, 0, none⟩ = some (.int .u32 x) := by rw [f3]; simp
  have f31 : w3.cell? ⟨w1.heap.size, 1, none⟩ = some (.bool wide) := by rw [f3]; simp
  have f32 : w3.cell? ⟨w1.heap.size, 2, none⟩ = some (.slice C1 p.length c1) := by rw [f3]; simp
  have F30 := Lib.hid f30
  have F31 := Lib.hid f31
  have F32 := Lib.hid f32
  have hks3 := HKS.out.at_below hB_w3
  have K3 := Lib.hid hks3
  clear hks3 f30 f31 f32 f3 hc_w1 hc_w2 hc_w3 hf_w1 hf_w2 hf_w3 hB_w1 hB_w2 hb_w1 hb_w2 hb_w3 z_w2_0 hz_w1 hz_w2 hz_w3
  unfold maxLen at hm1 hm2
  have d0 : ((X.length : Int) == 0) = false := by rw [beq_eq_false_iff_ne]; omega
  obtain ⟨XL, hXL⟩ : ∃ XL, XL = X.length := ⟨_, rfl⟩
  rw [← hXL] at bX bX0 d0 X3 hc2
  rw [← hXL]
  have HXL := Lib.hid hXL; clear hXL
  go_wp2
  clear d0
  go_loopw [8, 9] (fun t i wr => ∃ k : Nat, k ≤ XL ∧ i = .int .i64 k ∧ wr.ownsRow w3.heap.size 4 1 t k ((X.map Value.bool).take k) ∧ Below w3.heap.size w3 wr) (fun _ i _ => XL - (intOf i).toNat)
  case atStart => exact ⟨0, Nat.zero_le _, rfl, World.ownsRow_nil _ _ _ _, Below.refl _ _⟩
  case round =>
    obtain ⟨k, hk, rfl, hown, hbel⟩ := hrel
    by_cases hlt : k < XL
    · have hltX : k < X.length := by rw [← HXL.out]; exact hlt
      obtain ⟨b, off, rfl, hb, hc0⟩ := X3.out.at_ hltX
      have hc : wr.cell? ⟨b, off + k, none⟩ = some (.bool X[k]) := (hbel.cell (p := ⟨b, off + k, none⟩) hb).trans hc0
      have HT := Lib.hid (take_map_snoc Value.bool X k hltX)
      clear hc0
      generalize X[k] = xk at *
      clear hltX
      go_wp2_with (at_builtin; refine wpList_append_own _ rfl _ _ 48 rfl w3.heap.size 4 i0 (.bool false) 1 1 Tryd.underlying48 hi0 hz0 hz1 hz2 rfl (by decide) _ _ _ rfl (hown.alloc _) ⟨wr.heap.size, 0, none⟩ 1 1 [.bool xk] rfl rfl ?c1 ?c2 ?c3 ?c4 ?c5 ?_)
      case c1 => exact one_new wr _ _
      case c2 => intro u hu; simp at hu; subst hu; rfl
      case c3 => unfold maxLen; omega
      case c4 => omega
      case c5 => have := hbel.size; simp; omega
      intro v' w9 hown' hgrow _
      have hr := Round.step hbel hown hown' hgrow (hxs := HT.out)
      clear hown hown' hgrow hbel hc
      obtain ⟨hown1, hbel1⟩ := hr
      have HO1 := Lib.hid hown1; clear hown1
      go_wp2
      go_roundw
      case rel => exact ⟨k + 1, by omega, by go_num, HO1.out, hbel1⟩
      case measure => first | (simp [intOf]; done) | (simp [intOf]; omega)
    · obtain rfl : XL = k := by omega
      rw [List.take_of_length_le (by simp; have := HXL.out; omega)] at hown
      obtain ⟨g, c, rfl, hgc1, hgc2⟩ := own_form hown (by omega)
      have HO := Lib.hid hown; clear hown
      have HB0 := Lib.hid hbel; clear hbel
      clear hk hlt
      go_wp2
      go_loopw [10] (fun i wr => ∃ (k : Nat) (t : List Bool), k ≤ ks.length ∧ k ≤ 5 ∧ i = .int .i64 k ∧ Hid (t.length = X.length) ∧ Hid ((diff X t).count true ≤ k) ∧ wr.ownsRow w3.heap.size 4 1 (.slice (some ⟨g, 0, none⟩) XL c) XL (t.map Value.bool) ∧ Below w3.heap.size w3 wr) (fun i _ => 5 - (intOf i).toNat)
      case atStart => exact ⟨0, X, Nat.zero_le _, Nat.zero_le _, rfl, Lib.hid rfl, Lib.hid (by rw [diff_self]; exact Nat.le_refl _), HO.out, HB0.out⟩
      case round =>
        clear HO HB0
        obtain ⟨k, t, hk, hk5, rfl, hlt0, hdf, hown, hbel⟩ := hrel
        have htl : t.length = XL := by rw [hlt0.out, HXL.out]
        by_cases hgo : k < ks.length ∧ k < 5
        · obtain ⟨hlt, h5⟩ := hgo
          obtain ⟨b, off, rfl, hb, hc0⟩ := K3.out.at_ hlt
          have hc : wr.cell? ⟨b, off + k, none⟩ = some (.int .i64 ks[k]) := (hbel.cell (p := ⟨b, off + k, none⟩) hb).trans hc0
          have hkk := HKB.out ks[k] (List.getElem_mem hlt)
          clear hc0
          generalize ks[k] = y at *
          have hr0 := Int.emod_nonneg y (show (XL : Int) ≠ 0 by omega)
          have hr1 := Int.emod_lt_of_pos y (show (0 : Int) < (XL : Int) by omega)
          obtain ⟨r, hr⟩ : ∃ r : Nat, (r : Int) = y % (XL : Int) := ⟨(y % (XL : Int)).toNat, by omega⟩
          have hrl : r < t.length := by omega
          have hrx : r < XL := by omega
          have HR := Lib.hid hr
          have hcell : wr.cell? ⟨g, r, none⟩ = some (.bool t[r]) := by
            rw [hown.cellAt r (by omega), List.getElem?_map, List.getElem?_eq_getElem hrl]; rfl
          have hfr : wr.frozen? ⟨g, r, none⟩ = false := hown.frozenAt r
          have hst := (hown.stored r (.bool (!t[r]))).1
          rw [show (t.map Value.bool).set r (.bool (!t[r])) = (t.set r (!t[r])).map Value.bool from List.map_set.symm] at hst
          have hgl := (hown.lt g (by rfl)).1
          have HST := Lib.hid hst; clear hst
          have HOW := Lib.hid hown; clear hown
          have HD2 : Hid ((diff X (t.set r (!t[r]))).count true ≤ k + 1) := by
            have := diff_set X t r (!t[r]) hlt0.out.symm
            have h2 := hdf.out
            unfold Hid; omega
          have HL2 : Hid ((t.set r (!t[r])).length = X.length) := by unfold Hid; rw [List.length_set]; exact hlt0.out
          generalize t.set r (!t[r]) = t2 at *
          generalize t[r] = tr at *
          clear hr hr0 hr1 hlt0 hdf htl hrl
          go_wp2_with fail
          refine (pickK.pick_any y (XL : Int) _ (by omega) (by omega) (by omega) (by omega)).mono ?_
          rintro e w9 ⟨rfl, rfl⟩
          rw [← HR.out]
          go_wp2
          go_roundw
          case rel => exact ⟨k + 1, t2, by omega, by omega, by go_num, HL2, HD2, HST.out, hbel.setCell (by dsimp only; omega) _⟩
          case measure => first | (simp [intOf]; done) | (simp [intOf]; omega)
        · have hcases : ¬ k < ks.length ∨ (k < ks.length ∧ ¬ k < 5) := by omega
          have HS0 := Lib.hid (Sl.of_own (l := t) (f := Value.bool) (by rw [htl]; exact hown))
          have hdc : (diff X t).count true ≤ 5 := by have := hdf.out; omega
          have HDC := Lib.hid hdc
          have HTL := Lib.hid htl
          have hwl : (wireW.wireF t).length ≤ 140737488351232 := by
            have h1 : (wireW.wireF t).length = (stuffF t).length + 10 := onF_length t
            have h2 := (run_bd t).2
            have h3 : (stuffF t).length ≤ 2 * t.length := h2
            omega
          have HWL := Lib.hid hwl
          have HB := Lib.hid hbel
          have hsz := hbel.size
          clear hown hdf hdc htl hlt0 hwl hbel hgo
          rcases hcases with hq | ⟨hq1, hq2⟩
          all_goals
            go_wp2_with fail
            refine (wireW.wire_any _ t _ (by exact HS0.out) (by have := HTL.out; omega)).mono ?_
            rintro e w5 ⟨v5, rfl, hown5, hb5⟩
            have hs5 := Sl.of_own hown5
            obtain ⟨C5, c5, rfl, hc5, hm5⟩ := hs5.form
            have S5 := Lib.hid hs5; clear hs5 hown5 hc5 hm5
            go_wp2_with fail
            refine (decW.dec_any _ (wireW.wireF t) _ S5.out HWL.out).mono ?_
            intro e w6 hD
            rw [show allF (wireW.wireF t) = decE t from all_on t] at hD
            by_cases hte : t = X
            · have hdk : decE t = .ok (x, wide, p) := by rw [hte, EX.out, decE, dec_bits x wide p hp8 BL.out x0 RI.out.2]
              rw [hdk] at hD
              have HTE := Lib.hid hte
              clear hdk hte
              obtain ⟨v6, rfl, hown6, hb6⟩ := hD
              have hs6 := Sl.of_own hown6
              obtain ⟨C6, c6, rfl, hc6, hm6⟩ := hs6.form
              have S6 := Lib.hid hs6; clear hs6 hown6 hc6 hm6
              have T6 := Lib.hid ((HS0.out.at_below hb5).at_below hb6)
              have hb36 : Below w3.heap.size w3 w6 := HB.out.trans ((hb5.trans (hb6.mono hb5.size)).mono HB.out.size)
              have X6 := Lib.hid (X3.out.at_below hb36)
              have P6 := Lib.hid (P3.out.at_below hb36)
              have f60 := (hb36.cell (p := ⟨w1.heap.size, 0, none⟩) z_w3_0).trans F30.out
              have f61 := (hb36.cell (p := ⟨w1.heap.size, 1, none⟩) z_w3_0).trans F31.out
              have f62 := (hb36.cell (p := ⟨w1.heap.size, 2, none⟩) z_w3_0).trans F32.out
              have z6 : w1.heap.size < w6.heap.size := Nat.lt_of_lt_of_le z_w3_0 hb36.size
              have hB6 : Below w.heap.size w w6 := hB_w3.trans (hb36.mono hB_w3.size)
              have hz6 := hB6.size
              clear hb5 hb6 hb36 hsz S5 HS0 X3 P3 F30 F31 F32 hB_w3 HB
              go_wp2_with fail
              refine (sameW.bools_any _ _ t X _ _ (by exact T6.out.at_below (by repeat (first | exact Below.refl _ _ | assumption | refine Below.drew ?_ | refine below_drewN ?_ _ | (refine Below.alloc ?_ (by (try simp); (try omega)) _) | (refine Below.setCell ?_ (by (try simp); (try omega)) _)))) (by exact X6.out.at_below (by repeat (first | exact Below.refl _ _ | assumption | refine Below.drew ?_ | refine below_drewN ?_ _ | (refine Below.alloc ?_ (by (try simp); (try omega)) _) | (refine Below.setCell ?_ (by (try simp); (try omega)) _))))).mono ?_
              rintro e w7 ⟨rfl, n7, rfl⟩
              rw [decide_eq_true HTE.out]
              go_wp2_with fail
              refine (sameW.frame_any x x wide wide _ _ p p _ (by exact S6.out.at_below (by repeat (first | exact Below.refl _ _ | assumption | refine Below.drew ?_ | refine below_drewN ?_ _ | (refine Below.alloc ?_ (by (try simp); (try omega)) _) | (refine Below.setCell ?_ (by (try simp); (try omega)) _)))) (by exact P6.out.at_below (by repeat (first | exact Below.refl _ _ | assumption | refine Below.drew ?_ | refine below_drewN ?_ _ | (refine Below.alloc ?_ (by (try simp); (try omega)) _) | (refine Below.setCell ?_ (by (try simp); (try omega)) _))))).mono ?_
              rintro e w8 ⟨rfl, hb8⟩
              rw [decide_eq_true (show x = x ∧ wide = wide ∧ p = p from ⟨rfl, rfl, rfl⟩)]
              have hB8 : Below w.heap.size w w8 := Below.trans (b := _) (by repeat (first | exact Below.refl _ _ | assumption | refine Below.drew ?_ | refine below_drewN ?_ _ | (refine Below.alloc ?_ (by (try simp); (try omega)) _) | (refine Below.setCell ?_ (by (try simp); (try omega)) _))) (hb8.mono (by first | (simp; exact hB6.size) | (simp; exact Nat.le_succ_of_le hB6.size) | exact hB6.size))
              go_wp2
              go_ret
              exact ⟨rfl, hB8⟩
            · obtain ⟨er, her⟩ := five_seen (i := x) (w := wide) (l := p) (t := t) hp8 (by rw [HTL.out, HXL.out, EX.out]) (by rw [← EX.out]; exact HDC.out) (by rw [← EX.out]; exact hte)
              rw [her] at hD
              obtain ⟨he, hb6⟩ := hD
              obtain ⟨TT, y, hx⟩ := err_form er
              rw [hx] at he
              unfold decW.noFrame at he
              subst he
              have HTE : Hid (¬ t = X) := hte
              clear her hx hte
              have T6 := Lib.hid ((HS0.out.at_below hb5).at_below hb6)
              have hb36 : Below w3.heap.size w3 w6 := HB.out.trans ((hb5.trans (hb6.mono hb5.size)).mono HB.out.size)
              have X6 := Lib.hid (X3.out.at_below hb36)
              have hB6 : Below w.heap.size w w6 := hB_w3.trans (hb36.mono hB_w3.size)
              have hz6 := hB6.size
              clear hb5 hb6 hb36 hsz S5 HS0 X3 P3 F30 F31 F32 hB_w3 HB
              go_wp2_with fail
              refine (sameW.bools_any _ _ t X _ _ (by exact T6.out.at_below (by repeat (first | exact Below.refl _ _ | assumption | refine Below.drew ?_ | refine below_drewN ?_ _ | (refine Below.alloc ?_ (by (try simp); (try omega)) _) | (refine Below.setCell ?_ (by (try simp); (try omega)) _)))) (by exact X6.out.at_below (by repeat (first | exact Below.refl _ _ | assumption | refine Below.drew ?_ | refine below_drewN ?_ _ | (refine Below.alloc ?_ (by (try simp); (try omega)) _) | (refine Below.setCell ?_ (by (try simp); (try omega)) _))))).mono ?_
              rintro e w7 ⟨rfl, n7, rfl⟩
              rw [decide_eq_false HTE.out]
              go_wp2
              go_ret
              exact ⟨rfl, (by repeat (first | exact Below.refl _ _ | assumption | refine Below.drew ?_ | refine below_drewN ?_ _ | (refine Below.alloc ?_ (by (try simp); (try omega)) _) | (refine Below.setCell ?_ (by (try simp); (try omega)) _)))⟩


end Go.Proofs.YthjjockimpndbaaDoor.frameFive
