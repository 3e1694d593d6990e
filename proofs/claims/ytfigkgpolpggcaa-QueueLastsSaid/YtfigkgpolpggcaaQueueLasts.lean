/- Proves QueueLastsSaid: an iterator hands out what there was. No condition. -/
import Derived.Test.YtfigkgpolpggcaaRows
import Derived.RangeFuncWrites
import Derived.Test.YtfigkgpolpggcaaIntsOpen
import Derived.Test.YtfigkgpolpggcaaQVals
import Derived.Test.YtfigkgpolpggcaaSameInts
import Derived.Test.YtfigkgpolpggcaaPick
namespace Go.Proofs.Ytfigkgpolpggcaa.queueLasts
open Go.RowKit Go.Shelf Go.Bus Go.Bus.ringK Go.ChangeShapes Go.WideShapes Go.ChangeAt Go.Joins
set_option linter.unusedVariables false
attribute [local go_sem] Oper.semAt_some

/-- Nothing but blocks q and g has turned. -/
structure Stay (q g : Nat) (W W' : World) : Prop where
  rest : ∀ i, i ≠ q → i ≠ g → W'.heap[i]? = W.heap[i]?
  size : W'.heap.size = W.heap.size
theorem Stay.trans {q g : Nat} {A B C : World} (h : Stay q g A B) (h' : Stay q g B C) : Stay q g A C := ⟨fun i h1 h2 => (h'.rest i h1 h2).trans (h.rest i h1 h2), h'.size.trans h.size⟩
theorem Stay.drewN {q g : Nat} {A B : World} (h : Stay q g A B) (n : Nat) : Stay q g A (B.drewN n) := ⟨h.rest, h.size⟩
theorem cell_stay {W W' : World} {b : Nat} (o : Nat) (h : W'.heap[b]? = W.heap[b]?) : W'.cell? ⟨b, o, none⟩ = W.cell? ⟨b, o, none⟩ := by
  unfold World.cell?
  simp only [h]
theorem own_stay {q g : Nat} {W W' : World} {base : Nat} {e : TypeId} {size : Nat} {v : Value} {n : Nat} {xs : List Value} (h : W.ownsRow base e size v n xs) (hs : Stay q g W W') (hq : q < base) (hg : g < base) : W'.ownsRow base e size v n xs := by
  refine ⟨h.1, ?_⟩
  rcases h.2 with hn | ⟨b, cap, cur, rfl, hbb, hgg, rest⟩
  · exact .inl hn
  · exact .inr ⟨b, cap, cur, rfl, hbb, (hs.rest b (by omega) (by omega)).trans hgg, rest⟩
theorem own_count {w : World} {base : Nat} {e : TypeId} {size n : Nat} {v : Value} {xs : List Value} (h : w.ownsRow base e size v n xs) : ∃ A c, v = .slice A n c := by
  rcases h.2 with ⟨rfl, rfl⟩ | ⟨g, cap, cur, rfl, _⟩
  · exact ⟨_, _, rfl⟩
  · exact ⟨_, _, rfl⟩
theorem cell_lt {w : World} {b o : Nat} {v : Value} (h : w.cell? ⟨b, o, none⟩ = some v) : b < w.heap.size := by
  rcases Nat.lt_or_ge b w.heap.size with h1 | h1
  · exact h1
  · unfold World.cell? at h
    simp [Array.getElem?_eq_none h1] at h
theorem below_alloc_refl (w : World) (o : Obj) : Below w.heap.size w (w.alloc o) := (Below.refl _ w).alloc (Nat.le_refl _) _

theorem pick_to {k n : Int} {r : Nat} (w : World) (hn : 0 < n) (hn' : n ≤ 9223372036854775807) (hk : (Lit.int .i64 k).wf = true) (hr : k % n = r) :
    Calls Try.prog 6 #[.int .i64 k, .int .i64 n] w fun e w' => e = .returned (.int .i64 (r : Int)) ∧ w = w' := by
  have hb := intsA.wf_int hk
  rw [← hr]
  exact pickK.pick_any k n w hn hn' hb.1 (by omega)
theorem new_to (r : Nat) (w : World) (hr : r < 9) : Calls Try.prog 5 #[.int .i64 (1 + (r : Int))] w (qint.Made (1 + r) w) := by
  have h := qint.new_ok (1 + r) w (by omega) (by omega)
  rwa [show ((1 + r : Nat) : Int) = 1 + (r : Int) by omega] at h

set_option maxRecDepth 100000 in
set_option maxHeartbeats 1000000 in
theorem walk (v : Value) (l : List Int) (room take put : Int) (w : World) (hS : Sl w w.heap.size (Value.int .i64) v l) (h1 : (Lit.int .i64 room).wf = true) (h2 : (Lit.int .i64 take).wf = true) (h3 : (Lit.int .i64 put).wf = true) :
    Calls Try.prog 3 #[.int .i64 room, v, .int .i64 take, .int .i64 put] w fun e w' => e = .returned (.bool true) ∧ Below w.heap.size w w' := by
  obtain ⟨A, cap, rfl, hcap, hmax⟩ := hS.form
  unfold maxLen at hmax
  have HS := Lib.hid hS; clear hS
  obtain ⟨r, hr, hr9⟩ : ∃ r : Nat, room % 9 = r ∧ r < 9 := ⟨(room % 9).toNat, by omega, by omega⟩
  obtain ⟨t, ht, ht4⟩ : ∃ t : Nat, take % 4 = t ∧ t < 4 := ⟨(take % 4).toNat, by omega, by omega⟩
  obtain ⟨s, hs, hs4⟩ : ∃ s : Nat, put % 4 = s ∧ s < 4 := ⟨(put % 4).toNat, by omega, by omega⟩
  have HP1 := Lib.hid (fun W => pick_to (n := 9) W (by omega) (by omega) h1 hr)
  have HP2 := Lib.hid (fun W => pick_to (n := 4) W (by omega) (by omega) h2 ht)
  have HP3 := Lib.hid (fun W => pick_to (n := 4) W (by omega) (by omega) h3 hs)
  clear hr ht hs h1 h2 h3
  obtain ⟨i0, hi, hz0, hz1, hz2⟩ := info_parts qit.infoI
  obtain ⟨d, hd⟩ : ∃ d, d = min l.length 12 := ⟨_, rfl⟩
  obtain ⟨n, hn⟩ : ∃ n : Nat, 4 ≤ n := ⟨4, Nat.le_refl _⟩
  have h1 : 1 ≤ n := by omega
  refine (callsIn_wide (n := n)).1 ?_
  refine callsIn_of_wp_marks Try.func3 rfl trivial ?_ rfl
  simp only [Try.ntmps3, List.size_toArray, List.length_cons, List.length_nil, Nat.reduceAdd, Nat.reduceSub, Array.replicate_succ, Array.replicate_zero, List.push_toArray, List.append_toArray, List.nil_append, List.cons_append]
  gi_wp2_with (refine ⟨trivial, ?_⟩; gi_at_call 6; refine (callsIn_wide.2 (HP1.out _)).mono ?_; rintro e w' ⟨rfl, rfl⟩)
  gi_wp2_with (refine ⟨trivial, ?_⟩; gi_at_call 5; refine (callsIn_wide.2 (new_to r _ hr9)).mono ?_; rintro e w1 ⟨q, g, rfl, hR1, hB1, hq1, hg1⟩)
  obtain ⟨hlq, hlg⟩ := hR1.lt
  have hz1' := hB1.size
  gi_loopw [11, 12] (fun o' i wr => ∃ (o : Value) (k m : Nat), o = o' ∧ i = .int .i64 k ∧ k ≤ d ∧ m = min k (1 + r) ∧ qit.RingS wr q g (1 + r) 0 (l.take m) ∧ wr.ownsRow w1.heap.size 3 1 o m ((l.take m).map (Value.int .i64)) ∧ Below w.heap.size w wr ∧ w1.heap.size ≤ wr.heap.size) (fun _ i _ => d - (intOf i).toNat)
  case atStart => exact ⟨_, 0, 0, rfl, rfl, by omega, by omega, hR1, World.ownsRow_nil _ _ _ _, hB1, Nat.le_refl _⟩
  case round =>
    obtain ⟨o, k, m, rfl, rfl, hkd, hm, hR, ho, hB, hsz⟩ := hrel
    have HR := Lib.hid hR
    obtain ⟨Ao, co, rfl⟩ := own_count ho
    have HO := Lib.hid ho
    have HB := Lib.hid hB
    clear hR1 hB1 hR ho hB
    by_cases hlt : k < d
    · have hkl : k < l.length := by omega
      have hk12 : k < 12 := by omega
      obtain ⟨b, off, rfl, hbb, hc0⟩ := HS.out.at_ hkl
      have hcx := (HB.out.cell (p := ⟨b, off + k, none⟩) hbb).trans hc0
      obtain ⟨x, hx⟩ : ∃ x, x = l[k] := ⟨_, rfl⟩
      rw [← hx] at hcx hc0
      have HTK : Hid (l.take (k + 1) = l.take k ++ [x]) := by rw [hx]; exact Lib.hid (take_snoc l k hkl)
      have HC0 := Lib.hid hc0
      clear hx hc0
      by_cases hkr : k < 1 + r
      · obtain rfl : m = k := by omega
        clear hm
        have hlm : (l.take m).length = m := by rw [List.length_take]; omega
        gi_wp2_with (first
          | (refine ⟨trivial, ?_⟩; gi_at_call 7; refine (callsIn_wide.2 (qint.push_ok (B := w.heap.size) HR.out x (by rw [hlm]; exact hkr) (by omega) hq1 hg1)).mono ?_; rintro e w2 ⟨rfl, hR2, hb2, hz2', hk2⟩; have HR2 := Lib.hid hR2; have HST := Lib.hid (Stay.mk (q := q) (g := g) hk2 hz2'); have HB2 := Lib.hid (HB.out.trans hb2); have hcx2 := (hb2.cell (p := ⟨b, off + m, none⟩) hbb).trans hcx; have ho2 := own_stay HO.out HST.out hlq hlg; have hz22 : w1.heap.size ≤ w2.heap.size := Nat.le_trans hsz (Nat.le_of_eq (Eq.symm hz2')); clear hR2 hb2 hk2 hcx hz2')
          | (gi_at_builtin; refine wpListIn_append_own _ rfl _ _ 22 rfl w1.heap.size 3 i0 (.int .i64 0) 1 8 Try.underlying22 hi hz0 hz1 hz2 rfl (by decide) _ _ _ rfl (ho2.alloc _) ⟨w2.heap.size, 0, none⟩ 1 1 [.int .i64 x] rfl rfl (cell_one_new _ _ _) (by simp [Value.oneCell']) (by unfold maxLen; omega) (by omega) (by simp; omega) ?_; intro v' w3 hown' hgrow _; obtain ⟨g', cap', rfl⟩ := ownsRow_succ hown'; have hst := Round.step (w := w2) (Below.refl w1.heap.size w2) ho2 hown' hgrow (by omega) rfl))
        have hb3 := hst.2
        have HR3 := Lib.hid (HR2.out.below hb3 hlq hlg)
        have hz3 := hb3.size
        go_roundw
        case rel => exact ⟨_, m + 1, m + 1, rfl, by go_num, by omega, by omega, by rw [HTK.out]; exact HR3.out, by rw [HTK.out, List.map_append]; exact hown', HB2.out.trans (hb3.mono (by have := HB2.out.size; omega)), by omega⟩
        case measure => first | (simp [intOf]; done) | (simp [intOf]; omega)
      · obtain rfl : m = 1 + r := by omega
        clear hm
        have hlm : (l.take (1 + r)).length = 1 + r := by rw [List.length_take]; omega
        gi_wp2_with (refine ⟨trivial, ?_⟩; gi_at_call 7; refine (callsIn_wide.2 (qint.push_full HR.out x hlm)).mono ?_; rintro e w2 ⟨rfl, m2, rfl⟩)
        go_roundw
        case rel => exact ⟨_, k + 1, 1 + r, rfl, by go_num, by omega, by omega, by exact HR.out.drewN _, by exact HO.out, below_drewN HB.out _, by exact hsz⟩
        case measure => first | (simp [intOf]; done) | (simp [intOf]; omega)
    · obtain rfl : k = d := by omega
      have hlm : (l.take m).length = m := by rw [List.length_take]; omega
      obtain ⟨L1, hL1⟩ : ∃ L1, L1 = l.take m := ⟨_, rfl⟩
      rw [← hL1] at HR HO hlm
      have hm9 : m ≤ 1 + r := by omega
      have d7 : ((m : Int) != min (l.length : Int) (1 + (r : Int))) = false := by rw [bne_eq_false_iff_eq]; omega
      have HRO := HR.out.lt
      have hor : (¬ k < l.length ∧ (1 + (r : Int) < (l.length : Int))) ∨ (¬ k < l.length ∧ ¬ (1 + (r : Int) < (l.length : Int))) ∨ ((k < l.length ∧ ¬ k < 12) ∧ (1 + (r : Int) < (l.length : Int))) := by omega
      have hk12' : k ≤ 12 := by omega
      have hfn : ∀ (W : World) (Bl : Nat), (binOp BinOp.eql 31 (.func (.func 19) #[] #[.pointer (some ⟨Bl, 0, none⟩)]) .nilFunc).run Try.prog W = .ok (.bool false) W := fun _ _ => rfl
      clear hm hd hlt hL1
      rcases hor with ⟨hkl, hlr⟩ | ⟨hkl, hlr⟩ | ⟨⟨hkl, hk12⟩, hlr⟩
      all_goals
        gi_wp2_with (refine ⟨trivial, ?_⟩; gi_at_call 6; refine (callsIn_wide.2 (HP1.out _)).mono ?_; rintro e w' ⟨rfl, rfl⟩)
        gi_wp2_with (refine ⟨trivial, ?_⟩; gi_at_call 8; refine (qit.all_in (n - 1) (by omega) q g (1 + r) 0 L1 (by omega) _ HR.out).mono ?_; rintro e w4 ⟨Bl, v4, rfl, hBl, hc4, ho4, hb4⟩)
        have HR4 := Lib.hid (HR.out.below hb4 HRO.1 HRO.2)
        have HW4 := Lib.hid (own_kept HO.out hb4)
        have HA4 := Lib.hid (And.intro hc4 ho4)
        have HB4 := Lib.hid (HB.out.trans (hb4.mono HB.out.size))
        have hz4 := hb4.size
        have hBl4 := cell_lt hc4
        clear hc4 ho4 hb4 HR HO HB d7
        obtain ⟨wo, hwo⟩ : ∃ wo : Nat, wo = wr.heap.size := ⟨_, rfl⟩
        rw [← hwo] at HRO HA4 hsz hz4 hBl
        clear hwo
        gi_loopw [14] (fun i wq => ∃ (k2 fr : Nat) (L2 : List Int), i = .int .i64 k2 ∧ k2 ≤ t ∧ qit.RingS wq q g (1 + r) fr L2 ∧ Below w.heap.size w wq ∧ Stay q g w4 wq) (fun i _ => t - (intOf i).toNat)
        case atStart => exact ⟨0, 0, L1, rfl, by omega, HR4.out, HB4.out, ⟨fun _ _ _ => rfl, rfl⟩⟩
        case round =>
          obtain ⟨k2, fr, L2, rfl, hk2, hR, hB, hS⟩ := hrel
          have HR := Lib.hid hR
          have HB := Lib.hid hB
          have HSt := Lib.hid hS
          clear HR4 HB4 hR hB hS
          by_cases hlt2 : k2 < t
          · cases L2 with
            | nil =>
              gi_wp2_with (first
                | (refine ⟨trivial, ?_⟩; gi_at_call 6; refine (callsIn_wide.2 (HP2.out _)).mono ?_; rintro e w' ⟨rfl, rfl⟩)
                | (refine ⟨trivial, ?_⟩; gi_at_call 9; refine (callsIn_wide.2 (qint.pop_none HR.out)).mono ?_; rintro e w5 ⟨rfl, m5, rfl⟩))
              go_roundw
              case rel => exact ⟨k2 + 1, fr, [], by go_num, by omega, by exact HR.out.drewN _, below_drewN HB.out _, by exact HSt.out.drewN _⟩
              case measure => first | (simp [intOf]; done) | (simp [intOf]; omega)
            | cons x L2 =>
              gi_wp2_with (first
                | (refine ⟨trivial, ?_⟩; gi_at_call 6; refine (callsIn_wide.2 (HP2.out _)).mono ?_; rintro e w' ⟨rfl, rfl⟩)
                | (refine ⟨trivial, ?_⟩; gi_at_call 9; refine (callsIn_wide.2 (qint.pop_one (B := w.heap.size) HR.out (by omega) hq1 hg1)).mono ?_; rintro e w5 ⟨rfl, hR5, hb5, hz5, hk5⟩; have HR5 := Lib.hid hR5; have HS5 := Lib.hid (HSt.out.trans (Stay.mk hk5 hz5)); have HB5 := Lib.hid (HB.out.trans hb5); clear hR5 hb5 hz5 hk5))
              go_roundw
              case rel => exact ⟨k2 + 1, _, L2, by go_num, by omega, HR5.out, HB5.out, HS5.out⟩
              case measure => first | (simp [intOf]; done) | (simp [intOf]; omega)
          · obtain rfl : k2 = t := by omega
            gi_wp2_with (refine ⟨trivial, ?_⟩; gi_at_call 6; refine (callsIn_wide.2 (HP2.out _)).mono ?_; rintro e w' ⟨rfl, rfl⟩)
            gi_loopw [15] (fun i wq => ∃ (k3 fr : Nat) (L3 : List Int), i = .int .i64 k3 ∧ k3 ≤ s ∧ qit.RingS wq q g (1 + r) fr L3 ∧ Below w.heap.size w wq ∧ Stay q g w4 wq) (fun i _ => s - (intOf i).toNat)
            case atStart => exact ⟨0, fr, L2, rfl, by omega, HR.out, HB.out, HSt.out⟩
            case round =>
              obtain ⟨k3, fr3, L3, rfl, hk3, hR, hB, hS⟩ := hrel
              clear HR HB HSt
              have hl3 := hR.hlen
              have HR := Lib.hid hR
              have HB := Lib.hid hB
              have HSt := Lib.hid hS
              clear hR hB hS
              by_cases hlt3 : k3 < s
              · by_cases hfull : L3.length < 1 + r
                · have HF := Lib.hid hfull
                  clear hfull hl3
                  gi_wp2_with (first
                    | (refine ⟨trivial, ?_⟩; gi_at_call 6; refine (callsIn_wide.2 (HP3.out _)).mono ?_; rintro e w' ⟨rfl, rfl⟩)
                    | (refine ⟨trivial, ?_⟩; gi_at_call 7; refine (callsIn_wide.2 (qint.push_ok (B := w.heap.size) HR.out _ HF.out (by omega) hq1 hg1)).mono ?_; rintro e w5 ⟨rfl, hR5, hb5, hz5, hk5⟩; have HR5 := Lib.hid hR5; have HS5 := Lib.hid (HSt.out.trans (Stay.mk hk5 hz5)); have HB5 := Lib.hid (HB.out.trans hb5); clear hR5 hb5 hz5 hk5))
                  go_roundw
                  case rel => exact ⟨k3 + 1, _, _, by go_num, by omega, HR5.out, HB5.out, HS5.out⟩
                  case measure => first | (simp [intOf]; done) | (simp [intOf]; omega)
                · have HF : Hid (L3.length = 1 + r) := Lib.hid (show L3.length = 1 + r by omega)
                  clear hfull hl3
                  gi_wp2_with (first
                    | (refine ⟨trivial, ?_⟩; gi_at_call 6; refine (callsIn_wide.2 (HP3.out _)).mono ?_; rintro e w' ⟨rfl, rfl⟩)
                    | (refine ⟨trivial, ?_⟩; gi_at_call 7; refine (callsIn_wide.2 (qint.push_full HR.out _ HF.out)).mono ?_; rintro e w5 ⟨rfl, m5, rfl⟩))
                  go_roundw
                  case rel => exact ⟨k3 + 1, fr3, L3, by go_num, by omega, by exact HR.out.drewN _, below_drewN HB.out _, by exact HSt.out.drewN _⟩
                  case measure => first | (simp [intOf]; done) | (simp [intOf]; omega)
              · obtain rfl : k3 = s := by omega
                have hc6 := (cell_stay 0 (HSt.out.rest Bl (by omega) (by omega))).trans HA4.out.1
                have ho6 := own_stay HA4.out.2 HSt.out HRO.1 HRO.2
                have hw6 := own_stay HW4.out HSt.out hlq hlg
                have HSl6 := Lib.hid (Sl.of_own ho6)
                have HSw6 := Lib.hid (Sl.of_own (l := L1) (by rw [hlm]; exact hw6))
                have HC6 := Lib.hid hc6
                have hz6 := HSt.out.size
                have hBl6 : Bl < wr.heap.size := by omega
                have hzB := HB.out.size
                clear hc6 ho6 hw6 HA4 HW4 HR HSt hz6 hl3
                gi_wp2_with (refine ⟨trivial, ?_⟩; gi_at_call 6; refine (callsIn_wide.2 (HP3.out _)).mono ?_; rintro e w' ⟨rfl, rfl⟩)
                have bO := Boxed.new wr 22 (.slice none 0 0)
                have hL64 : L1.length ≤ 64 := by omega
                refine' wpIn_rangeFunc_ownG rfl h1 (gf := 19) (lb := #[.pointer (some ⟨Bl, 0, none⟩)]) rfl trivial (enters_of Try.func19 (by kernel_rfl) rfl)
                  (qit.vals_stops (n - 1) (by omega) Bl wr.heap.size v4 L1 hL64 _ (by simp; omega) (by simp) (((below_alloc_refl wr _).cell (p := ⟨Bl, 0, none⟩) hBl6).trans HC6.out) (HSl6.out.below (below_alloc_refl wr _))) belowK_t (belowK_b (by simp)) (Below.refl _ _) (fun _ => rfl)
                  (fun pre W => (∃ v, Boxed W wr.heap.size 22 v ∧ W.ownsRow wr.heap.size 3 1 v pre.length (pre.map (Value.int .i64)) ∧ True) ∧ Below wr.heap.size wr W)
                  (fun _ _ _ => False)
                  (OwnFrom.and (Own.from (holdsRow_own wr.heap.size wr.heap.size 22 3 1 (fun pre : List Int => pre.length) (fun pre => pre.map (Value.int .i64)) (fun pre v => True)) _) (ownFrom_below (Nat.le_refl _) (by simp)))
                  (fun _ _ _ _ _ hs _ _ => hs)
                  ⟨⟨_, bO, World.ownsRow_nil _ _ _ _, trivial⟩, below_alloc_refl _ _⟩
                  _ ?assign ?body ?done ?stop
                case assign =>
                  intro l5 x W K hK
                  gi_wp2
                  exact hK
                case body =>
                  rintro l5 pre x W ⟨⟨v5, hv, hrow, _⟩, hBW⟩ hlt5
                  have hc := hv.cell
                  gi_wp2_with (gi_at_builtin; refine wpListIn_append_own _ rfl _ _ 22 rfl wr.heap.size 3 i0 (.int .i64 0) 1 8 Try.underlying22 hi hz0 hz1 hz2 rfl (by decide) _ _ _ rfl (hrow.alloc _) ⟨W.heap.size, 0, none⟩ 1 1 [.int .i64 x] rfl rfl (cell_one_new _ _ _) (by simp [Value.oneCell']) (by unfold maxLen; omega) (by omega) (by have := hBW.size; simp; omega) ?_; intro v' w5 hown' hgrow _; obtain ⟨g', cap', rfl⟩ := ownsRow_succ hown'; obtain ⟨hv1, hv2, hr2, hkk2, hbb2⟩ := hv.appended (by decide) hrow hBW.size (Nat.le_refl _) hown' hgrow; have hc1 := hv1.cell; have hf1 := hv1.frozen)
                  exact ⟨hkk2.from _, hbb2, ⟨_, hv2, by simpa using hr2, trivial⟩, hBW.trans hbb2⟩
                case done =>
                  rintro D ys W hD hys ⟨⟨v5, hv, hrow, _⟩, hBW⟩ hK
                  rw [show ys = L1 from hys] at hrow
                  have hc := hv.cell
                  have HSw7 := Lib.hid ((HSw6.out.below hBW).more hBW.size)
                  have HSg7 := Lib.hid (Sl.of_own hrow)
                  gi_wp2_with (refine ⟨trivial, ?_⟩; gi_at_call 10; refine (callsIn_wide.2 (sameI.ints_any _ _ L1 L1 W W.heap.size HSg7.out HSw7.out)).mono ?_; rintro e w7 ⟨rfl, m7, rfl⟩)
                  refine ⟨by simp, .inl ⟨_, _, rfl, run_takeDeferred (by exact hK), ?_⟩⟩
                  exact ⟨_, results_tmp rfl _ _ _, by simp, (below_drewN (HB.out.trans (hBW.mono hzB)) m7).trans (belowK_b (w := w) (Nat.le_refl _) _ D _ _ (by simp at hD; omega) (by exact hK) rfl rfl)⟩
                case stop =>
                  rintro D c pre W _ _ h _
                  exact h.elim

/-! The row's step. -/
theorem own : ownKnob Try.prog.godebug = none := by kernel_rfl
theorem laidOut : laidOutB Try.prog = true := by kernel_rfl

set_option maxRecDepth 100000 in
theorem lifted (os : Os) (started : os.Started) (H : Type) (enc : TypeId × Value → H) :
    ReturnsInHanded {} Try.checked os 3 .any (Rows.queueLastsSpec.pre6 enc Try.prog Try.f3 Rows.queueLastsRow.domain false) (Rows.queueLastsSpec.post enc Try.prog Try.f3 false true false false) := by
  refine returnsInHanded_of_change_sized (C := Try.checked) own started (by kernel_rfl) Try.func3
    (ChangeSpec.witness6 (enc := enc) (C := Try.checked) false ⟨#[], #[.int .i64 0, .slice none 0 0, .int .i64 0, .int .i64 0], []⟩ 8 (by kernel_rfl) (by kernel_rfl) (by kernel_rfl) (by kernel_rfl)) ?_
  intro W base args ds gs before hval0 hW hcnd hsz0 _
  have hval : ∀ (j : Nat) t v, Try.f3.params[j]? = some t → args[j]? = some v → Value.okWide Try.prog W .any base t v := hval0
  have hsz : (DataW.weightsEach Try.prog (Try.f3.params.toList ++ Rows.queueLastsSpec.plain.varTypes Try.prog) (ds ++ gs)).all (· ≤ reachBytes) = true := hsz0
  have hW' := hW
  obtain ⟨p, q, hA0, hV, rfl, hfz, hnd⟩ := hW
  have hA : DataW.TrodAll enc Try.prog W 0 (fun _ => true) true Try.f3.params.toList args.toList ds p := hA0
  rw [Try.params3] at hA hval hsz
  obtain ⟨v0, vs0, d0, ds0, p0, q0, hargs, rfl, rfl, h0, r0⟩ := trodAll_cons hA
  obtain ⟨v1, vs1, d1, ds1, p1, q1, rfl, rfl, rfl, h1, r1⟩ := trodAll_cons r0
  obtain ⟨v2, vs2, d2, ds2, p2, q2, rfl, rfl, rfl, h2, r2⟩ := trodAll_cons r1
  obtain ⟨v3, vs3, d3, ds3, p3, q3, rfl, rfl, rfl, h3, r3⟩ := trodAll_cons r2
  obtain ⟨rfl, rfl, rfl⟩ := trodAll_nil r3
  obtain rfl : args = #[v0, v1, v2, v3] := by cases args; simp_all
  obtain ⟨rfl, rfl⟩ := trodVars_none hV
  have k0 := h0
  have lt0 : ∀ x ∈ p0, x.block < W.heap.size := by obtain ⟨m, hm⟩ := h0; exact DataW.trod_lt m _ _ _ hm
  have wt0 : ∀ m ∈ d0.weights Try.prog 3, m ≤ reachBytes := fun m hm => by
    simpa using List.all_eq_true.1 hsz m (DataW.weights_mem_each (j := 0) rfl rfl m hm)
  have k1 := h1
  have lt1 : ∀ x ∈ p1, x.block < W.heap.size := by obtain ⟨m, hm⟩ := h1; exact DataW.trod_lt m _ _ _ hm
  have wt1 : ∀ m ∈ d1.weights Try.prog 22, m ≤ reachBytes := fun m hm => by
    simpa using List.all_eq_true.1 hsz m (DataW.weights_mem_each (j := 1) rfl rfl m hm)
  have k2 := h2
  have lt2 : ∀ x ∈ p2, x.block < W.heap.size := by obtain ⟨m, hm⟩ := h2; exact DataW.trod_lt m _ _ _ hm
  have wt2 : ∀ m ∈ d2.weights Try.prog 3, m ≤ reachBytes := fun m hm => by
    simpa using List.all_eq_true.1 hsz m (DataW.weights_mem_each (j := 2) rfl rfl m hm)
  have k3 := h3
  have lt3 : ∀ x ∈ p3, x.block < W.heap.size := by obtain ⟨m, hm⟩ := h3; exact DataW.trod_lt m _ _ _ hm
  have wt3 : ∀ m ∈ d3.weights Try.prog 3, m ≤ reachBytes := fun m hm => by
    simpa using List.all_eq_true.1 hsz m (DataW.weights_mem_each (j := 3) rfl rfl m hm)
  obtain ⟨x0, rfl, rfl, rfl, g0⟩ := open_int Try.underlying3 (hval 0 3 v0 rfl rfl) h0
  obtain ⟨l1, fc1, fd1, fe1⟩ := intsA.open_intl (hval 1 22 v1 rfl rfl) h1 wt1
  obtain ⟨x2, rfl, rfl, rfl, g2⟩ := open_int Try.underlying3 (hval 2 3 v2 rfl rfl) h2
  obtain ⟨x3, rfl, rfl, rfl, g3⟩ := open_int Try.underlying3 (hval 3 3 v3 rfl rfl) h3
  clear hA0 hval0 hsz0
  refine (walk v1 l1 x0 x2 x3 W fc1 g0 g2 g3).mono fun e W' ⟨he, bel⟩ => ?_
  subst he
  exact ⟨_, rfl, _, _, _, [], _, [], hW', trodAll_mk1 (shut_bool Try.underlying4 _), (trodAll_cons_mk (shut_int Try.underlying3 g0) (trodAll_cons_mk (Below.trod laidOut (by kernel_rfl) (of_decide_eq_true (by kernel_rfl)) k1 bel lt1) (trodAll_cons_mk (shut_int Try.underlying3 g2) (trodAll_cons_mk (shut_int Try.underlying3 g3) trodAll_mk0)))), rfl, bel.frame _, fun h => by cases h⟩

theorem over : Rows.queueLastsRow.holds Try.pinned (OpenSpec.ofChange Rows.queueLastsSpec) :=
  OpenClaim.holds_of_wide 3 Try.f3 rfl rfl rfl rfl rfl rfl rfl ⟨rfl, rfl, rfl, rfl, rfl⟩ rfl rfl rfl rfl rfl (by kernel_rfl) Try.func3 (by kernel_rfl)
    (of_decide_eq_true (by kernel_rfl)) (by unfold Func.isWrapper; first | (rw [if_pos (by decide +kernel)]; kernel_rfl) | (rw [if_neg (by decide +kernel)]; exact ⟨rfl, rfl⟩))
    (fun os started H enc _ => lifted os started H enc)

theorem proved : Rows.QueueLastsSaid := over
#print axioms proved
end Go.Proofs.Ytfigkgpolpggcaa.queueLasts
