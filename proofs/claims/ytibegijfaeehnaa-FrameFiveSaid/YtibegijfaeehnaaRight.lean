/- busbarlaw22.right: a frame that may be, out of any. -/
import Derived.Test.YtibegijfaeehnaaBase
import Derived.Test.YtibegijfaeehnaaInfo
import Derived.Deep.RegionLaw
import Derived.Deep.AppendLies
namespace Go.Proofs.Ytibegijfaeehnaa
open Go.RowKit Go.Bus
set_option linter.unusedVariables false
namespace rightW
def rid (id : Int) (wide : Bool) : Int := if wide = true then bits BinOp.and IntKind.u32 id 536870911 else bits BinOp.and IntKind.u32 id 2047
/-- What right answers: a frame whose bytes are in a list of the call's own. -/
def OwnFrame (w : World) (id : Int) (wide : Bool) (l : List Int) (e : Ending) (w' : World) : Prop :=
  ∃ v, e = .returned (.agg #[.int .u32 id, .bool wide, v]) ∧ w'.ownsRow w.heap.size 5 1 v l.length (l.map (Value.int .u8)) ∧ Below w.heap.size w w'

theorem right_step {w wr W1 w1 : World} {g c k : Nat} {t e : TypeId} {v : Value} {a b : Value} {ys zs : List Value} {o : Obj} (hhas : Has wr (w.heap.size + 1 + 1) t #[a, b, v])
    (hown1 : w1.ownsRow (w.heap.size + 3) e 1 (.slice (some ⟨g, 0, none⟩) (k + 1) c) (k + 1) zs) (hh1 : Has w1 (w.heap.size + 1 + 1) t #[a, b, v]) (K : Below (w.heap.size + 1 + 1) W1 wr)
    (hg1 : (wr.alloc o).drew.grownBy w1 v.ownBlock) (hlt : ∀ q, v.ownBlock = some q → w.heap.size + 3 ≤ q ∧ q < (wr.alloc o).heap.size) (hsz : w.heap.size + 3 ≤ wr.heap.size) (hz : zs = ys) (hne : e ≠ t) :
    Has (w1.setCell ⟨w.heap.size + 1 + 1, 2, none⟩ (.slice (some ⟨g, 0, none⟩) (k + 1) c)) (w.heap.size + 1 + 1) t #[a, b, .slice (some ⟨g, 0, none⟩) (k + 1) c] ∧
    (w1.setCell ⟨w.heap.size + 1 + 1, 2, none⟩ (.slice (some ⟨g, 0, none⟩) (k + 1) c)).ownsRow (w.heap.size + 3) e 1 (.slice (some ⟨g, 0, none⟩) (k + 1) c) (k + 1) ys ∧
    Below (w.heap.size + 1 + 1) W1 (w1.setCell ⟨w.heap.size + 1 + 1, 2, none⟩ (.slice (some ⟨g, 0, none⟩) (k + 1) c)) ∧
    w.heap.size + 3 ≤ (w1.setCell ⟨w.heap.size + 1 + 1, 2, none⟩ (.slice (some ⟨g, 0, none⟩) (k + 1) c)).heap.size := by
  subst hz
  refine ⟨by simpa using hh1.set 2 (.slice (some ⟨g, 0, none⟩) (k + 1) c), own_far hown1 hh1 hne (only_set (World.grownBy.refl _ _) 2 _), ?_, ?_⟩
  · refine Below.setCell (p := ⟨w.heap.size + 1 + 1, 2, none⟩) ?_ (Nat.le_refl _) _
    refine Below.grown ((K.alloc (by omega) _).drew) hg1 (by simp; omega) fun q hq => ?_
    have := hlt q hq
    show w.heap.size + 1 + 1 ≤ q
    omega
  · have h1 := hg1.size
    rw [World.size_drew, World.size_alloc] at h1
    rw [World.size_setCell]
    omega

set_option maxRecDepth 100000 in
set_option maxHeartbeats 1000000 in
theorem right_any (id : Int) (wide : Bool) (sv : Value) (l : List Int) (w : World) (hs : Sl w w.heap.size (Value.int .u8) sv l) :
    Calls Try.prog 15 #[.agg #[.int .u32 id, .bool wide, sv]] w (OwnFrame w (rid id wide) wide (l.take 8)) := by
  obtain ⟨A, cap, rfl, hcap, hmax⟩ := hs.form
  obtain ⟨i0, hi, hz0, hz1, hz2⟩ := info_parts Try.infoB
  have HS := Lib.hid hs; clear hs
  unfold maxLen at hmax
  obtain ⟨W1, eW1⟩ : ∃ W1, W1 = ((w.alloc (.cells #[.int .u32 id, .bool wide, .slice A l.length cap] 25)).alloc (.cells #[.int .u32 0, .bool false, .slice none 0 0] 25)).alloc (.cells #[.int .u32 (rid id wide), .bool wide, .slice none 0 0] 25) := ⟨_, rfl⟩
  have hX : Has W1 (w.heap.size + 1 + 1) 25 #[.int .u32 (rid id wide), .bool wide, .slice none 0 0] := by
    have h := Has.new ((w.alloc (.cells #[.int .u32 id, .bool wide, .slice A l.length cap] 25)).alloc (.cells #[.int .u32 0, .bool false, .slice none 0 0] 25)) 25 #[.int .u32 (rid id wide), .bool wide, .slice none 0 0]
    simp only [World.size_alloc] at h
    rw [eW1]; exact h
  have q2 : W1.cell? ⟨w.heap.size, 2, none⟩ = some (.slice A l.length cap) := by
    have h := ((Has.new w 25 #[.int .u32 id, .bool wide, .slice A l.length cap]).alloc (.cells #[.int .u32 0, .bool false, .slice none 0 0] 25)).alloc (.cells #[.int .u32 (rid id wide), .bool wide, .slice none 0 0] 25)
    rw [eW1]; exact (h.cell 2).trans rfl
  have r0 : Has W1 (w.heap.size + 1) 25 #[.int .u32 0, .bool false, .slice none 0 0] := by
    have h := (Has.new (w.alloc (.cells #[.int .u32 id, .bool wide, .slice A l.length cap] 25)) 25 #[.int .u32 0, .bool false, .slice none 0 0]).alloc (.cells #[.int .u32 (rid id wide), .bool wide, .slice none 0 0] 25)
    simp only [World.size_alloc] at h
    rw [eW1]; exact h
  have hBW : Below w.heap.size w W1 := by rw [eW1]; exact (by repeat (first | exact Below.refl _ _ | assumption | refine Below.drew ?_ | refine below_drewN ?_ _ | (refine Below.alloc ?_ (by (try simp); (try omega)) _) | (refine Below.setCell ?_ (by (try simp); (try omega)) _)))
  have hzW : W1.heap.size = w.heap.size + 3 := by rw [eW1]; simp
  have EW1 := Lib.hid eW1; clear eW1
  have HX := Lib.hid hX; clear hX
  have R0 := Lib.hid r0; clear r0
  have HZ := Lib.hid hzW; clear hzW
  cases wide
  · go_enter Try.func15, Try.ntmps15
    go_wp2
    rw [show bits BinOp.and IntKind.u32 id 2047 = rid id false from rfl, ← EW1.out]
    go_loopw [4] (fun i wr => ∃ (k : Nat) (v : Value), k ≤ l.length ∧ k ≤ 8 ∧ i = .int .i64 k ∧ Has wr (w.heap.size + 1 + 1) 25 #[.int .u32 (rid id false), .bool false, v] ∧
        wr.ownsRow (w.heap.size + 3) 5 1 v k ((l.map (Value.int .u8)).take k) ∧ Below (w.heap.size + 1 + 1) W1 wr ∧ w.heap.size + 3 ≤ wr.heap.size) (fun i _ => 8 - (intOf i).toNat)
    case atStart => exact ⟨0, _, Nat.zero_le _, Nat.zero_le _, rfl, HX.out, World.ownsRow_nil _ _ _ _, Below.refl _ _, by rw [HZ.out]; omega⟩
    case round =>
      obtain ⟨k, v, hk, hk8, rfl, hhas, hown, K, hsz⟩ := hrel
      have c2 := hhas.cell 2
      have f2 := hhas.frozen 2
      simp only [List.getElem?_toArray, List.getElem?_cons_zero, List.getElem?_cons_succ] at c2
      have a2 : wr.cell? ⟨w.heap.size, 2, none⟩ = some (.slice A l.length cap) := (K.cell (p := ⟨w.heap.size, 2, none⟩) (by simp; omega)).trans q2
      have HH := Lib.hid hhas; clear hhas
      by_cases hlt : k < l.length
      · by_cases h8 : k < 8
        · obtain ⟨b, off, rfl, hbb, hc0⟩ := HS.out.at_ hlt
          have hc : wr.cell? ⟨b, off + k, none⟩ = some (.int .u8 l[k]) := ((hBW.trans (K.mono (by omega))).cell (p := ⟨b, off + k, none⟩) hbb).trans hc0
          clear hc0
          have z2 : w.heap.size + 1 + 1 < wr.heap.size := by omega
          have z0 : w.heap.size < wr.heap.size := by omega
          have zb : b < wr.heap.size := by omega
          go_wp2_with fail
          go_region_law (refine step_append_lies _ (by rfl) (.tmp 27) (.tmp 33) 23 (by rfl) (w.heap.size + 3) 5 i0 (.int .u8 0) 1 1 Try.underlying23 hi hz0 hz1 hz2 (by rfl) (by decide) _ _ _ (by rfl) (hown.alloc (.cells #[.int .u8 l[k]] 5)).drew ⟨wr.heap.size, 0, none⟩ 1 1 [.int .u8 l[k]] (by rfl) (by rfl) (by exact one_new _ _ _) (by intro u hu; simp at hu; subst hu; rfl) (by omega) (by unfold maxLen; omega) (by omega) (by simp; omega) _ (by rfl) ?_; intro g c w1 hown1 hg1 hgg hlt1; have hne := own_has_ne (hown.alloc (.cells #[.int .u8 l[k]] 5)) (HH.out.alloc _) (by decide); have hh1 : Has w1 _ _ _ := ((HH.out.alloc (.cells #[.int .u8 l[k]] 5)).drew).grown hg1 (fun e => hne e.symm); have e2 := hh1.cell 2; have e2f := hh1.frozen 2; simp only [List.getElem?_toArray, List.getElem?_cons_zero, List.getElem?_cons_succ] at e2; have HHH := Lib.hid hh1; have HG := Lib.hid hg1; have HOW := Lib.hid hown1; clear hh1 hg1 hown1 hne)
          all_goals
            have HF := Lib.hid (right_step (k := k) (zs := (l.map (Value.int .u8)).take k ++ [Value.int .u8 l[k]]) HH.out HOW.out HHH.out K HG.out (fun q hq => (hown.alloc (.cells #[.int .u8 l[k]] 5)).lt q hq) hsz (take_map_snoc _ l k hlt) (by decide))
            go_wp2
            go_roundw
            case rel => exact ⟨k + 1, _, by omega, by omega, by go_num, HF.out.1, HF.out.2.1, HF.out.2.2.1, HF.out.2.2.2⟩
            case measure => first | (simp [intOf]; done) | (simp [intOf]; omega)
        · obtain rfl : k = 8 := by omega
          have hv : ∃ A' c', v = .slice A' 8 c' := by obtain ⟨g, c, rfl, _⟩ := own_form hown (by omega); exact ⟨_, _, rfl⟩
          obtain ⟨A', c', rfl⟩ := hv
          have HO := Lib.hid hown; clear hown
          have b0 := HH.out.cell 0
          have b1 := HH.out.cell 1
          have r1 := R0.out.below K (by omega)
          have d0 := r1.cell 0
          have d1 := r1.cell 1
          have d2 := r1.cell 2
          have g0 := r1.frozen 0
          have g1 := r1.frozen 1
          have g2 := r1.frozen 2
          simp only [List.getElem?_toArray, List.getElem?_cons_zero, List.getElem?_cons_succ] at b0 b1 d0 d1 d2
          clear r1
          go_wp2_with fail
          have hBK : Below w.heap.size w wr := hBW.trans (K.mono (by omega))
          go_wp2
          refine bodyPost_ret (v := .agg #[.int .u32 (rid id false), .bool false, .slice A' 8 c']) (by simp [results, Try.results15, go_sem, d0, d1, d2]) rfl ⟨_, rfl, ?_, ?_⟩
          · rw [show (l.take 8).length = 8 from by rw [List.length_take]; omega, List.map_take]
            refine own_base (base := w.heap.size + 3) ?_ (by omega)
            repeat (first | exact HO.out | refine ownsRow_setCell_below ?_ (by dsimp only; omega) _)
          · exact (by repeat (first | exact Below.refl _ _ | assumption | refine Below.drew ?_ | refine below_drewN ?_ _ | (refine Below.alloc ?_ (by (try simp); (try omega)) _) | (refine Below.setCell ?_ (by (try simp); (try omega)) _)))
      · obtain rfl : k = l.length := by omega
        rw [List.take_of_length_le (by simp)] at hown
        have hv : ∃ A' c', v = .slice A' l.length c' := by
          rcases hown.2 with ⟨rfl, h0⟩ | ⟨g, c, _, rfl, _⟩
          · exact ⟨_, _, by rw [h0]⟩
          · exact ⟨_, _, rfl⟩
        obtain ⟨A', c', rfl⟩ := hv
        have HO := Lib.hid hown; clear hown
        have b0 := HH.out.cell 0
        have b1 := HH.out.cell 1
        have r1 := R0.out.below K (by omega)
        have d0 := r1.cell 0
        have d1 := r1.cell 1
        have d2 := r1.cell 2
        have g0 := r1.frozen 0
        have g1 := r1.frozen 1
        have g2 := r1.frozen 2
        simp only [List.getElem?_toArray, List.getElem?_cons_zero, List.getElem?_cons_succ] at b0 b1 d0 d1 d2
        clear r1
        go_wp2_with fail
        have hBK : Below w.heap.size w wr := hBW.trans (K.mono (by omega))
        go_wp2
        refine bodyPost_ret (v := .agg #[.int .u32 (rid id false), .bool false, .slice A' l.length c']) (by simp [results, Try.results15, go_sem, d0, d1, d2]) rfl ⟨_, rfl, ?_, ?_⟩
        · rw [List.take_of_length_le (by omega)]
          refine own_base (base := w.heap.size + 3) ?_ (by omega)
          repeat (first | exact HO.out | refine ownsRow_setCell_below ?_ (by dsimp only; omega) _)
        · exact (by repeat (first | exact Below.refl _ _ | assumption | refine Below.drew ?_ | refine below_drewN ?_ _ | (refine Below.alloc ?_ (by (try simp); (try omega)) _) | (refine Below.setCell ?_ (by (try simp); (try omega)) _)))
  · go_enter Try.func15, Try.ntmps15
    go_wp2
    rw [show bits BinOp.and IntKind.u32 id 536870911 = rid id true from rfl, ← EW1.out]
    go_loopw [4] (fun i wr => ∃ (k : Nat) (v : Value), k ≤ l.length ∧ k ≤ 8 ∧ i = .int .i64 k ∧ Has wr (w.heap.size + 1 + 1) 25 #[.int .u32 (rid id true), .bool true, v] ∧
        wr.ownsRow (w.heap.size + 3) 5 1 v k ((l.map (Value.int .u8)).take k) ∧ Below (w.heap.size + 1 + 1) W1 wr ∧ w.heap.size + 3 ≤ wr.heap.size) (fun i _ => 8 - (intOf i).toNat)
    case atStart => exact ⟨0, _, Nat.zero_le _, Nat.zero_le _, rfl, HX.out, World.ownsRow_nil _ _ _ _, Below.refl _ _, by rw [HZ.out]; omega⟩
    case round =>
      obtain ⟨k, v, hk, hk8, rfl, hhas, hown, K, hsz⟩ := hrel
      have c2 := hhas.cell 2
      have f2 := hhas.frozen 2
      simp only [List.getElem?_toArray, List.getElem?_cons_zero, List.getElem?_cons_succ] at c2
      have a2 : wr.cell? ⟨w.heap.size, 2, none⟩ = some (.slice A l.length cap) := (K.cell (p := ⟨w.heap.size, 2, none⟩) (by simp; omega)).trans q2
      have HH := Lib.hid hhas; clear hhas
      by_cases hlt : k < l.length
      · by_cases h8 : k < 8
        · obtain ⟨b, off, rfl, hbb, hc0⟩ := HS.out.at_ hlt
          have hc : wr.cell? ⟨b, off + k, none⟩ = some (.int .u8 l[k]) := ((hBW.trans (K.mono (by omega))).cell (p := ⟨b, off + k, none⟩) hbb).trans hc0
          clear hc0
          have z2 : w.heap.size + 1 + 1 < wr.heap.size := by omega
          have z0 : w.heap.size < wr.heap.size := by omega
          have zb : b < wr.heap.size := by omega
          go_wp2_with fail
          go_region_law (refine step_append_lies _ (by rfl) (.tmp 27) (.tmp 33) 23 (by rfl) (w.heap.size + 3) 5 i0 (.int .u8 0) 1 1 Try.underlying23 hi hz0 hz1 hz2 (by rfl) (by decide) _ _ _ (by rfl) (hown.alloc (.cells #[.int .u8 l[k]] 5)).drew ⟨wr.heap.size, 0, none⟩ 1 1 [.int .u8 l[k]] (by rfl) (by rfl) (by exact one_new _ _ _) (by intro u hu; simp at hu; subst hu; rfl) (by omega) (by unfold maxLen; omega) (by omega) (by simp; omega) _ (by rfl) ?_; intro g c w1 hown1 hg1 hgg hlt1; have hne := own_has_ne (hown.alloc (.cells #[.int .u8 l[k]] 5)) (HH.out.alloc _) (by decide); have hh1 : Has w1 _ _ _ := ((HH.out.alloc (.cells #[.int .u8 l[k]] 5)).drew).grown hg1 (fun e => hne e.symm); have e2 := hh1.cell 2; have e2f := hh1.frozen 2; simp only [List.getElem?_toArray, List.getElem?_cons_zero, List.getElem?_cons_succ] at e2; have HHH := Lib.hid hh1; have HG := Lib.hid hg1; have HOW := Lib.hid hown1; clear hh1 hg1 hown1 hne)
          all_goals
            have HF := Lib.hid (right_step (k := k) (zs := (l.map (Value.int .u8)).take k ++ [Value.int .u8 l[k]]) HH.out HOW.out HHH.out K HG.out (fun q hq => (hown.alloc (.cells #[.int .u8 l[k]] 5)).lt q hq) hsz (take_map_snoc _ l k hlt) (by decide))
            go_wp2
            go_roundw
            case rel => exact ⟨k + 1, _, by omega, by omega, by go_num, HF.out.1, HF.out.2.1, HF.out.2.2.1, HF.out.2.2.2⟩
            case measure => first | (simp [intOf]; done) | (simp [intOf]; omega)
        · obtain rfl : k = 8 := by omega
          have hv : ∃ A' c', v = .slice A' 8 c' := by obtain ⟨g, c, rfl, _⟩ := own_form hown (by omega); exact ⟨_, _, rfl⟩
          obtain ⟨A', c', rfl⟩ := hv
          have HO := Lib.hid hown; clear hown
          have b0 := HH.out.cell 0
          have b1 := HH.out.cell 1
          have r1 := R0.out.below K (by omega)
          have d0 := r1.cell 0
          have d1 := r1.cell 1
          have d2 := r1.cell 2
          have g0 := r1.frozen 0
          have g1 := r1.frozen 1
          have g2 := r1.frozen 2
          simp only [List.getElem?_toArray, List.getElem?_cons_zero, List.getElem?_cons_succ] at b0 b1 d0 d1 d2
          clear r1
          go_wp2_with fail
          have hBK : Below w.heap.size w wr := hBW.trans (K.mono (by omega))
          go_wp2
          refine bodyPost_ret (v := .agg #[.int .u32 (rid id true), .bool true, .slice A' 8 c']) (by simp [results, Try.results15, go_sem, d0, d1, d2]) rfl ⟨_, rfl, ?_, ?_⟩
          · rw [show (l.take 8).length = 8 from by rw [List.length_take]; omega, List.map_take]
            refine own_base (base := w.heap.size + 3) ?_ (by omega)
            repeat (first | exact HO.out | refine ownsRow_setCell_below ?_ (by dsimp only; omega) _)
          · exact (by repeat (first | exact Below.refl _ _ | assumption | refine Below.drew ?_ | refine below_drewN ?_ _ | (refine Below.alloc ?_ (by (try simp); (try omega)) _) | (refine Below.setCell ?_ (by (try simp); (try omega)) _)))
      · obtain rfl : k = l.length := by omega
        rw [List.take_of_length_le (by simp)] at hown
        have hv : ∃ A' c', v = .slice A' l.length c' := by
          rcases hown.2 with ⟨rfl, h0⟩ | ⟨g, c, _, rfl, _⟩
          · exact ⟨_, _, by rw [h0]⟩
          · exact ⟨_, _, rfl⟩
        obtain ⟨A', c', rfl⟩ := hv
        have HO := Lib.hid hown; clear hown
        have b0 := HH.out.cell 0
        have b1 := HH.out.cell 1
        have r1 := R0.out.below K (by omega)
        have d0 := r1.cell 0
        have d1 := r1.cell 1
        have d2 := r1.cell 2
        have g0 := r1.frozen 0
        have g1 := r1.frozen 1
        have g2 := r1.frozen 2
        simp only [List.getElem?_toArray, List.getElem?_cons_zero, List.getElem?_cons_succ] at b0 b1 d0 d1 d2
        clear r1
        go_wp2_with fail
        have hBK : Below w.heap.size w wr := hBW.trans (K.mono (by omega))
        go_wp2
        refine bodyPost_ret (v := .agg #[.int .u32 (rid id true), .bool true, .slice A' l.length c']) (by simp [results, Try.results15, go_sem, d0, d1, d2]) rfl ⟨_, rfl, ?_, ?_⟩
        · rw [List.take_of_length_le (by omega)]
          refine own_base (base := w.heap.size + 3) ?_ (by omega)
          repeat (first | exact HO.out | refine ownsRow_setCell_below ?_ (by dsimp only; omega) _)
        · exact (by repeat (first | exact Below.refl _ _ | assumption | refine Below.drew ?_ | refine below_drewN ?_ _ | (refine Below.alloc ?_ (by (try simp); (try omega)) _) | (refine Below.setCell ?_ (by (try simp); (try omega)) _)))
end rightW
end Go.Proofs.Ytibegijfaeehnaa
