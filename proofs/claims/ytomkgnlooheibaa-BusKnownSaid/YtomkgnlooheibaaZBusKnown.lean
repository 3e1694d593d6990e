/- Proves BusKnownSaid: the document's examples of a bus. A closed statement. No condition. -/
import Derived.Test.YtomkgnlooheibaaRows
import Derived.Test.YtomkgnlooheibaaZBz
import Derived.Test.YtomkgnlooheibaaZBusKn1
import Derived.Test.YtomkgnlooheibaaNum
namespace Go.Proofs.Ytomkgnlooheibaa.busKnown
open Go.RowKit Go.Bus Go.Bus.ringK Go.Bus.ring3K Go.Bus.busK Go.Bus.cellK Go.Bus.decK Go.Bus.bitK Go.ChangeShapes Go.WideShapes Go.ChangeAt Go.Joins
open busM qframe
set_option linter.unusedVariables false
set_option linter.unusedSimpArgs false

theorem own_frozen {w : World} {base g n c : Nat} {e : TypeId} {xs : List Value} (h : w.ownsRow base e 1 (.slice (some ⟨g, 0, none⟩) n c) n xs) (i : Nat) : w.frozen? ⟨g, i, none⟩ = false := by
  rcases h.2 with ⟨h0, _⟩ | ⟨g', cap, cur, hv, _, hh, _⟩
  · simp at h0
  · have he : g = g' ∧ c = cap := by simpa using hv
    rw [he.1]
    exact frozen_of_row w g' i cur e hh

theorem src_of_own {w : World} {base k n : Nat} {e : TypeId} {v : Value} {xs : List Value} (h : w.ownsRow base e k v n xs) : Src k w (Old w.heap.size) v n xs := by
  rcases h.2 with ⟨hv, h0⟩ | ⟨g, cap, cur, hv, hb, hg, hn, hm, hs, ht⟩
  · subst hv; subst h0
    have hx : xs = [] := List.eq_nil_of_length_eq_zero (by simpa using h.1)
    subst hx
    exact Src.nil_ k w _
  · refine ⟨_, cap, hv, hn, hm, h.1, fun _ => ⟨g, 0, rfl, ty_lt (own_ty h (by rw [hv]; rfl)), fun j u hj => ?_⟩⟩
    have h1 := h.cells (g := g) (by rw [hv]; rfl) j u hj
    rw [Addr.add_mid] at h1
    exact h1
theorem rules3 {w1 : World} {g c base : Nat} (h : w1.ownsRow base 57 1 (.slice (some ⟨g, 0, none⟩) 3 c) 3 (List.replicate 3 (.slice none 0 0))) :
    SlK 1 rowsE ((w1.setCell ⟨g, 2, none⟩ (.slice (some ⟨w1.heap.size, 0, none⟩) 1 1)).alloc (.cells #[.bool false, .int .u32 5, .int .u32 2047] tR)) (Old ((w1.setCell ⟨g, 2, none⟩ (.slice (some ⟨w1.heap.size, 0, none⟩) 1 1)).alloc (.cells #[.bool false, .int .u32 5, .int .u32 2047] tR)).heap.size) (.slice (some ⟨g, 0, none⟩) 3 c) [[], [], [r5]] := by
  have h1 := (own_put h (i := 2) (by omega) (.slice (some ⟨w1.heap.size, 0, none⟩) 1 1))
  have h2 := own_kept h1 ((Below.refl (w1.setCell ⟨g, 2, none⟩ (.slice (some ⟨w1.heap.size, 0, none⟩) 1 1)).heap.size _).alloc (Nat.le_refl _) (.cells #[.bool false, .int .u32 5, .int .u32 2047] tR))
  have h3 := own_one (w1.setCell ⟨g, 2, none⟩ (.slice (some ⟨w1.heap.size, 0, none⟩) 1 1)) tR #[.bool false, .int .u32 5, .int .u32 2047]
  rw [World.size_setCell] at h3
  refine ⟨_, src_of_own h2, fun i x hx => ?_⟩
  match i, hx with
  | 0, hx => cases hx; exact ⟨.slice none 0 0, part_one rfl, SlK.nil_ _ _ _ _⟩
  | 1, hx => cases hx; exact ⟨.slice none 0 0, part_one rfl, SlK.nil_ _ _ _ _⟩
  | 2, hx =>
    cases hx
    refine ⟨.slice (some ⟨w1.heap.size, 0, none⟩) 1 1, part_one rfl, ⟨_, src_of_own h3, fun j y hy => ?_⟩⟩
    match j, hy with
    | 0, hy => cases hy; rfl

theorem fl_of_has {w : World} {K : List Sk} {b b' : Nat} {t : TypeId} {l : List Int} (h : Has w b t (l.map (Value.int .i64)).toArray) (hn : ¬ busF b' K b) (hl : l.length ≤ maxLen) : FlIs w K (.slice (some ⟨b, 0, none⟩) l.length l.length) l :=
  ⟨_, _, rfl, Nat.le_refl _, hl, fun _ => ⟨b, 0, rfl, h.lt, fun hm => hn (.inr hm), fun i x hi => by
    rw [Nat.zero_add, h.cell i, List.getElem?_toArray, List.getElem?_map, hi]; rfl⟩⟩

set_option maxRecDepth 100000 in
set_option maxHeartbeats 8000000 in
theorem walk (w : World) : Calls Try.prog 6 #[] w fun e w' => e = .returned (.bool true) ∧ Below w.heap.size w w' := by
  go_enter Try.func6, Try.ntmps6
  go_wp2_with fail
  refine (all_any 3 w (by omega)).mono ?_
  rintro e w1 ⟨v, rfl, -, hown, hb1⟩
  obtain ⟨g, c, rfl, hgc, hcm⟩ := own_form hown (by omega)
  have hg := hown.lt g rfl
  have HOW := Lib.hid hown
  have HB1' := Lib.hid hb1
  have q2 : w1.cell? ⟨g, 2, none⟩ = some (.slice none 0 0) := own_get hown rfl
  have qf : w1.frozen? ⟨g, 2, none⟩ = false := own_frozen hown 2
  have hgl := hg.2
  clear hown hb1 hg
  go_wp2_with (first | (go_at_call 9; refine (isK.num_no _ _ (by omega) (by omega)).mono ?_; rintro e wq ⟨rfl, rfl⟩))
  have HV := Lib.hid (rules3 HOW.out)
  have HB2 : Hid (Below w.heap.size w ((w1.setCell ⟨g, 2, none⟩ (.slice (some ⟨w1.heap.size, 0, none⟩) 1 1)).alloc (.cells #[.bool false, .int .u32 5, .int .u32 2047] 69))) := (HB1'.out.setCell (p := ⟨g, 2, none⟩) ((HOW.out.lt g rfl).1) _).alloc (by have := HB1'.out.size; simp; omega) _
  have hgw : g < ((w1.setCell ⟨g, 2, none⟩ (.slice (some ⟨w1.heap.size, 0, none⟩) 1 1)).alloc (.cells #[.bool false, .int .u32 5, .int .u32 2047] 69)).heap.size := by simp; omega
  generalize (w1.setCell ⟨g, 2, none⟩ (.slice (some ⟨w1.heap.size, 0, none⟩) 1 1)).alloc (.cells #[.bool false, .int .u32 5, .int .u32 2047] 69) = wN at HV HB2 hgw ⊢
  clear q2 qf hgl
  refine (new_is (room := 2) _ _ HV.out (by decide) (by decide) (by omega) (by omega) (by intro l hl; simp at hl; rcases hl with rfl | rfl <;> decide)).mono ?_
  rintro e w3 ⟨b, K, rfl, hbus, hb3, hK⟩
  have HK := Lib.hid hK
  have HB3 := Lib.hid hb3
  have HBUS3 := Lib.hid (show BusIs 2 w3 b K K0 from hbus)
  clear hbus hb3 hK
  go_wp2_with (first | (go_at_call 9; refine (isK.num_no _ _ (by omega) (by omega)).mono ?_; rintro e wq ⟨rfl, rfl⟩))
  refine (tick_is HBUS3.out ⟨false, false, 0, .slice none 0 0, []⟩ (FlIs.nil_ _ _) (by decide)).mono ?_
  rintro e w4 ⟨rfl, hbus, hk⟩
  rw [show tickA 2 _ (WireD.a ⟨false, false, 0, .slice none 0 0, []⟩) = _ from kn_a] at hbus
  rw [show tickA 2 _ (WireD.a ⟨false, false, 0, .slice none 0 0, []⟩) = _ from kn_a]
  have HBUS4 := Lib.hid (show BusIs 2 w4 b K K0 from hbus)
  have HB4 := Lib.hid (Kp.to_below HB3.out hk HB3.out.size HK.out)
  clear hbus hk
  clear HBUS3 
  dsimp only
  dsimp only [errNo]
  rw [if_neg (by decide)]
  go_wp2_with (first | (go_at_call 9; refine (isK.num_no _ _ (by omega) (by omega)).mono ?_; rintro e wq ⟨rfl, rfl⟩))
  refine (send_is HBUS4.out (-1) 5 false _ [] (Sl.nil_ _ _ _) (by omega) (by intro x hx; cases hx) (by decide)).mono ?_
  rintro e w5 ⟨rfl, hbus, hk⟩
  rw [show sendA 2 _ (-1) (5, false, []) = _ from kn_b] at hbus
  rw [show sendA 2 _ (-1) (5, false, []) = _ from kn_b]
  have HBUS5 := Lib.hid (show BusIs 2 w5 b K K0 from hbus)
  have HB5 := Lib.hid (Kp.to_below HB4.out hk HB4.out.size HK.out)
  clear hbus hk
  clear HBUS4 
  dsimp only [errNo]
  rw [if_neg (by decide)]
  go_wp2_with (first | (go_at_call 9; refine (isK.num_no _ _ (by omega) (by omega)).mono ?_; rintro e wq ⟨rfl, rfl⟩))
  refine (send_is HBUS5.out 3 5 false _ [] (Sl.nil_ _ _ _) (by omega) (by intro x hx; cases hx) (by decide)).mono ?_
  rintro e w6 ⟨rfl, hbus, hk⟩
  rw [show sendA 2 _ 3 (5, false, []) = _ from kn_c] at hbus
  rw [show sendA 2 _ 3 (5, false, []) = _ from kn_c]
  have HBUS6 := Lib.hid (show BusIs 2 w6 b K K0 from hbus)
  have HB6 := Lib.hid (Kp.to_below HB5.out hk HB5.out.size HK.out)
  clear hbus hk
  clear HBUS5 
  dsimp only [errNo]
  rw [if_neg (by decide)]
  go_wp2_with (first | (go_at_call 9; refine (isK.num_no _ _ (by omega) (by omega)).mono ?_; rintro e wq ⟨rfl, rfl⟩))
  refine (take_is HBUS6.out 0).mono ?_
  rintro e w7 ⟨vt, rfl, ho, -, hbus, hk⟩
  rw [show takeA _ 0 = _ from kn_d] at ho hbus
  rw [show takeA _ 0 = _ from kn_d]
  obtain ⟨At7, ct7, rfl⟩ := decW.own_slice ho
  have HBUS7 := Lib.hid (show BusIs 2 w7 b K K0 from hbus)
  have HB7 := Lib.hid (Kp.to_below HB6.out hk HB6.out.size HK.out)
  clear ho hbus hk
  clear HBUS6 
  dsimp only [errNo]
  rw [if_neg (by decide)]
  go_wp2_with (first | (go_at_call 9; refine (isK.num_no _ _ (by omega) (by omega)).mono ?_; rintro e wq ⟨rfl, rfl⟩))
  have hal := (Below.refl w7.heap.size w7).alloc (Nat.le_refl _) (.cells #[.int .u32 0, .bool false, .slice At7 0 ct7] 35)
  have HBUS8 := Lib.hid (HBUS7.out.below hal)
  have HB8 := Lib.hid (HB7.out.trans (hal.mono HB7.out.size))
  generalize w7.alloc (.cells #[.int .u32 0, .bool false, .slice At7 0 ct7] 35) = w8 at HBUS8 HB8 ⊢
  clear hal
  clear HBUS7 
  refine (take_is HBUS8.out 3).mono ?_
  rintro e w9 ⟨vt, rfl, ho, -, hbus, hk⟩
  rw [show takeA _ 3 = _ from kn_e] at ho hbus
  rw [show takeA _ 3 = _ from kn_e]
  obtain ⟨At9, ct9, rfl⟩ := decW.own_slice ho
  have HBUS9 := Lib.hid (show BusIs 2 w9 b K K0 from hbus)
  have HB9 := Lib.hid (Kp.to_below HB8.out hk HB8.out.size HK.out)
  clear ho hbus hk
  clear HBUS8 
  dsimp only [errNo]
  rw [if_neg (by decide)]
  go_wp2_with (first | (go_at_call 9; refine (isK.num_no _ _ (by omega) (by omega)).mono ?_; rintro e wq ⟨rfl, rfl⟩))
  have hal := (Below.refl w9.heap.size w9).alloc (Nat.le_refl _) (.cells #[.int .u32 0, .bool false, .slice At9 0 ct9] 35)
  have HBUS10 := Lib.hid (HBUS9.out.below hal)
  have HB10 := Lib.hid (HB9.out.trans (hal.mono HB9.out.size))
  generalize w9.alloc (.cells #[.int .u32 0, .bool false, .slice At9 0 ct9] 35) = w10 at HBUS10 HB10 ⊢
  clear hal
  clear HBUS9 
  refine (counts_is HBUS10.out 3).mono ?_
  rintro e w11 ⟨rfl, hb⟩
  rw [show countA _ 3 = _ from kn_f]
  have HBUS11 := Lib.hid (HBUS10.out.below hb)
  have HB11 := Lib.hid (HB10.out.trans (hb.mono HB10.out.size))
  clear hb
  clear HBUS10 
  dsimp only [cnV]
  dsimp only [errNo]
  rw [if_neg (by decide)]
  go_wp2_with (first | (go_at_call 9; refine (isK.num_no _ _ (by omega) (by omega)).mono ?_; rintro e wq ⟨rfl, rfl⟩))
  have hal := (Below.refl w11.heap.size w11).alloc (Nat.le_refl _) (.cells #[.int .i64 0, .int .i64 0, .int .i64 0, .int .i64 0, .int .i64 0] 64)
  have HBUS12 := Lib.hid (HBUS11.out.below hal)
  have HB12 := Lib.hid (HB11.out.trans (hal.mono HB11.out.size))
  generalize w11.alloc (.cells #[.int .i64 0, .int .i64 0, .int .i64 0, .int .i64 0, .int .i64 0] 64) = w12 at HBUS12 HB12 ⊢
  clear hal
  clear HBUS11 
  refine (send_is HBUS12.out 0 7 false _ [] (Sl.nil_ _ _ _) (by omega) (by intro x hx; cases hx) (by decide)).mono ?_
  rintro e w13 ⟨rfl, hbus, hk⟩
  rw [show sendA 2 _ 0 (7, false, []) = _ from kn_g] at hbus
  rw [show sendA 2 _ 0 (7, false, []) = _ from kn_g]
  have HBUS13 := Lib.hid (show BusIs 2 w13 b K K1 from hbus)
  have HB13 := Lib.hid (Kp.to_below HB12.out hk HB12.out.size HK.out)
  clear hbus hk
  clear HBUS12 
  dsimp only [errNo]
  rw [if_pos rfl]
  go_wp2_with (first | (go_at_call 9; refine (isK.num_no _ _ (by omega) (by omega)).mono ?_; rintro e wq ⟨rfl, rfl⟩))
  refine (send_is HBUS13.out 0 1 false _ [] (Sl.nil_ _ _ _) (by omega) (by intro x hx; cases hx) (by decide)).mono ?_
  rintro e w14 ⟨rfl, hbus, hk⟩
  rw [show sendA 2 _ 0 (1, false, []) = _ from kn_h] at hbus
  rw [show sendA 2 _ 0 (1, false, []) = _ from kn_h]
  have HBUS14 := Lib.hid (show BusIs 2 w14 b K K2 from hbus)
  have HB14 := Lib.hid (Kp.to_below HB13.out hk HB13.out.size HK.out)
  clear hbus hk
  clear HBUS13 
  dsimp only [errNo]
  rw [if_pos rfl]
  go_wp2_with (first | (go_at_call 9; refine (isK.num_no _ _ (by omega) (by omega)).mono ?_; rintro e wq ⟨rfl, rfl⟩))
  refine (send_is HBUS14.out 0 2 false _ [] (Sl.nil_ _ _ _) (by omega) (by intro x hx; cases hx) (by decide)).mono ?_
  rintro e w15 ⟨rfl, hbus, hk⟩
  rw [show sendA 2 _ 0 (2, false, []) = _ from kn_i] at hbus
  rw [show sendA 2 _ 0 (2, false, []) = _ from kn_i]
  have HBUS15 := Lib.hid (show BusIs 2 w15 b K K2 from hbus)
  have HB15 := Lib.hid (Kp.to_below HB14.out hk HB14.out.size HK.out)
  clear hbus hk
  clear HBUS14 
  dsimp only [errNo]
  rw [if_neg (by decide)]
  go_wp2_with (first | (go_at_call 9; refine (isK.num_no _ _ (by omega) (by omega)).mono ?_; rintro e wq ⟨rfl, rfl⟩))
  refine (send_is HBUS15.out 1 5 false _ [] (Sl.nil_ _ _ _) (by omega) (by intro x hx; cases hx) (by decide)).mono ?_
  rintro e w16 ⟨rfl, hbus, hk⟩
  rw [show sendA 2 _ 1 (5, false, []) = _ from kn_j] at hbus
  rw [show sendA 2 _ 1 (5, false, []) = _ from kn_j]
  have HBUS16 := Lib.hid (show BusIs 2 w16 b K K3 from hbus)
  have HB16 := Lib.hid (Kp.to_below HB15.out hk HB15.out.size HK.out)
  clear hbus hk
  clear HBUS15 
  dsimp only [errNo]
  rw [if_pos rfl]
  go_wp2_with (first | (go_at_call 9; refine (isK.num_no _ _ (by omega) (by omega)).mono ?_; rintro e wq ⟨rfl, rfl⟩))
  refine (send_is HBUS16.out 2 2048 false _ [] (Sl.nil_ _ _ _) (by omega) (by intro x hx; cases hx) (by decide)).mono ?_
  rintro e w17 ⟨rfl, hbus, hk⟩
  rw [show sendA 2 _ 2 (2048, false, []) = _ from kn_k] at hbus
  rw [show sendA 2 _ 2 (2048, false, []) = _ from kn_k]
  have HBUS17 := Lib.hid (show BusIs 2 w17 b K K3 from hbus)
  have HB17 := Lib.hid (Kp.to_below HB16.out hk HB16.out.size HK.out)
  clear hbus hk
  clear HBUS16 
  dsimp only [errNo]
  rw [if_neg (by decide)]
  go_wp2_with (first | (go_at_call 9; refine (isK.num_no _ _ (by omega) (by omega)).mono ?_; rintro e wq ⟨rfl, rfl⟩))
  refine (waiting_is HBUS17.out).mono ?_
  rintro e w18 ⟨rfl, q, hq⟩
  rw [kn_l]
  have hb : Below w17.heap.size w17 w18 := by rw [hq]; exact below_drewN (Below.refl _ _) q
  have HBUS18 := Lib.hid (HBUS17.out.below hb)
  have HB18 := Lib.hid (HB17.out.trans (hb.mono HB17.out.size))
  clear hb hq
  clear HBUS17 
  dsimp only
  rw [show (([] : List ALt)).length = 0 from rfl]
  go_wp2_with (first | (go_at_call 9; refine (isK.num_no _ _ (by omega) (by omega)).mono ?_; rintro e wq ⟨rfl, rfl⟩))
  refine (tick_is HBUS18.out ⟨false, false, 0, .slice none 0 0, []⟩ (FlIs.nil_ _ _) (by decide)).mono ?_
  rintro e w19 ⟨rfl, hbus, hk⟩
  rw [show tickA 2 _ (WireD.a ⟨false, false, 0, .slice none 0 0, []⟩) = _ from kn_m] at hbus
  rw [show tickA 2 _ (WireD.a ⟨false, false, 0, .slice none 0 0, []⟩) = _ from kn_m]
  have HBUS19 := Lib.hid (show BusIs 2 w19 b K K4 from hbus)
  have HB19 := Lib.hid (Kp.to_below HB18.out hk HB18.out.size HK.out)
  clear hbus hk
  clear HBUS18 
  dsimp only
  go_wp2_with (first | (go_at_call 9; refine (isK.num_no _ _ (by omega) (by omega)).mono ?_; rintro e wq ⟨rfl, rfl⟩))
  refine (take_is HBUS19.out 0).mono ?_
  rintro e w20 ⟨vt, rfl, ho, -, hbus, hk⟩
  rw [show takeA _ 0 = _ from kn_n] at ho hbus
  rw [show takeA _ 0 = _ from kn_n]
  obtain ⟨At20, ct20, rfl⟩ := decW.own_slice ho
  have HBUS20 := Lib.hid (show BusIs 2 w20 b K K5 from hbus)
  have HB20 := Lib.hid (Kp.to_below HB19.out hk HB19.out.size HK.out)
  clear ho hbus hk
  clear HBUS19 
  dsimp only [errNo]
  rw [if_pos rfl]
  go_wp2_with (first | (go_at_call 9; refine (isK.num_no _ _ (by omega) (by omega)).mono ?_; rintro e wq ⟨rfl, rfl⟩))
  have hal := (Below.refl w20.heap.size w20).alloc (Nat.le_refl _) (.cells #[.int .u32 5, .bool false, .slice At20 0 ct20] 35)
  have HBUS21 := Lib.hid (HBUS20.out.below hal)
  have HB21 := Lib.hid (HB20.out.trans (hal.mono HB20.out.size))
  have HXf21 := Lib.hid (Has.new w20 35 #[.int .u32 5, .bool false, .slice At20 0 ct20])
  have NBf : Hid (¬ busF b K w20.heap.size) := fun h => absurd (HBUS20.out.lt h) (Nat.lt_irrefl _)
  generalize w20.alloc (.cells #[.int .u32 5, .bool false, .slice At20 0 ct20] 35) = w21 at HBUS21 HB21 HXf21 ⊢
  clear hal
  clear HBUS20 
  refine (take_is HBUS21.out 1).mono ?_
  rintro e w22 ⟨vt, rfl, ho, -, hbus, hk⟩
  rw [show takeA _ 1 = _ from kn_o] at ho hbus
  rw [show takeA _ 1 = _ from kn_o]
  obtain ⟨At22, ct22, rfl⟩ := decW.own_slice ho
  have HBUS22 := Lib.hid (show BusIs 2 w22 b K K5 from hbus)
  have HB22 := Lib.hid (Kp.to_below HB21.out hk HB21.out.size HK.out)
  have HXf22 := Lib.hid (hk.has HXf21.out NBf.out)
  clear ho hbus hk
  clear HBUS21 HXf21
  dsimp only [errNo]
  rw [if_neg (by decide)]
  go_wp2_with (first | (go_at_call 9; refine (isK.num_no _ _ (by omega) (by omega)).mono ?_; rintro e wq ⟨rfl, rfl⟩))
  refine (take_is HBUS22.out 2).mono ?_
  rintro e w23 ⟨vt, rfl, ho, -, hbus, hk⟩
  rw [show takeA _ 2 = _ from kn_p] at ho hbus
  rw [show takeA _ 2 = _ from kn_p]
  obtain ⟨At23, ct23, rfl⟩ := decW.own_slice ho
  have HBUS23 := Lib.hid (show BusIs 2 w23 b K K6 from hbus)
  have HB23 := Lib.hid (Kp.to_below HB22.out hk HB22.out.size HK.out)
  have HXf23 := Lib.hid (hk.has HXf22.out NBf.out)
  clear ho hbus hk
  clear HBUS22 HXf22
  dsimp only [errNo]
  rw [if_pos rfl]
  have xf0 : w23.cell? ⟨w20.heap.size, 0, none⟩ = some (.int .u32 5) := (HXf23.out.cell 0).trans rfl
  have xff := fun i => HXf23.out.frozen i
  have xlf := HXf23.out.lt
  go_wp2_with (first | (go_at_call 9; refine (isK.num_no _ _ (by omega) (by omega)).mono ?_; rintro e wq ⟨rfl, rfl⟩))
  have hal := (Below.refl w23.heap.size w23).alloc (Nat.le_refl _) (.cells #[.int .u32 5, .bool false, .slice At23 0 ct23] 35)
  have HBUS24 := Lib.hid (HBUS23.out.below hal)
  have HB24 := Lib.hid (HB23.out.trans (hal.mono HB23.out.size))
  have HXf24 := Lib.hid (HXf23.out.below hal HXf23.out.lt)
  have HXg24 := Lib.hid (Has.new w23 35 #[.int .u32 5, .bool false, .slice At23 0 ct23])
  have NBg : Hid (¬ busF b K w23.heap.size) := fun h => absurd (HBUS23.out.lt h) (Nat.lt_irrefl _)
  have NEfg : Hid (w20.heap.size < w23.heap.size) := HXf23.out.lt
  have hsz : (w23.alloc (.cells #[.int .u32 5, .bool false, .slice At23 0 ct23] 35)).heap.size = w23.heap.size + 1 := by simp
  generalize w23.alloc (.cells #[.int .u32 5, .bool false, .slice At23 0 ct23] 35) = w24 at HBUS24 HB24 HXf24 HXg24 hsz ⊢
  rw [← hsz]
  clear hsz
  clear hal
  clear HBUS23 HXf23
  have hal := (Below.refl w24.heap.size w24).alloc (Nat.le_refl _) (.cells #[.int .i64 3, .int .i64 99, .int .i64 (-1), .int .i64 3, .int .i64 3] 3)
  have HBUS25 := Lib.hid (HBUS24.out.below hal)
  have HB25 := Lib.hid (HB24.out.trans (hal.mono HB24.out.size))
  have HXf25 := Lib.hid (HXf24.out.below hal HXf24.out.lt)
  have HXg25 := Lib.hid (HXg24.out.below hal HXg24.out.lt)
  have HXfl25 := Lib.hid (Has.new w24 3 #[.int .i64 3, .int .i64 99, .int .i64 (-1), .int .i64 3, .int .i64 3])
  have NBfl : Hid (¬ busF b K w24.heap.size) := fun h => absurd (HBUS24.out.lt h) (Nat.lt_irrefl _)
  have NEffl : Hid (w20.heap.size < w24.heap.size) := HXf24.out.lt
  have NEgfl : Hid (w23.heap.size < w24.heap.size) := HXg24.out.lt
  generalize w24.alloc (.cells #[.int .i64 3, .int .i64 99, .int .i64 (-1), .int .i64 3, .int .i64 3] 3) = w25 at HBUS25 HB25 HXf25 HXg25 HXfl25 ⊢
  clear hal
  clear HBUS24 HXf24 HXg24
  have HFL : Hid (FlIs w25 K (.slice (some ⟨w24.heap.size, 0, none⟩) 5 5) [3, 99, -1, 3, 3]) := fl_of_has (l := [3, 99, -1, 3, 3]) HXfl25.out NBfl.out (by decide)
  clear NBfl HXfl25
  refine (tick_is HBUS25.out ⟨false, false, 0, .slice (some ⟨w24.heap.size, 0, none⟩) 5 5, [3, 99, -1, 3, 3]⟩ HFL.out (by decide)).mono ?_
  rintro e w26 ⟨rfl, hbus, hk⟩
  rw [show tickA 2 _ (WireD.a ⟨false, false, 0, .slice (some ⟨w24.heap.size, 0, none⟩) 5 5, [3, 99, -1, 3, 3]⟩) = _ from kn_q] at hbus
  rw [show tickA 2 _ (WireD.a ⟨false, false, 0, .slice (some ⟨w24.heap.size, 0, none⟩) 5 5, [3, 99, -1, 3, 3]⟩) = _ from kn_q]
  have HBUS26 := Lib.hid (show BusIs 2 w26 b K K7 from hbus)
  have HB26 := Lib.hid (Kp.to_below HB25.out hk HB25.out.size HK.out)
  have HXf26 := Lib.hid (hk.has HXf25.out NBf.out)
  have HXg26 := Lib.hid (hk.has HXg25.out NBg.out)
  clear hbus hk
  clear HBUS25 HXf25 HXg25
  dsimp only
  clear HFL
  clear xf0 xff xlf
  go_wp2_with (first | (go_at_call 9; refine (isK.num_no _ _ (by omega) (by omega)).mono ?_; rintro e wq ⟨rfl, rfl⟩))
  refine (counts_is HBUS26.out 1).mono ?_
  rintro e w27 ⟨rfl, hb⟩
  rw [show countA _ 1 = _ from kn_r1]
  have HBUS27 := Lib.hid (HBUS26.out.below hb)
  have HB27 := Lib.hid (HB26.out.trans (hb.mono HB26.out.size))
  have HXf27 := Lib.hid (HXf26.out.below hb HXf26.out.lt)
  have HXg27 := Lib.hid (HXg26.out.below hb HXg26.out.lt)
  clear hb
  clear HBUS26 HXf26 HXg26
  dsimp only [cnV]
  dsimp only [errNo]
  rw [if_pos rfl]
  go_wp2_with (first | (go_at_call 9; refine (isK.num_no _ _ (by omega) (by omega)).mono ?_; rintro e wq ⟨rfl, rfl⟩))
  have hal := (Below.refl w27.heap.size w27).alloc (Nat.le_refl _) (.cells #[.int .i64 1, .int .i64 0, .int .i64 0, .int .i64 1, .int .i64 0] 64)
  have HBUS28 := Lib.hid (HBUS27.out.below hal)
  have HB28 := Lib.hid (HB27.out.trans (hal.mono HB27.out.size))
  have HXf28 := Lib.hid (HXf27.out.below hal HXf27.out.lt)
  have HXg28 := Lib.hid (HXg27.out.below hal HXg27.out.lt)
  have HXc28 := Lib.hid (Has.new w27 64 #[.int .i64 1, .int .i64 0, .int .i64 0, .int .i64 1, .int .i64 0])
  have NBc : Hid (¬ busF b K w27.heap.size) := fun h => absurd (HBUS27.out.lt h) (Nat.lt_irrefl _)
  have NEfc : Hid (w20.heap.size < w27.heap.size) := HXf27.out.lt
  have NEgc : Hid (w23.heap.size < w27.heap.size) := HXg27.out.lt
  generalize w27.alloc (.cells #[.int .i64 1, .int .i64 0, .int .i64 0, .int .i64 1, .int .i64 0] 64) = w28 at HBUS28 HB28 HXf28 HXg28 HXc28 ⊢
  clear hal
  clear HBUS27 HXf27 HXg27
  refine (counts_is HBUS28.out 2).mono ?_
  rintro e w29 ⟨rfl, hb⟩
  rw [show countA _ 2 = _ from kn_r2]
  have HBUS29 := Lib.hid (HBUS28.out.below hb)
  have HB29 := Lib.hid (HB28.out.trans (hb.mono HB28.out.size))
  have HXf29 := Lib.hid (HXf28.out.below hb HXf28.out.lt)
  have HXg29 := Lib.hid (HXg28.out.below hb HXg28.out.lt)
  have HXc29 := Lib.hid (HXc28.out.below hb HXc28.out.lt)
  clear hb
  clear HBUS28 HXf28 HXg28 HXc28
  dsimp only [cnV]
  dsimp only [errNo]
  rw [if_pos rfl]
  go_wp2_with (first | (go_at_call 9; refine (isK.num_no _ _ (by omega) (by omega)).mono ?_; rintro e wq ⟨rfl, rfl⟩))
  have hal := (Below.refl w29.heap.size w29).alloc (Nat.le_refl _) (.cells #[.int .i64 0, .int .i64 1, .int .i64 0, .int .i64 1, .int .i64 0] 64)
  have HBUS30 := Lib.hid (HBUS29.out.below hal)
  have HB30 := Lib.hid (HB29.out.trans (hal.mono HB29.out.size))
  have HXf30 := Lib.hid (HXf29.out.below hal HXf29.out.lt)
  have HXg30 := Lib.hid (HXg29.out.below hal HXg29.out.lt)
  have HXc30 := Lib.hid (HXc29.out.below hal HXc29.out.lt)
  have HXd30 := Lib.hid (Has.new w29 64 #[.int .i64 0, .int .i64 1, .int .i64 0, .int .i64 1, .int .i64 0])
  have NBd : Hid (¬ busF b K w29.heap.size) := fun h => absurd (HBUS29.out.lt h) (Nat.lt_irrefl _)
  have NEfd : Hid (w20.heap.size < w29.heap.size) := HXf29.out.lt
  have NEgd : Hid (w23.heap.size < w29.heap.size) := HXg29.out.lt
  have NEcd : Hid (w27.heap.size < w29.heap.size) := HXc29.out.lt
  generalize w29.alloc (.cells #[.int .i64 0, .int .i64 1, .int .i64 0, .int .i64 1, .int .i64 0] 64) = w30 at HBUS30 HB30 HXf30 HXg30 HXc30 HXd30 ⊢
  clear hal
  clear HBUS29 HXf29 HXg29 HXc29
  refine (counts_is HBUS30.out 0).mono ?_
  rintro e w31 ⟨rfl, hb⟩
  rw [show countA _ 0 = _ from kn_r0]
  have HBUS31 := Lib.hid (HBUS30.out.below hb)
  have HB31 := Lib.hid (HB30.out.trans (hb.mono HB30.out.size))
  have HXf31 := Lib.hid (HXf30.out.below hb HXf30.out.lt)
  have HXg31 := Lib.hid (HXg30.out.below hb HXg30.out.lt)
  have HXc31 := Lib.hid (HXc30.out.below hb HXc30.out.lt)
  have HXd31 := Lib.hid (HXd30.out.below hb HXd30.out.lt)
  clear hb
  clear HBUS30 HXf30 HXg30 HXc30 HXd30
  dsimp only [cnV]
  dsimp only [errNo]
  rw [if_pos rfl]
  have xc3 : w31.cell? ⟨w27.heap.size, 3, none⟩ = some (.int .i64 1) := (HXc31.out.cell 3).trans rfl
  have xfc := fun i => HXc31.out.frozen i
  have xlc := HXc31.out.lt
  have xd3 : w31.cell? ⟨w29.heap.size, 3, none⟩ = some (.int .i64 1) := (HXd31.out.cell 3).trans rfl
  have xfd := fun i => HXd31.out.frozen i
  have xld := HXd31.out.lt
  go_wp2_with (first | (go_at_call 9; refine (isK.num_no _ _ (by omega) (by omega)).mono ?_; rintro e wq ⟨rfl, rfl⟩))
  have hal := (Below.refl w31.heap.size w31).alloc (Nat.le_refl _) (.cells #[.int .i64 1, .int .i64 1, .int .i64 0, .int .i64 0, .int .i64 0] 64)
  have HBUS32 := Lib.hid (HBUS31.out.below hal)
  have HB32 := Lib.hid (HB31.out.trans (hal.mono HB31.out.size))
  have HXf32 := Lib.hid (HXf31.out.below hal HXf31.out.lt)
  have HXg32 := Lib.hid (HXg31.out.below hal HXg31.out.lt)
  have HXc32 := Lib.hid (HXc31.out.below hal HXc31.out.lt)
  have HXd32 := Lib.hid (HXd31.out.below hal HXd31.out.lt)
  generalize w31.alloc (.cells #[.int .i64 1, .int .i64 1, .int .i64 0, .int .i64 0, .int .i64 0] 64) = w32 at HBUS32 HB32 HXf32 HXg32 HXc32 HXd32 ⊢
  clear hal
  clear HBUS31 HXf31 HXg31 HXc31 HXd31
  clear xc3 xfc xlc
  clear xd3 xfd xld
  refine (tick_is HBUS32.out ⟨false, true, 1, .slice none 0 0, []⟩ (FlIs.nil_ _ _) (by decide)).mono ?_
  rintro e w33 ⟨rfl, hbus, hk⟩
  rw [show tickA 2 _ (WireD.a ⟨false, true, 1, .slice none 0 0, []⟩) = _ from kn_s] at hbus
  rw [show tickA 2 _ (WireD.a ⟨false, true, 1, .slice none 0 0, []⟩) = _ from kn_s]
  have HBUS33 := Lib.hid (show BusIs 2 w33 b K K8 from hbus)
  have HB33 := Lib.hid (Kp.to_below HB32.out hk HB32.out.size HK.out)
  have HXf33 := Lib.hid (hk.has HXf32.out NBf.out)
  have HXg33 := Lib.hid (hk.has HXg32.out NBg.out)
  have HXc33 := Lib.hid (hk.has HXc32.out NBc.out)
  have HXd33 := Lib.hid (hk.has HXd32.out NBd.out)
  clear hbus hk
  clear HBUS32 HXf32 HXg32 HXc32 HXd32
  dsimp only
  go_wp2_with (first | (go_at_call 9; refine (isK.num_no _ _ (by omega) (by omega)).mono ?_; rintro e wq ⟨rfl, rfl⟩))
  refine (waiting_is HBUS33.out).mono ?_
  rintro e w34 ⟨rfl, q, hq⟩
  rw [kn_t]
  have hb : Below w33.heap.size w33 w34 := by rw [hq]; exact below_drewN (Below.refl _ _) q
  have HBUS34 := Lib.hid (HBUS33.out.below hb)
  have HB34 := Lib.hid (HB33.out.trans (hb.mono HB33.out.size))
  have HXf34 := Lib.hid (HXf33.out.below hb HXf33.out.lt)
  have HXg34 := Lib.hid (HXg33.out.below hb HXg33.out.lt)
  have HXc34 := Lib.hid (HXc33.out.below hb HXc33.out.lt)
  have HXd34 := Lib.hid (HXd33.out.below hb HXd33.out.lt)
  clear hb hq
  clear HBUS33 HXf33 HXg33 HXc33 HXd33
  dsimp only
  rw [show ([(⟨0, bitsF 1 false [], true, 1⟩ : ALt)]).length = 1 from rfl]
  go_wp2_with (first | (go_at_call 9; refine (isK.num_no _ _ (by omega) (by omega)).mono ?_; rintro e wq ⟨rfl, rfl⟩))
  refine (take_is HBUS34.out 1).mono ?_
  rintro e w35 ⟨vt, rfl, ho, -, hbus, hk⟩
  rw [show takeA _ 1 = _ from kn_u] at ho hbus
  rw [show takeA _ 1 = _ from kn_u]
  obtain ⟨At35, ct35, rfl⟩ := decW.own_slice ho
  have HBUS35 := Lib.hid (show BusIs 2 w35 b K K8 from hbus)
  have HB35 := Lib.hid (Kp.to_below HB34.out hk HB34.out.size HK.out)
  have HXf35 := Lib.hid (hk.has HXf34.out NBf.out)
  have HXg35 := Lib.hid (hk.has HXg34.out NBg.out)
  have HXc35 := Lib.hid (hk.has HXc34.out NBc.out)
  have HXd35 := Lib.hid (hk.has HXd34.out NBd.out)
  clear ho hbus hk
  clear HBUS34 HXf34 HXg34 HXc34 HXd34
  dsimp only [errNo]
  rw [if_neg (by decide)]
  go_wp2_with (first | (go_at_call 9; refine (isK.num_no _ _ (by omega) (by omega)).mono ?_; rintro e wq ⟨rfl, rfl⟩))
  refine (tick_is HBUS35.out ⟨true, false, 0, .slice none 0 0, []⟩ (FlIs.nil_ _ _) (by decide)).mono ?_
  rintro e w36 ⟨rfl, hbus, hk⟩
  rw [show tickA 2 _ (WireD.a ⟨true, false, 0, .slice none 0 0, []⟩) = _ from kn_v] at hbus
  rw [show tickA 2 _ (WireD.a ⟨true, false, 0, .slice none 0 0, []⟩) = _ from kn_v]
  have HBUS36 := Lib.hid (show BusIs 2 w36 b K K9 from hbus)
  have HB36 := Lib.hid (Kp.to_below HB35.out hk HB35.out.size HK.out)
  have HXf36 := Lib.hid (hk.has HXf35.out NBf.out)
  have HXg36 := Lib.hid (hk.has HXg35.out NBg.out)
  have HXc36 := Lib.hid (hk.has HXc35.out NBc.out)
  have HXd36 := Lib.hid (hk.has HXd35.out NBd.out)
  clear hbus hk
  clear HBUS35 HXf35 HXg35 HXc35 HXd35
  dsimp only
  have xf0 : w36.cell? ⟨w20.heap.size, 0, none⟩ = some (.int .u32 5) := (HXf36.out.cell 0).trans rfl
  have xf1 : w36.cell? ⟨w20.heap.size, 1, none⟩ = some (.bool false) := (HXf36.out.cell 1).trans rfl
  have xf2 : w36.cell? ⟨w20.heap.size, 2, none⟩ = some (.slice At20 0 ct20) := (HXf36.out.cell 2).trans rfl
  have xff := fun i => HXf36.out.frozen i
  have xlf := HXf36.out.lt
  go_wp2_with (first | (go_at_call 9; refine (isK.num_no _ _ (by omega) (by omega)).mono ?_; rintro e wq ⟨rfl, rfl⟩))
  refine (take_is HBUS36.out 1).mono ?_
  rintro e w37 ⟨vt, rfl, ho, -, hbus, hk⟩
  rw [show takeA _ 1 = _ from kn_w] at ho hbus
  rw [show takeA _ 1 = _ from kn_w]
  obtain ⟨At37, ct37, rfl⟩ := decW.own_slice ho
  have HBUS37 := Lib.hid (show BusIs 2 w37 b K K10 from hbus)
  have HB37 := Lib.hid (Kp.to_below HB36.out hk HB36.out.size HK.out)
  have HXf37 := Lib.hid (hk.has HXf36.out NBf.out)
  have HXg37 := Lib.hid (hk.has HXg36.out NBg.out)
  have HXc37 := Lib.hid (hk.has HXc36.out NBc.out)
  have HXd37 := Lib.hid (hk.has HXd36.out NBd.out)
  clear ho hbus hk
  clear HBUS36 HXf36 HXg36 HXc36 HXd36
  dsimp only [errNo]
  rw [if_pos rfl]
  clear xf0 xf1 xf2 xff xlf
  have xf0 : w37.cell? ⟨w20.heap.size, 0, none⟩ = some (.int .u32 5) := (HXf37.out.cell 0).trans rfl
  have xf1 : w37.cell? ⟨w20.heap.size, 1, none⟩ = some (.bool false) := (HXf37.out.cell 1).trans rfl
  have xf2 : w37.cell? ⟨w20.heap.size, 2, none⟩ = some (.slice At20 0 ct20) := (HXf37.out.cell 2).trans rfl
  have xff := fun i => HXf37.out.frozen i
  have xlf := HXf37.out.lt
  go_wp2_with (first | (go_at_call 9; refine (isK.num_no _ _ (by omega) (by omega)).mono ?_; rintro e wq ⟨rfl, rfl⟩))
  have hkp := ((((Kp.refl (fun k => k = w20.heap.size) w37).set (p := ⟨w20.heap.size, 0, none⟩) (.inl rfl) (.int .u32 1)).set (p := ⟨w20.heap.size, 1, none⟩) (.inl rfl) (.bool false)).set (p := ⟨w20.heap.size, 2, none⟩) (.inl rfl) (.slice At37 0 ct37))
  have hap : ∀ k, k = w20.heap.size → ¬ busF b K k ∧ ∀ t, tyAt w37 k = some t → t ∉ [tR, tU, tP, tL, tBo] := by rintro k rfl; exact ⟨NBf.out, fun t ht => by rw [has_ty HXf37.out] at ht; cases ht; decide⟩
  have HBUS38 := Lib.hid (HBUS37.out.apart hkp hap)
  have HB38 := Lib.hid (Kp.to_below HB37.out hkp HB37.out.size (fun k hk => by have e : k = w20.heap.size := hk; rw [e]; exact HB20.out.size))
  have HXf38 : Hid (Has (World.setCell (World.setCell (World.setCell w37 ⟨w20.heap.size, 0, none⟩ (.int .u32 1)) ⟨w20.heap.size, 1, none⟩ (.bool false)) ⟨w20.heap.size, 2, none⟩ (.slice At37 0 ct37)) w20.heap.size 35 #[.int .u32 1, .bool false, .slice At37 0 ct37]) := (has_to (has_to (has_to HXf37.out 0 _ rfl) 1 _ rfl) 2 _ rfl)
  have HXg38 := Lib.hid (hkp.has HXg37.out (show ¬ w23.heap.size = w20.heap.size from (Nat.ne_of_gt NEfg.out)))
  have HXc38 := Lib.hid (hkp.has HXc37.out (show ¬ w27.heap.size = w20.heap.size from (Nat.ne_of_gt NEfc.out)))
  have HXd38 := Lib.hid (hkp.has HXd37.out (show ¬ w29.heap.size = w20.heap.size from (Nat.ne_of_gt NEfd.out)))
  generalize (World.setCell (World.setCell (World.setCell w37 ⟨w20.heap.size, 0, none⟩ (.int .u32 1)) ⟨w20.heap.size, 1, none⟩ (.bool false)) ⟨w20.heap.size, 2, none⟩ (.slice At37 0 ct37)) = w38 at HBUS38 HB38 HXf38 HXg38 HXc38 HXd38 ⊢
  clear hkp hap
  clear HBUS37 HXf37 HXg37 HXc37 HXd37
  clear xf0 xf1 xf2 xff xlf
  refine (take_is HBUS38.out 1).mono ?_
  rintro e w39 ⟨vt, rfl, ho, -, hbus, hk⟩
  rw [show takeA _ 1 = _ from kn_x] at ho hbus
  rw [show takeA _ 1 = _ from kn_x]
  obtain ⟨At39, ct39, rfl⟩ := decW.own_slice ho
  have HBUS39 := Lib.hid (show BusIs 2 w39 b K K11 from hbus)
  have HB39 := Lib.hid (Kp.to_below HB38.out hk HB38.out.size HK.out)
  have HXf39 := Lib.hid (hk.has HXf38.out NBf.out)
  have HXg39 := Lib.hid (hk.has HXg38.out NBg.out)
  have HXc39 := Lib.hid (hk.has HXc38.out NBc.out)
  have HXd39 := Lib.hid (hk.has HXd38.out NBd.out)
  clear ho hbus hk
  clear HBUS38 HXf38 HXg38 HXc38 HXd38
  dsimp only [errNo]
  rw [if_pos rfl]
  have xg0 : w39.cell? ⟨w23.heap.size, 0, none⟩ = some (.int .u32 5) := (HXg39.out.cell 0).trans rfl
  have xg1 : w39.cell? ⟨w23.heap.size, 1, none⟩ = some (.bool false) := (HXg39.out.cell 1).trans rfl
  have xg2 : w39.cell? ⟨w23.heap.size, 2, none⟩ = some (.slice At23 0 ct23) := (HXg39.out.cell 2).trans rfl
  have xfg := fun i => HXg39.out.frozen i
  have xlg := HXg39.out.lt
  go_wp2_with (first | (go_at_call 9; refine (isK.num_no _ _ (by omega) (by omega)).mono ?_; rintro e wq ⟨rfl, rfl⟩))
  have hkp := ((((Kp.refl (fun k => k = w23.heap.size) w39).set (p := ⟨w23.heap.size, 0, none⟩) (.inl rfl) (.int .u32 1)).set (p := ⟨w23.heap.size, 1, none⟩) (.inl rfl) (.bool false)).set (p := ⟨w23.heap.size, 2, none⟩) (.inl rfl) (.slice At39 0 ct39))
  have hap : ∀ k, k = w23.heap.size → ¬ busF b K k ∧ ∀ t, tyAt w39 k = some t → t ∉ [tR, tU, tP, tL, tBo] := by rintro k rfl; exact ⟨NBg.out, fun t ht => by rw [has_ty HXg39.out] at ht; cases ht; decide⟩
  have HBUS40 := Lib.hid (HBUS39.out.apart hkp hap)
  have HB40 := Lib.hid (Kp.to_below HB39.out hkp HB39.out.size (fun k hk => by have e : k = w23.heap.size := hk; rw [e]; exact HB23.out.size))
  have HXf40 := Lib.hid (hkp.has HXf39.out (show ¬ w20.heap.size = w23.heap.size from (Nat.ne_of_lt NEfg.out)))
  have HXg40 : Hid (Has (World.setCell (World.setCell (World.setCell w39 ⟨w23.heap.size, 0, none⟩ (.int .u32 1)) ⟨w23.heap.size, 1, none⟩ (.bool false)) ⟨w23.heap.size, 2, none⟩ (.slice At39 0 ct39)) w23.heap.size 35 #[.int .u32 1, .bool false, .slice At39 0 ct39]) := (has_to (has_to (has_to HXg39.out 0 _ rfl) 1 _ rfl) 2 _ rfl)
  have HXc40 := Lib.hid (hkp.has HXc39.out (show ¬ w27.heap.size = w23.heap.size from (Nat.ne_of_gt NEgc.out)))
  have HXd40 := Lib.hid (hkp.has HXd39.out (show ¬ w29.heap.size = w23.heap.size from (Nat.ne_of_gt NEgd.out)))
  generalize (World.setCell (World.setCell (World.setCell w39 ⟨w23.heap.size, 0, none⟩ (.int .u32 1)) ⟨w23.heap.size, 1, none⟩ (.bool false)) ⟨w23.heap.size, 2, none⟩ (.slice At39 0 ct39)) = w40 at HBUS40 HB40 HXf40 HXg40 HXc40 HXd40 ⊢
  clear hkp hap
  clear HBUS39 HXf39 HXg39 HXc39 HXd39
  clear xg0 xg1 xg2 xfg xlg
  refine (counts_is HBUS40.out 2).mono ?_
  rintro e w41 ⟨rfl, hb⟩
  rw [show countA _ 2 = _ from kn_y]
  have HBUS41 := Lib.hid (HBUS40.out.below hb)
  have HB41 := Lib.hid (HB40.out.trans (hb.mono HB40.out.size))
  have HXf41 := Lib.hid (HXf40.out.below hb HXf40.out.lt)
  have HXg41 := Lib.hid (HXg40.out.below hb HXg40.out.lt)
  have HXc41 := Lib.hid (HXc40.out.below hb HXc40.out.lt)
  have HXd41 := Lib.hid (HXd40.out.below hb HXd40.out.lt)
  clear hb
  clear HBUS40 HXf40 HXg40 HXc40 HXd40
  dsimp only [cnV]
  dsimp only [errNo]
  rw [if_pos rfl]
  have xd0 : w41.cell? ⟨w29.heap.size, 0, none⟩ = some (.int .i64 0) := (HXd41.out.cell 0).trans rfl
  have xd1 : w41.cell? ⟨w29.heap.size, 1, none⟩ = some (.int .i64 1) := (HXd41.out.cell 1).trans rfl
  have xd2 : w41.cell? ⟨w29.heap.size, 2, none⟩ = some (.int .i64 0) := (HXd41.out.cell 2).trans rfl
  have xd3 : w41.cell? ⟨w29.heap.size, 3, none⟩ = some (.int .i64 1) := (HXd41.out.cell 3).trans rfl
  have xd4 : w41.cell? ⟨w29.heap.size, 4, none⟩ = some (.int .i64 0) := (HXd41.out.cell 4).trans rfl
  have xfd := fun i => HXd41.out.frozen i
  have xld := HXd41.out.lt
  have xf0 : w41.cell? ⟨w20.heap.size, 0, none⟩ = some (.int .u32 1) := (HXf41.out.cell 0).trans rfl
  have xff := fun i => HXf41.out.frozen i
  have xlf := HXf41.out.lt
  have xg0 : w41.cell? ⟨w23.heap.size, 0, none⟩ = some (.int .u32 1) := (HXg41.out.cell 0).trans rfl
  have xfg := fun i => HXg41.out.frozen i
  have xlg := HXg41.out.lt
  have ne1 : ¬ w20.heap.size = w29.heap.size := Nat.ne_of_lt NEfd.out
  have ne2 : ¬ w23.heap.size = w29.heap.size := Nat.ne_of_lt NEgd.out
  go_wp2_with (first | (go_at_call 9; refine (isK.num_no _ _ (by omega) (by omega)).mono ?_; rintro e wq ⟨rfl, rfl⟩))
  clear ne1 ne2
  have hkp := ((((((Kp.refl (fun k => k = w29.heap.size) w41).set (p := ⟨w29.heap.size, 0, none⟩) (.inl rfl) (.int .i64 0)).set (p := ⟨w29.heap.size, 1, none⟩) (.inl rfl) (.int .i64 1)).set (p := ⟨w29.heap.size, 2, none⟩) (.inl rfl) (.int .i64 2)).set (p := ⟨w29.heap.size, 3, none⟩) (.inl rfl) (.int .i64 1)).set (p := ⟨w29.heap.size, 4, none⟩) (.inl rfl) (.int .i64 0))
  have hap : ∀ k, k = w29.heap.size → ¬ busF b K k ∧ ∀ t, tyAt w41 k = some t → t ∉ [tR, tU, tP, tL, tBo] := by rintro k rfl; exact ⟨NBd.out, fun t ht => by rw [has_ty HXd41.out] at ht; cases ht; decide⟩
  have HBUS42 := Lib.hid (HBUS41.out.apart hkp hap)
  have HB42 := Lib.hid (Kp.to_below HB41.out hkp HB41.out.size (fun k hk => by have e : k = w29.heap.size := hk; rw [e]; exact HB29.out.size))
  have HXf42 := Lib.hid (hkp.has HXf41.out (show ¬ w20.heap.size = w29.heap.size from (Nat.ne_of_lt NEfd.out)))
  have HXg42 := Lib.hid (hkp.has HXg41.out (show ¬ w23.heap.size = w29.heap.size from (Nat.ne_of_lt NEgd.out)))
  have HXc42 := Lib.hid (hkp.has HXc41.out (show ¬ w27.heap.size = w29.heap.size from (Nat.ne_of_lt NEcd.out)))
  have HXd42 : Hid (Has (World.setCell (World.setCell (World.setCell (World.setCell (World.setCell w41 ⟨w29.heap.size, 0, none⟩ (.int .i64 0)) ⟨w29.heap.size, 1, none⟩ (.int .i64 1)) ⟨w29.heap.size, 2, none⟩ (.int .i64 2)) ⟨w29.heap.size, 3, none⟩ (.int .i64 1)) ⟨w29.heap.size, 4, none⟩ (.int .i64 0)) w29.heap.size 64 #[.int .i64 0, .int .i64 1, .int .i64 2, .int .i64 1, .int .i64 0]) := (has_to (has_to (has_to (has_to (has_to HXd41.out 0 _ rfl) 1 _ rfl) 2 _ rfl) 3 _ rfl) 4 _ rfl)
  generalize (World.setCell (World.setCell (World.setCell (World.setCell (World.setCell w41 ⟨w29.heap.size, 0, none⟩ (.int .i64 0)) ⟨w29.heap.size, 1, none⟩ (.int .i64 1)) ⟨w29.heap.size, 2, none⟩ (.int .i64 2)) ⟨w29.heap.size, 3, none⟩ (.int .i64 1)) ⟨w29.heap.size, 4, none⟩ (.int .i64 0)) = w42 at HBUS42 HB42 HXf42 HXg42 HXc42 HXd42 ⊢
  clear hkp hap
  clear HBUS41 HXf41 HXg41 HXc41 HXd41
  clear xd0 xd1 xd2 xd3 xd4 xfd xld
  clear xf0 xff xlf
  clear xg0 xfg xlg
  refine (tick_is HBUS42.out ⟨false, false, 0, .slice none 0 0, []⟩ (FlIs.nil_ _ _) (by decide)).mono ?_
  rintro e w43 ⟨rfl, hbus, hk⟩
  rw [show tickA 2 _ (WireD.a ⟨false, false, 0, .slice none 0 0, []⟩) = _ from kn_z] at hbus
  rw [show tickA 2 _ (WireD.a ⟨false, false, 0, .slice none 0 0, []⟩) = _ from kn_z]
  have HBUS43 := Lib.hid (show BusIs 2 w43 b K K11 from hbus)
  have HB43 := Lib.hid (Kp.to_below HB42.out hk HB42.out.size HK.out)
  have HXf43 := Lib.hid (hk.has HXf42.out NBf.out)
  have HXg43 := Lib.hid (hk.has HXg42.out NBg.out)
  have HXc43 := Lib.hid (hk.has HXc42.out NBc.out)
  have HXd43 := Lib.hid (hk.has HXd42.out NBd.out)
  clear hbus hk
  clear HBUS42 HXf42 HXg42 HXc42 HXd42
  dsimp only
  dsimp only [errNo]
  rw [if_neg (by decide)]
  go_wp2_with (first | (go_at_call 9; refine (isK.num_no _ _ (by omega) (by omega)).mono ?_; rintro e wq ⟨rfl, rfl⟩))
  refine (new_room 0 _ _ [[], [], [r5]] ((HV.out.below rowsE_mono HB43.out).more rowsE_mono (fun b hb => Nat.lt_of_lt_of_le hb HB43.out.size)) (by decide) (by decide) (by omega)).mono ?_
  rintro e w44 ⟨rfl, hb⟩
  have HB44 := Lib.hid (HB43.out.trans (hb.mono HB43.out.size))
  clear hb
  dsimp only [errNo]
  rw [if_neg (by decide)]
  go_wp2_with (first | (go_at_call 9; refine (isK.num_no _ _ (by omega) (by omega)).mono ?_; rintro e wq ⟨rfl, rfl⟩))
  refine (new_room 65 _ _ [[], [], [r5]] ((HV.out.below rowsE_mono HB44.out).more rowsE_mono (fun b hb => Nat.lt_of_lt_of_le hb HB44.out.size)) (by decide) (by decide) (by omega)).mono ?_
  rintro e w45 ⟨rfl, hb⟩
  have HB45 := Lib.hid (HB44.out.trans (hb.mono HB44.out.size))
  clear hb
  dsimp only [errNo]
  rw [if_neg (by decide)]
  go_wp2_with (first | (go_at_call 9; refine (isK.num_no _ _ (by omega) (by omega)).mono ?_; rintro e wq ⟨rfl, rfl⟩))
  refine (new_few 1 _ none 0 0 (.inl (by omega)) (by omega)).mono ?_
  rintro e wq ⟨rfl, rfl⟩
  dsimp only [errNo]
  rw [if_neg (by decide)]
  go_wp2_with (first | (go_at_call 9; refine (isK.num_no _ _ (by omega) (by omega)).mono ?_; rintro e wq ⟨rfl, rfl⟩))
  refine (all_any 9 _ (by omega)).mono ?_
  rintro e w46 ⟨v9, rfl, -, ho9, hb⟩
  obtain ⟨A9, c9, rfl⟩ := (by obtain ⟨g9, c9, e9, _⟩ := own_form ho9 (by omega); exact ⟨_, _, e9⟩ : ∃ A c, v9 = .slice A 9 c)
  have HB46 := Lib.hid (HB45.out.trans (hb.mono HB45.out.size))
  clear hb ho9
  go_wp2_with (first | (go_at_call 9; refine (isK.num_no _ _ (by omega) (by omega)).mono ?_; rintro e wq ⟨rfl, rfl⟩))
  refine (new_few 1 _ A9 9 c9 (.inr (by omega)) (by omega)).mono ?_
  rintro e wq ⟨rfl, rfl⟩
  dsimp only [errNo]
  rw [if_neg (by decide)]
  go_wp2_with (first | (go_at_call 9; refine (isK.num_no _ _ (by omega) (by omega)).mono ?_; rintro e wq ⟨rfl, rfl⟩))
  go_ret
  exact ⟨rfl, HB2.out.trans (HB46.out.mono HB2.out.size)⟩
/-! The row's step. -/
theorem own : ownKnob Try.prog.godebug = none := by kernel_rfl
theorem laidOut : laidOutB Try.prog = true := by kernel_rfl

set_option maxRecDepth 100000 in
theorem lifted (os : Os) (started : os.Started) (H : Type) (enc : TypeId × Value → H) :
    ReturnsInHanded {} Try.checked os 6 .any (Rows.busKnownSpec.pre6 enc Try.prog Try.f6 Rows.busKnownRow.domain false) (Rows.busKnownSpec.post enc Try.prog Try.f6 false true false false) := by
  refine returnsInHanded_of_change_sized (C := Try.checked) own started (by kernel_rfl) Try.func6
    (ChangeSpec.witness6 (enc := enc) (C := Try.checked) false ⟨#[], #[], []⟩ 8 (by kernel_rfl) (by kernel_rfl) (by kernel_rfl) (by kernel_rfl)) ?_
  intro W base args ds gs before hval0 hW hcnd hsz0 _
  have hval : ∀ (j : Nat) t v, Try.f6.params[j]? = some t → args[j]? = some v → Value.okWide Try.prog W .any base t v := hval0
  have hsz : (DataW.weightsEach Try.prog (Try.f6.params.toList ++ Rows.busKnownSpec.plain.varTypes Try.prog) (ds ++ gs)).all (· ≤ reachBytes) = true := hsz0
  have hW' := hW
  obtain ⟨p, q, hA0, hV, rfl, hfz, hnd⟩ := hW
  have hA : DataW.TrodAll enc Try.prog W 0 (fun _ => true) true Try.f6.params.toList args.toList ds p := hA0
  rw [Try.params6] at hA hval hsz
  obtain ⟨ha0, rfl, rfl⟩ := trodAll_nil hA
  obtain rfl : args = #[] := by cases args; simp_all
  obtain ⟨rfl, rfl⟩ := trodVars_none hV
  clear hA0 hval0 hsz0
  refine (walk W).mono fun e W' ⟨he, bel⟩ => ?_
  subst he
  exact ⟨_, rfl, _, _, _, [], _, [], hW', trodAll_mk1 (shut_bool Try.underlying4 _), trodAll_mk0, rfl, bel.frame _, fun h => by cases h⟩

theorem over : Rows.busKnownRow.holds Try.pinned (OpenSpec.ofChange Rows.busKnownSpec) :=
  OpenClaim.holds_of_wide 6 Try.f6 rfl rfl rfl rfl rfl rfl rfl ⟨rfl, rfl, rfl, rfl, rfl⟩ rfl rfl rfl rfl rfl (by kernel_rfl) Try.func6 (by kernel_rfl)
    (of_decide_eq_true (by kernel_rfl)) (by unfold Func.isWrapper; first | (rw [if_pos (by decide +kernel)]; kernel_rfl) | (rw [if_neg (by decide +kernel)]; exact ⟨rfl, rfl⟩))
    (fun os started H enc _ => lifted os started H enc)

theorem proved : Rows.BusKnownSaid := over
#print axioms proved
end Go.Proofs.Ytomkgnlooheibaa.busKnown
