/- The walk of FrameBits: a frame's bits and its row on the wire, twice each, are the document's; they lie apart; the frame stays. Conditions: contracts of the four functions at this frame, as hypotheses. -/
import Derived.Test.YthjjockimpndbaaDoorZApart
import Derived.Test.YthjjockimpndbaaDoorZRefEnc
import Derived.Test.YthjjockimpndbaaDoorZWire
import Derived.Test.YthjjockimpndbaaDoorZFrameArg
import Derived.Test.YthjjockimpndbaaDoorZKit
import Derived.Test.YthjjockimpndbaaDoorZPlain
namespace Go.Proofs.YthjjockimpndbaaDoor.frameBitsW
open Go.RowKit Go.Bus Go.Bus.farmK Go.Bus.bitK Go.Proofs.YthjjockimpndbaaDoor.lentK
set_option linter.unusedVariables false
theorem refQ_form {w : World} {base : Nat} {e : TypeId} {size n : Nat} {v : Value} {xs : List Value} (h : w.ownsRow base e size v n xs) : ∃ A c, v = .slice A n c := by
  rcases h.2 with ⟨rfl, rfl⟩ | ⟨g, cap, cur, rfl, _⟩
  · exact ⟨_, _, rfl⟩
  · exact ⟨_, _, rfl⟩
/-- A row of the call's own, and an error value beside it. -/
def Ans (W : World) (X : List Bool) (E : Value) (e : Ending) (w' : World) : Prop :=
  ∃ v, e = .returned (.tuple #[v, E]) ∧ w'.ownsRow W.heap.size 4 1 v X.length (X.map Value.bool) ∧ Below W.heap.size W w'
theorem farm_more {w : World} {base mid : Nat} {e : TypeId} {v : Value} {z : List Bool} {R : List (Value × List Bool)} (h : Farm w base e Value.bool R) (ho : w.ownsRow mid e 1 v z.length (z.map Value.bool)) (hm : base ≤ mid) (hlt : ∀ p ∈ R, ∀ q, p.1.ownBlock = some q → q < mid) :
    Farm w base e Value.bool (R ++ [(v, z)]) :=
  h.snoc (own_base ho hm) fun i u y q hi hq he => by
    have h2 := hlt (u, y) (List.mem_of_getElem? hi) q hq
    have h3 := (ho.lt q he).1
    omega
theorem farm4 {w : World} {base m1 m2 m3 : Nat} {e : TypeId} {v0 v1 v2 v3 : Value} {X Y : List Bool} (h0 : w.ownsRow base e 1 v0 X.length (X.map Value.bool)) (h1 : w.ownsRow m1 e 1 v1 Y.length (Y.map Value.bool)) (h2 : w.ownsRow m2 e 1 v2 X.length (X.map Value.bool)) (h3 : w.ownsRow m3 e 1 v3 Y.length (Y.map Value.bool))
    (b1 : base ≤ m1) (b2 : m1 ≤ m2) (b3 : m2 ≤ m3) (l0 : ∀ q, v0.ownBlock = some q → q < m1) (l1 : ∀ q, v1.ownBlock = some q → q < m2) (l2 : ∀ q, v2.ownBlock = some q → q < m3) : Farm w base e Value.bool [(v0, X), (v1, Y), (v2, X), (v3, Y)] := by
  refine farm_more (R := [(v0, X), (v1, Y), (v2, X)]) (farm_more (R := [(v0, X), (v1, Y)]) (farm_more (R := [(v0, X)]) (farm_more (R := []) ⟨fun i v z h => by simp at h, fun i j v z u y h => by simp at h⟩ h0 (Nat.le_refl _) (fun p hp => by cases hp)) h1 b1 ?_) h2 (by omega) ?_) h3 (by omega) ?_
  · intro p hp q hq
    simp at hp; subst hp; exact l0 q hq
  · intro p hp q hq
    simp at hp
    rcases hp with rfl | rfl
    · have := l0 q hq; omega
    · exact l1 q hq
  · intro p hp q hq
    simp at hp
    rcases hp with rfl | rfl | rfl
    · have := l0 q hq; omega
    · have := l1 q hq; omega
    · exact l2 q hq

set_option maxRecDepth 100000 in
set_option maxHeartbeats 4000000 in
theorem walk (id : Int) (wide : Bool) (sv : Value) (l : List Int) (w : World) (hs : Sl w w.heap.size (Value.int .u8) sv l) (hlen : l.length ≤ 140737488351232) (hG : asK.ErrT w) (X Y : List Bool) (E : Value) (no : Int) (hX : X.length ≤ 1000) (hY : Y.length ≤ 1000)
    (hB : ∀ W v, Sl W W.heap.size (Value.int .u8) v l → Calls Tryd.prog 17 #[.agg #[.int .u32 id, .bool wide, v]] W (Ans W X E))
    (hE : ∀ W v, Sl W W.heap.size (Value.int .u8) v l → Calls Tryd.prog 18 #[.agg #[.int .u32 id, .bool wide, v]] W (Ans W Y E))
    (hRB : ∀ W v, Sl W W.heap.size (Value.int .u8) v l → Calls Tryd.prog 19 #[.agg #[.int .u32 id, .bool wide, v]] W (Ans W X (.int .i64 no)))
    (hRE : ∀ W v, Sl W W.heap.size (Value.int .u8) v l → Calls Tryd.prog 20 #[.agg #[.int .u32 id, .bool wide, v]] W (Ans W Y (.int .i64 no)))
    (hP : ∀ W, asK.ErrT W → Calls Tryd.prog 9 #[E, .int .i64 no] W fun e w' => e = .returned (.bool true) ∧ Below W.heap.size W w') :
    Calls Tryd.prog 4 #[.agg #[.int .u32 id, .bool wide, sv]] w fun e w' => e = .returned (.bool true) ∧ Below w.heap.size w w' := by
  obtain ⟨A, cap, rfl, hcap, hmax⟩ := hs.form
  have HS := Lib.hid hs; clear hs
  have HG := Lib.hid hG; clear hG
  have HB := Lib.hid hB; clear hB
  have HE := Lib.hid hE; clear hE
  have HRB := Lib.hid hRB; clear hRB
  have HRE := Lib.hid hRE; clear hRE
  have HP := Lib.hid hP; clear hP
  go_enter Tryd.func4, Tryd.ntmps4
  go_wp2_with fail
  refine (frameA.lentframe_any id wide _ l _ (HS.out.at_below (by repeat (first | exact Below.refl _ _ | assumption | refine Below.drew ?_ | refine below_drewN ?_ _ | (refine Below.alloc ?_ (by (try simp); (try omega)) _) | (refine Below.setCell ?_ (by (try simp); (try omega)) _)))) hlen).mono ?_
  rintro e w1 hw1
  obtain ⟨vx, rfl, hx, hb1⟩ := hw1
  have hx9 := hx
  obtain ⟨gx, cx, rfl, -, -⟩ := hx9
  have HB1 := Lib.hid (Below.trans (b := _) ((by repeat (first | exact Below.refl _ _ | assumption | refine Below.drew ?_ | refine below_drewN ?_ _ | (refine Below.alloc ?_ (by (try simp); (try omega)) _) | (refine Below.setCell ?_ (by (try simp); (try omega)) _))) : Below w.heap.size w _) (hb1.mono (by (try simp); (try omega))))
  have hbox1 : Has w1 w.heap.size 46 #[.int .u32 id, .bool wide, .slice A l.length cap] := (Has.new w _ _).below hb1 (by simp)
  have hlt1 := hbox1.lt
  have HF0 := Lib.hid (hbox1.alloc (.cells #[.int .u32 id, .bool wide, .slice (some ⟨gx, 0, none⟩) l.length cx] 46))
  have HX0 := Lib.hid (lent_below hx ((Below.refl _ w1).alloc (Nat.le_refl _) (.cells #[.int .u32 id, .bool wide, .slice (some ⟨gx, 0, none⟩) l.length cx] 46)) (lent_lt hx))
  have HLX := Lib.hid (lent_lt hx)
  have HG0 := Lib.hid (Has.new w1 46 #[.int .u32 id, .bool wide, .slice (some ⟨gx, 0, none⟩) l.length cx])
  have HW0 := Lib.hid (HB1.out.alloc HB1.out.size (.cells #[.int .u32 id, .bool wide, .slice (some ⟨gx, 0, none⟩) l.length cx] 46))
  obtain ⟨W0, hW0⟩ : ∃ W0, W0 = w1.alloc (.cells #[.int .u32 id, .bool wide, .slice (some ⟨gx, 0, none⟩) l.length cx] 46) := ⟨_, rfl⟩
  have hz0 : W0.heap.size = w1.heap.size + 1 := by rw [hW0]; simp
  have HZ0 := Lib.hid hz0
  have HW := Lib.hid hW0
  rw [← hW0] at HF0 HX0 HG0 HW0
  clear hx hb1 hbox1 hW0 hz0
  go_wp2_with fail
  rw [← HW.out]
  refine (HB.out _ _ (sl_of HX0.out)).mono ?_
  rintro e W1 hw
  obtain ⟨va, rfl, ho, hb⟩ := hw
  obtain ⟨ga, ka, rfl⟩ := refQ_form ho
  have HOa1 := Lib.hid ho
  have HLa := Lib.hid (fun q hq => (ho.lt q hq).2)
  have HZ1 := Lib.hid hb.size
  have HF1 := Lib.hid (HF0.out.below hb HF0.out.lt)
  have HG1 := Lib.hid (HG0.out.below hb HG0.out.lt)
  have HX1 := Lib.hid (HX0.out.below hb)
  have HW1 := Lib.hid (HW0.out.trans (hb.mono HW0.out.size))
  clear ho hb
  have c0 := HG1.out.cell 0
  have c1 := HG1.out.cell 1
  have c2 := HG1.out.cell 2
  simp only [List.getElem?_toArray, List.getElem?_cons_zero, List.getElem?_cons_succ] at c0 c1 c2
  go_wp2_with fail
  clear c0 c1 c2
  refine (HE.out _ _ (sl_of HX1.out)).mono ?_
  rintro e W2 hw
  obtain ⟨vb, rfl, ho, hb⟩ := hw
  obtain ⟨gb, kb, rfl⟩ := refQ_form ho
  have HOa2 := Lib.hid (own_kept HOa1.out hb)
  have HOb2 := Lib.hid ho
  have HLb := Lib.hid (fun q hq => (ho.lt q hq).2)
  have HZ2 := Lib.hid hb.size
  have HF2 := Lib.hid (HF1.out.below hb HF1.out.lt)
  have HG2 := Lib.hid (HG1.out.below hb HG1.out.lt)
  have HX2 := Lib.hid (HX1.out.below hb)
  have HW2 := Lib.hid (HW1.out.trans (hb.mono HW1.out.size))
  clear ho hb
  have c0 := HG2.out.cell 0
  have c1 := HG2.out.cell 1
  have c2 := HG2.out.cell 2
  simp only [List.getElem?_toArray, List.getElem?_cons_zero, List.getElem?_cons_succ] at c0 c1 c2
  go_wp2_with fail
  clear c0 c1 c2
  refine (HB.out _ _ (sl_of HX2.out)).mono ?_
  rintro e W3 hw
  obtain ⟨vc, rfl, ho, hb⟩ := hw
  obtain ⟨gc, kc, rfl⟩ := refQ_form ho
  have HOa3 := Lib.hid (own_kept HOa2.out hb)
  have HOb3 := Lib.hid (own_kept HOb2.out hb)
  have HOc3 := Lib.hid ho
  have HLc := Lib.hid (fun q hq => (ho.lt q hq).2)
  have HZ3 := Lib.hid hb.size
  have HF3 := Lib.hid (HF2.out.below hb HF2.out.lt)
  have HG3 := Lib.hid (HG2.out.below hb HG2.out.lt)
  have HX3 := Lib.hid (HX2.out.below hb)
  have HW3 := Lib.hid (HW2.out.trans (hb.mono HW2.out.size))
  clear ho hb
  have c0 := HG3.out.cell 0
  have c1 := HG3.out.cell 1
  have c2 := HG3.out.cell 2
  simp only [List.getElem?_toArray, List.getElem?_cons_zero, List.getElem?_cons_succ] at c0 c1 c2
  go_wp2_with fail
  clear c0 c1 c2
  refine (HE.out _ _ (sl_of HX3.out)).mono ?_
  rintro e W4 hw
  obtain ⟨vd, rfl, ho, hb⟩ := hw
  obtain ⟨gd, kd, rfl⟩ := refQ_form ho
  have HOa4 := Lib.hid (own_kept HOa3.out hb)
  have HOb4 := Lib.hid (own_kept HOb3.out hb)
  have HOc4 := Lib.hid (own_kept HOc3.out hb)
  have HOd4 := Lib.hid ho
  have HLd := Lib.hid (fun q hq => (ho.lt q hq).2)
  have HZ4 := Lib.hid hb.size
  have HF4 := Lib.hid (HF3.out.below hb HF3.out.lt)
  have HG4 := Lib.hid (HG3.out.below hb HG3.out.lt)
  have HX4 := Lib.hid (HX3.out.below hb)
  have HW4 := Lib.hid (HW3.out.trans (hb.mono HW3.out.size))
  clear ho hb
  have c0 := HF4.out.cell 0
  have c1 := HF4.out.cell 1
  have c2 := HF4.out.cell 2
  simp only [List.getElem?_toArray, List.getElem?_cons_zero, List.getElem?_cons_succ] at c0 c1 c2
  go_wp2_with fail
  clear c0 c1 c2
  refine (HRB.out _ _ (HS.out.at_below HW4.out)).mono ?_
  rintro e W5 hw
  obtain ⟨vl, rfl, ho, hb⟩ := hw
  have HOa5 := Lib.hid (own_kept HOa4.out hb)
  have HOb5 := Lib.hid (own_kept HOb4.out hb)
  have HOc5 := Lib.hid (own_kept HOc4.out hb)
  have HOd5 := Lib.hid (own_kept HOd4.out hb)
  have HOl5 := Lib.hid ho
  have HZ5 := Lib.hid hb.size
  have HF5 := Lib.hid (HF4.out.below hb HF4.out.lt)
  have HG5 := Lib.hid (HG4.out.below hb HG4.out.lt)
  have HX5 := Lib.hid (HX4.out.below hb)
  have HW5 := Lib.hid (HW4.out.trans (hb.mono HW4.out.size))
  clear ho hb
  have c0 := HF5.out.cell 0
  have c1 := HF5.out.cell 1
  have c2 := HF5.out.cell 2
  simp only [List.getElem?_toArray, List.getElem?_cons_zero, List.getElem?_cons_succ] at c0 c1 c2
  go_wp2_with fail
  clear c0 c1 c2
  refine (HRE.out _ _ (HS.out.at_below HW5.out)).mono ?_
  rintro e W6 hw
  obtain ⟨vm, rfl, ho, hb⟩ := hw
  have HOa6 := Lib.hid (own_kept HOa5.out hb)
  have HOb6 := Lib.hid (own_kept HOb5.out hb)
  have HOc6 := Lib.hid (own_kept HOc5.out hb)
  have HOd6 := Lib.hid (own_kept HOd5.out hb)
  have HOl6 := Lib.hid (own_kept HOl5.out hb)
  have HOm6 := Lib.hid ho
  have HZ6 := Lib.hid hb.size
  have HF6 := Lib.hid (HF5.out.below hb HF5.out.lt)
  have HG6 := Lib.hid (HG5.out.below hb HG5.out.lt)
  have HX6 := Lib.hid (HX5.out.below hb)
  have HW6 := Lib.hid (HW5.out.trans (hb.mono HW5.out.size))
  clear ho hb
  go_wp2_with fail
  refine (HP.out _ (HG.out.at_below HW6.out)).mono ?_
  rintro e W7 ⟨rfl, hb⟩
  have HOa7 := Lib.hid (own_kept HOa6.out hb)
  have HOb7 := Lib.hid (own_kept HOb6.out hb)
  have HOc7 := Lib.hid (own_kept HOc6.out hb)
  have HOd7 := Lib.hid (own_kept HOd6.out hb)
  have HOl7 := Lib.hid (own_kept HOl6.out hb)
  have HOm7 := Lib.hid (own_kept HOm6.out hb)
  have HZ7 := Lib.hid hb.size
  have HF7 := Lib.hid (HF6.out.below hb HF6.out.lt)
  have HG7 := Lib.hid (HG6.out.below hb HG6.out.lt)
  have HX7 := Lib.hid (HX6.out.below hb)
  have HW7 := Lib.hid (HW6.out.trans (hb.mono HW6.out.size))
  clear hb
  go_wp2_with fail
  refine (HP.out _ (HG.out.at_below HW7.out)).mono ?_
  rintro e W8 ⟨rfl, hb⟩
  have HOa8 := Lib.hid (own_kept HOa7.out hb)
  have HOb8 := Lib.hid (own_kept HOb7.out hb)
  have HOc8 := Lib.hid (own_kept HOc7.out hb)
  have HOd8 := Lib.hid (own_kept HOd7.out hb)
  have HOl8 := Lib.hid (own_kept HOl7.out hb)
  have HOm8 := Lib.hid (own_kept HOm7.out hb)
  have HZ8 := Lib.hid hb.size
  have HF8 := Lib.hid (HF7.out.below hb HF7.out.lt)
  have HG8 := Lib.hid (HG7.out.below hb HG7.out.lt)
  have HX8 := Lib.hid (HX7.out.below hb)
  have HW8 := Lib.hid (HW7.out.trans (hb.mono HW7.out.size))
  clear hb
  go_wp2_with fail
  refine (HP.out _ (HG.out.at_below HW8.out)).mono ?_
  rintro e W9 ⟨rfl, hb⟩
  have HOa9 := Lib.hid (own_kept HOa8.out hb)
  have HOb9 := Lib.hid (own_kept HOb8.out hb)
  have HOc9 := Lib.hid (own_kept HOc8.out hb)
  have HOd9 := Lib.hid (own_kept HOd8.out hb)
  have HOl9 := Lib.hid (own_kept HOl8.out hb)
  have HOm9 := Lib.hid (own_kept HOm8.out hb)
  have HZ9 := Lib.hid hb.size
  have HF9 := Lib.hid (HF8.out.below hb HF8.out.lt)
  have HG9 := Lib.hid (HG8.out.below hb HG8.out.lt)
  have HX9 := Lib.hid (HX8.out.below hb)
  have HW9 := Lib.hid (HW8.out.trans (hb.mono HW8.out.size))
  clear hb
  go_wp2_with fail
  refine (HP.out _ (HG.out.at_below HW9.out)).mono ?_
  rintro e W10 ⟨rfl, hb⟩
  have HOa10 := Lib.hid (own_kept HOa9.out hb)
  have HOb10 := Lib.hid (own_kept HOb9.out hb)
  have HOc10 := Lib.hid (own_kept HOc9.out hb)
  have HOd10 := Lib.hid (own_kept HOd9.out hb)
  have HOl10 := Lib.hid (own_kept HOl9.out hb)
  have HOm10 := Lib.hid (own_kept HOm9.out hb)
  have HZ10 := Lib.hid hb.size
  have HF10 := Lib.hid (HF9.out.below hb HF9.out.lt)
  have HG10 := Lib.hid (HG9.out.below hb HG9.out.lt)
  have HX10 := Lib.hid (HX9.out.below hb)
  have HW10 := Lib.hid (HW9.out.trans (hb.mono HW9.out.size))
  clear hb
  go_wp2_with fail
  refine (sameW.bools_any _ _ X X _ W10.heap.size (by exact Sl.of_own HOa10.out) (by exact Sl.of_own HOl10.out)).mono ?_
  rintro e w20 ⟨rfl, n0, rfl⟩
  rw [show decide (X = X) = true by simp]
  go_wp2_with fail
  refine (sameW.bools_any _ _ Y Y _ W10.heap.size (by exact Sl.of_own HOb10.out) (by exact Sl.of_own HOm10.out)).mono ?_
  rintro e w21 ⟨rfl, n1, rfl⟩
  rw [show decide (Y = Y) = true by simp]
  go_wp2_with fail
  refine (sameW.bools_any _ _ X X _ W10.heap.size (by exact Sl.of_own HOc10.out) (by exact Sl.of_own HOl10.out)).mono ?_
  rintro e w22 ⟨rfl, n2, rfl⟩
  rw [show decide (X = X) = true by simp]
  go_wp2_with fail
  refine (sameW.bools_any _ _ Y Y _ W10.heap.size (by exact Sl.of_own HOd10.out) (by exact Sl.of_own HOm10.out)).mono ?_
  rintro e w23 ⟨rfl, n3, rfl⟩
  rw [show decide (Y = Y) = true by simp]
  have hzz : W0.heap.size ≤ W10.heap.size := by
    have := HZ1.out; have := HZ2.out; have := HZ3.out; have := HZ4.out; have := HZ5.out; have := HZ6.out; have := HZ7.out; have := HZ8.out; have := HZ9.out; have := HZ10.out
    omega
  have HFA := Lib.hid (farm4 HOa10.out HOb10.out HOc10.out HOd10.out HZ1.out HZ2.out HZ3.out HLa.out HLb.out HLc.out)
  go_wp2_with fail
  refine (apartK.apart_any W10.heap.size W0.heap.size [(.slice ga X.length ka, X), (.slice gb Y.length kb, Y), (.slice gc X.length kc, X), (.slice gd Y.length kd, Y)] _ ?a1 ?a2 ?a3 ?a4 ?a5 ?a6).mono ?_
  case a1 => exact Has.new (W10.drewN _) _ _
  case a2 => exact HFA.out.below (by exact (below_drewN (Below.refl _ W10) _).alloc (Nat.le_refl _) _)
  case a3 => simp; omega
  case a4 => simp
  case a5 => simp
  case a6 =>
    intro p hp
    simp at hp
    rcases hp with rfl | rfl | rfl | rfl
    · exact Nat.le_trans hX (by omega)
    · exact Nat.le_trans hY (by omega)
    · exact Nat.le_trans hX (by omega)
    · exact Nat.le_trans hY (by omega)
  rintro e w30 ⟨rfl, hb⟩
  have hb3 : Below W0.heap.size W10 w30 := Below.trans (b := _) (by exact (below_drewN (Below.refl _ W10) _).alloc hzz _) hb
  have hzw := HZ0.out
  have hF30 := HF10.out.below hb3 (by omega)
  have hG30 := HG10.out.below hb3 (by omega)
  have HX30 := Lib.hid (lent_below HX10.out hb3 (fun q hq => by have := HLX.out q hq; omega))
  have HW30 := Lib.hid (HW10.out.trans (hb3.mono HW0.out.size))
  have c0 := hF30.cell 0
  have c1 := hF30.cell 1
  have c2 := hF30.cell 2
  have f0 := hG30.cell 0
  have f1 := hG30.cell 1
  have f2 := hG30.cell 2
  simp only [List.getElem?_toArray, List.getElem?_cons_zero, List.getElem?_cons_succ] at c0 c1 c2 f0 f1 f2
  clear hb hb3 hF30 hG30
  go_wp2_with fail
  refine (frameA.keptframe_yes id wide _ _ l _ _ HX30.out (HS.out.at_below HW30.out) hlen).mono ?_
  rintro e w31 ⟨rfl, hb⟩
  have HW31 := Lib.hid (HW30.out.trans (hb.mono HW30.out.size))
  clear hb
  go_wp2
  go_ret
  exact ⟨rfl, HW31.out⟩
end Go.Proofs.YthjjockimpndbaaDoor.frameBitsW
