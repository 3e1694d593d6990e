/- The walk of FrameWires. Condition: at most 1048576 bits. -/
import Derived.Test.YthjjockimpndbaaDoorZApart
import Derived.Test.YthjjockimpndbaaDoorZKit
import Derived.Test.YthjjockimpndbaaDoorZWire0
import Derived.Test.YthjjockimpndbaaDoorZRefWire
namespace Go.Proofs.YthjjockimpndbaaDoor
open Go.RowKit Go.Bus Go.Bus.farmK
set_option linter.unusedVariables false
namespace frameWiresW
open lentK
theorem farm2 {w : World} {base mid : Nat} {e : TypeId} {va vb : Value} {xs ys : List Bool} (ha : w.ownsRow base e 1 va xs.length (xs.map Value.bool)) (hb : w.ownsRow mid e 1 vb ys.length (ys.map Value.bool)) (hm : base ≤ mid) (hlt : ∀ q, va.ownBlock = some q → q < mid) :
    Farm w base e Value.bool [(va, xs), (vb, ys)] := by
  refine Farm.snoc (R := [(va, xs)]) (Farm.snoc (R := []) ⟨fun i v z h => by simp at h, fun i j v z u y h => by simp at h⟩ ha (fun i u y q h => by simp at h)) (own_base hb hm) ?_
  intro i u y q hi hq he
  have h1 : u = va := by
    cases i with
    | zero => simp at hi; exact hi.1.symm
    | succ i => simp at hi
  subst h1
  have h2 := hlt q hq
  have h3 := (hb.lt q he).1
  omega

set_option maxRecDepth 100000 in
set_option maxHeartbeats 1000000 in
theorem walk (v : Value) (l : List Bool) (w : World) (h : Sl w w.heap.size Value.bool v l) (hlen : l.length ≤ 1048576) :
    Calls Tryd.prog 70 #[v] w fun e w' => e = .returned (.bool true) ∧ Below w.heap.size w w' := by
  have HS := Lib.hid h; clear h
  have HWP : Hid (0 < (wireW.wireF l).length) := by
    have h1 : (wireW.wireF l).length = _ := Go.Bus.decK.onF_length l
    unfold Hid; omega
  have HWL : Hid ((wireW.wireF l).length ≤ 1000000000) := by
    have h1 : (wireW.wireF l).length = _ := Go.Bus.decK.onF_length l
    have h2 := (Go.Bus.stuffK.run_bd l).2
    have h3 : (Go.Bus.stuffK.stuffF l).length ≤ 2 * l.length := h2
    unfold Hid; omega
  go_enter Tryd.func70, Tryd.ntmps70
  go_wp2_with fail
  refine (boolK.lent_any v l _ HS.out (by omega)).mono ?_
  rintro e w1 ⟨vx, rfl, hx, hb1⟩
  have HX1 := Lib.hid hx
  have HB1 := Lib.hid hb1
  clear hx hb1
  go_wp2_with fail
  refine (wireW.wire_any vx l w1 (sl_of HX1.out) (by omega)).mono ?_
  rintro e w2 ⟨va, rfl, ha2, hb2⟩
  obtain ⟨ga, ca, rfl, -, -⟩ := own_form ha2 HWP.out
  have HA2 := Lib.hid ha2
  have HX2 := Lib.hid (HX1.out.below hb2)
  have HZ2 := Lib.hid hb2.size
  have HB2 := Lib.hid (HB1.out.trans (hb2.mono HB1.out.size))
  clear ha2 hb2
  go_wp2_with fail
  refine (wireW.wire_any vx l w2 (sl_of HX2.out) (by omega)).mono ?_
  rintro e w3 ⟨vb, rfl, hb3, hbe3⟩
  obtain ⟨gb, cb, rfl, -, -⟩ := own_form hb3 HWP.out
  have HA3 := Lib.hid (own_kept HA2.out hbe3)
  have HV3 := Lib.hid hb3
  have HX3 := Lib.hid (HX2.out.below hbe3)
  have HZ3 := Lib.hid hbe3.size
  have HB3 := Lib.hid (HB2.out.trans (hbe3.mono HB2.out.size))
  have HLT := Lib.hid (fun q hq => (HA2.out.lt q hq).2)
  clear hb3 hbe3
  go_wp2_with fail
  refine (refW.rwire_any v l w3 (HS.out.at_below HB3.out) (by omega)).mono ?_
  rintro e w4 ⟨vw, rfl, hw4, hb4⟩
  have HA4 := Lib.hid (own_kept HA3.out hb4)
  have HV4 := Lib.hid (own_kept HV3.out hb4)
  have HX4 := Lib.hid (HX3.out.below hb4)
  have HW4 := Lib.hid hw4
  have HB4 := Lib.hid (HB3.out.trans (hb4.mono HB3.out.size))
  have HZ4 := Lib.hid hb4.size
  clear hw4 hb4
  go_wp2_with fail
  refine (sameW.bools_any _ vw (wireW.wireF l) (wireW.wireF l) w4 w4.heap.size (Sl.of_own HA4.out) (Sl.of_own HW4.out)).mono ?_
  rintro e w5 ⟨rfl, n5, rfl⟩
  rw [show decide (wireW.wireF l = wireW.wireF l) = true by simp]
  go_wp2_with fail
  refine (sameW.bools_any _ vw (wireW.wireF l) (wireW.wireF l) _ w4.heap.size (by exact Sl.of_own HV4.out) (by exact Sl.of_own HW4.out)).mono ?_
  rintro e w6 ⟨rfl, n6, rfl⟩
  rw [show decide (wireW.wireF l = wireW.wireF l) = true by simp]
  have HLX := Lib.hid (lent_lt HX1.out)
  go_wp2_with fail
  have hF : Farm w4 w1.heap.size 4 Value.bool [(.slice (some ⟨ga, 0, none⟩) (wireW.wireF l).length ca, wireW.wireF l), (.slice (some ⟨gb, 0, none⟩) (wireW.wireF l).length cb, wireW.wireF l)] := farm2 HA4.out HV4.out HZ2.out HLT.out
  refine (apartK.apart_any w4.heap.size w1.heap.size [(.slice (some ⟨ga, 0, none⟩) (wireW.wireF l).length ca, wireW.wireF l), (.slice (some ⟨gb, 0, none⟩) (wireW.wireF l).length cb, wireW.wireF l)] _ ?a1 ?a2 ?a3 ?a4 ?a5 ?a6).mono ?_
  case a1 => exact Has.new (w4.drewN _) _ _
  case a2 => exact hF.below (by exact (below_drewN (Below.refl _ w4) _).alloc (Nat.le_refl _) _)
  case a3 =>
    have h1 := HZ2.out
    have h2 := HZ3.out
    have h3 := HZ4.out
    simp
    omega
  case a4 => simp
  case a5 => simp
  case a6 =>
    intro p hp
    rcases List.mem_cons.1 hp with e | hp
    · rw [e]; exact HWL.out
    · rcases List.mem_cons.1 hp with e | hp
      · rw [e]; exact HWL.out
      · cases hp
  rintro e w7 ⟨rfl, hb7⟩
  have hz14 : w1.heap.size ≤ w4.heap.size := Nat.le_trans HZ2.out (Nat.le_trans HZ3.out HZ4.out)
  have hb47 : Below w1.heap.size w4 w7 := Below.trans (b := _) (by exact (below_drewN (Below.refl _ w4) _).alloc hz14 _) hb7
  have HX7 := Lib.hid (lent_below HX4.out hb47 HLX.out)
  have HB7 := Lib.hid (HB4.out.trans (hb47.mono HB1.out.size))
  clear hF hb7 hb47
  go_wp2_with fail
  refine (boolK.kept_yes vx v l w7 w7.heap.size w.heap.size HX7.out (HS.out.at_below HB7.out) (by omega)).mono ?_
  rintro e w8 ⟨rfl, n8, rfl⟩
  go_wp2
  go_ret
  exact ⟨rfl, below_drewN HB7.out _⟩
end frameWiresW
end Go.Proofs.YthjjockimpndbaaDoor
