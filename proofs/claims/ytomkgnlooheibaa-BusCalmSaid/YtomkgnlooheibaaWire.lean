/- frame.Encode: a frame on the wire. -/
import Derived.Test.YtomkgnlooheibaaWire0
import Derived.Test.YtomkgnlooheibaaBits
import Derived.WalkLawsBesides
import Derived.WalkSpells
namespace Go.Proofs.Ytomkgnlooheibaa
open Go.RowKit Go.Bus Go.Bus.bitK Go.Bus.stuffK
set_option linter.unusedVariables false
namespace wireW
set_option maxRecDepth 100000 in
set_option maxHeartbeats 1000000 in
theorem encode_ok (id : Int) (wide : Bool) (sv : Value) (l : List Int) (w : World) (hs : Sl w w.heap.size (Value.int .u8) sv l) (h0 : 0 ≤ id) (h : id ≤ 536870911) (h' : wide = false → id ≤ 2047) (hn : l.length ≤ 8) (hb : ∀ x ∈ l, 0 ≤ x ∧ x < 256) :
    Calls Try.prog 17 #[.agg #[.int .u32 id, .bool wide, sv]] w (bitsW.OwnBits w (wireF (bitsF id wide l))) := by
  obtain ⟨A, cap, rfl, hcap, hmax⟩ := hs.form
  have hbl := bitsF_length id wide l
  have HS := Lib.hid hs; clear hs
  have H' := Lib.hid h'; clear h'
  have HB := Lib.hid hb; clear hb
  have HBL : Hid ((bitsF id wide l).length ≤ 118) := by unfold Hid; rw [hbl]; split <;> omega
  clear hbl
  go_enter Try.func17, Try.ntmps17
  go_wp2_with fail
  refine (bitsW.bits_ok id wide _ l _ (HS.out.at_below (by repeat' (first | (with_reducible assumption) | (with_reducible refine Below.setCell ?_ ?_ _) | (with_reducible refine Below.alloc ?_ ?_ _) | (with_reducible refine Below.drew ?_) | (with_reducible refine below_drewN ?_ _) | (with_reducible exact Below.refl _ _) | (show _ ≤ _; (try simp); (try omega); done) | exact Below.refl _ _ | assumption))) h0 h H'.out hn HB.out).mono ?_
  rintro e w1 ⟨v1, rfl, hown1, hb_w1⟩
  have HO := Lib.hid hown1; clear hown1
  have hB1 : Below w.heap.size w w1 := Below.trans (b := _) (by repeat' (first | (with_reducible assumption) | (with_reducible refine Below.setCell ?_ ?_ _) | (with_reducible refine Below.alloc ?_ ?_ _) | (with_reducible refine Below.drew ?_) | (with_reducible refine below_drewN ?_ _) | (with_reducible exact Below.refl _ _) | (show _ ≤ _; (try simp); (try omega); done) | exact Below.refl _ _ | assumption)) (hb_w1.mono (by (try simp); (try omega)))
  go_wp2_with fail
  refine (wire_any _ (bitsF id wide l) _ (Sl.of_own HO.out) (by have := HBL.out; omega)).mono ?_
  rintro e w2 ⟨v2, rfl, hown2, hb2⟩
  have HO2 := Lib.hid hown2; clear hown2
  go_wp2
  go_ret2
  exact ⟨_, rfl, own_base HO2.out hB1.size, hB1.trans (hb2.mono hB1.size)⟩
end wireW
end Go.Proofs.Ytomkgnlooheibaa
