/- frame.Wire, frame.Encode: a row and a frame on the wire. -/
import Derived.Test.YtibegijfaeehnaaStuff
import Derived.Test.YtibegijfaeehnaaBits
import Derived.WalkLawsBesides
import Derived.WalkSpells
namespace Go.Proofs.Ytibegijfaeehnaa
open Go.RowKit Go.Bus Go.Bus.bitK Go.Bus.stuffK
set_option linter.unusedVariables false
namespace wireW
def wireF (l : List Bool) : List Bool := stuffF l ++ msb 1023 10

set_option maxRecDepth 100000 in
set_option maxHeartbeats 1000000 in
theorem wire_any (v : Value) (l : List Bool) (w : World) (h : Sl w w.heap.size Value.bool v l) (hlen : l.length ≤ 100000000) :
    Calls Try.prog 22 #[v] w (putK.Own w.heap.size w (wireF l)) := by
  have hbd := (run_bd l).2
  have HL := Lib.hid h; clear h
  go_enter Try.func22, Try.ntmps22
  go_wp2_with fail
  refine (stuffW.stuff_any _ l _ HL.out (by omega)).mono ?_
  rintro e w1 ⟨v1, rfl, hown1, hb1⟩
  have HO := Lib.hid hown1; clear hown1
  go_wp2_with fail
  refine (putK.put_any w.heap.size _ (stuffF l) _ 10 10 _ HO.out hb1.size rfl (by omega) (by omega) (by omega) (by have : (stuffF l).length ≤ 2 * l.length := hbd; omega)).mono ?_
  rintro e w2 ⟨v2, rfl, hown2, hb2⟩
  have HO2 := Lib.hid hown2; clear hown2
  go_wp2
  go_ret
  exact ⟨_, rfl, HO2.out, hb1.trans hb2⟩

set_option maxRecDepth 100000 in
set_option maxHeartbeats 1000000 in
theorem encode_ok (id : Int) (wide : Bool) (sv : Value) (l : List Int) (w : World) (hs : Sl w w.heap.size (Value.int .u8) sv l) (h0 : 0 ≤ id) (h : id ≤ 536870911) (h' : wide = false → id ≤ 2047) (hn : l.length ≤ 8) (hb : ∀ x ∈ l, 0 ≤ x ∧ x < 256) :
    Calls Try.prog 17 #[.agg #[.int .u32 id, .bool wide, sv]] w (bitsW.OwnBits w (wireF (bitsF id wide l))) := by
  obtain ⟨A, cap, rfl, hcap, hmax⟩ := hs.form
  have hbl := bitsF_length id wide l
  have HS := Lib.hid hs; clear hs
  have H' := Lib.hid h'; clear h'
  have HB := Lib.hid hb; clear hb
  have HBL : Hid ((bitsF id wide l).length ≤ 118) := by unfold Hid; rw [hbl]; split <;> omega
  clear hbl
  go_enter Try.func17, Try.ntmps17
  go_wp2_with fail
  refine (bitsW.bits_ok id wide _ l _ (HS.out.at_below (by repeat (first | exact Below.refl _ _ | assumption | refine Below.drew ?_ | refine below_drewN ?_ _ | (refine Below.alloc ?_ (by (try simp); (try omega)) _) | (refine Below.setCell ?_ (by (try simp); (try omega)) _)))) h0 h H'.out hn HB.out).mono ?_
  rintro e w1 ⟨v1, rfl, hown1, hb_w1⟩
  have HO := Lib.hid hown1; clear hown1
  have hB1 : Below w.heap.size w w1 := Below.trans (b := _) (by repeat (first | exact Below.refl _ _ | assumption | refine Below.drew ?_ | refine below_drewN ?_ _ | (refine Below.alloc ?_ (by (try simp); (try omega)) _) | (refine Below.setCell ?_ (by (try simp); (try omega)) _))) (hb_w1.mono (by (try simp); (try omega)))
  go_wp2_with fail
  refine (wire_any _ (bitsF id wide l) _ (Sl.of_own HO.out) (by have := HBL.out; omega)).mono ?_
  rintro e w2 ⟨v2, rfl, hown2, hb2⟩
  have HO2 := Lib.hid hown2; clear hown2
  go_wp2
  go_ret2
  exact ⟨_, rfl, own_base HO2.out hB1.size, hB1.trans (hb2.mono hB1.size)⟩
end wireW
end Go.Proofs.Ytibegijfaeehnaa
