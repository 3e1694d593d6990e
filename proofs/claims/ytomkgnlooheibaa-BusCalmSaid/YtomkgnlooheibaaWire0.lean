/- frame.Wire: a row on the wire. Condition: at most 10^8 bits. -/
import Derived.Test.YtomkgnlooheibaaStuff
import Derived.Test.YtomkgnlooheibaaPut
import Derived.WalkLawsBesides
import Derived.WalkSpells
namespace Go.Proofs.Ytomkgnlooheibaa
open Go.RowKit Go.Bus Go.Bus.bitK Go.Bus.stuffK
set_option linter.unusedVariables false
namespace wireW
def wireF (l : List Bool) : List Bool := stuffF l ++ msb 1023 10

set_option maxRecDepth 100000 in
set_option maxHeartbeats 1000000 in
theorem wire_any (v : Value) (l : List Bool) (w : World) (h : Sl w w.heap.size Value.bool v l) (hlen : l.length ≤ 100000000) :
    Calls Try.prog 36 #[v] w (putK.Own w.heap.size w (wireF l)) := by
  have hbd := (run_bd l).2
  have HL := Lib.hid h; clear h
  go_enter Try.func36, Try.ntmps36
  go_wp2_with fail
  refine (stuffW.stuff_any _ l _ HL.out (by omega)).mono ?_
  rintro e w1 ⟨v1, rfl, hown1, hb1⟩
  have HO := Lib.hid hown1; clear hown1
  go_wp2_with fail
  refine (putK.put_any w.heap.size _ (stuffF l) _ 10 10 _ HO.out hb1.size rfl (by omega) (by omega) (by omega) (by have : (stuffF l).length ≤ 2 * l.length := hbd; omega)).mono ?_
  rintro e w2 ⟨v2, rfl, hown2, hb2⟩
  have HO2 := Lib.hid hown2; clear hown2
  go_wp2
  go_ret
  exact ⟨_, rfl, HO2.out, hb1.trans hb2⟩

end wireW
end Go.Proofs.Ytomkgnlooheibaa
