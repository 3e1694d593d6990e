/- The walk of FrameKnown: its four parts, one behind the other. Condition: errors.errorType is laid. -/
import Derived.Test.YthjjockimpndbaaDoorZKnownA
import Derived.Test.YthjjockimpndbaaDoorZKnownB
import Derived.Test.YthjjockimpndbaaDoorZKnownC
namespace Go.Proofs.YthjjockimpndbaaDoor.frameKnownW
open Go.RowKit Go.Bus
set_option linter.unusedVariables false
set_option maxRecDepth 100000 in
set_option maxHeartbeats 1000000 in
theorem walk (w : World) (hG : asK.ErrT w) : Calls Tryd.prog 6 #[] w fun e w' => e = .returned (.bool true) ∧ Below w.heap.size w w' := by
  have HG := Lib.hid hG; clear hG
  go_enter Tryd.func6, Tryd.ntmps6
  go_wp2_with fail
  refine (said _).mono ?_
  rintro e w1 ⟨rfl, hb⟩
  have HB1 := Lib.hid hb
  clear hb
  go_wp2_with fail
  refine (frames _ (HG.out.at_below HB1.out)).mono ?_
  rintro e w2 ⟨rfl, hb⟩
  have HB2 := Lib.hid (HB1.out.trans (hb.mono HB1.out.size))
  clear hb
  go_wp2_with fail
  refine (wrong _ (HG.out.at_below HB2.out)).mono ?_
  rintro e w3 ⟨rfl, hb⟩
  have HB3 := Lib.hid (HB2.out.trans (hb.mono HB2.out.size))
  clear hb
  go_wp2_with fail
  refine (turned _).mono ?_
  rintro e w4 ⟨rfl, hb⟩
  have HB4 := Lib.hid (HB3.out.trans (hb.mono HB3.out.size))
  clear hb
  go_wp2
  go_ret
  exact ⟨rfl, HB4.out⟩
end Go.Proofs.YthjjockimpndbaaDoor.frameKnownW
