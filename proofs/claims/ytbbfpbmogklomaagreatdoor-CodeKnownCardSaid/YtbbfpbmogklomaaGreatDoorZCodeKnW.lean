/- busbarlaw12.CodeKnown. Conditions: the library's tables and some of its errors are laid, variables of the library's hold some ints. -/
import Derived.Test.YtbbfpbmogklomaaGreatDoorZCodeKs
import Derived.Test.YtbbfpbmogklomaaGreatDoorZCodeKf
import Derived.Test.YtbbfpbmogklomaaGreatDoorZCodeKc
import Derived.Test.YtbbfpbmogklomaaGreatDoorZCodeKl
import Derived.Test.YtbbfpbmogklomaaGreatDoorZCodeKm
namespace Go.Proofs.YtbbfpbmogklomaaGreatDoor
open Go.RowKit Go.Bus Go.Bus.cellK Go.Bus.codeK
set_option linter.unusedVariables false
set_option linter.unusedSimpArgs false
namespace codeW
theorem known_any (w : World) (hT : Tabs w) (hS : Sp w) (hM : Mx w) (hE : Errs w) (hG : asK.ErrT w) : Calls Tryz.prog 3 #[] w fun e w' => e = .returned (.bool true) ∧ Below w.heap.size w w' := by
  have H1 := Lib.hid (knownsaid_any w hT hS)
  have H2 : Hid (∀ W, Below w.heap.size w W → Calls Tryz.prog 5 #[] W fun e w' => e = .returned (.bool true) ∧ Below W.heap.size W w') := Lib.hid (fun W hw => knownfields_any W (hG.at_below hw) (hT.at_below hw) (hS.at_below hw) (hM.at_below hw))
  have H3 : Hid (∀ W, Below w.heap.size w W → Calls Tryz.prog 6 #[] W fun e w' => e = .returned (.bool true) ∧ Below W.heap.size W w') := Lib.hid (fun W hw => knownbytes_any W (hG.at_below hw))
  have H4 : Hid (∀ W, Below w.heap.size w W → Calls Tryz.prog 7 #[] W fun e w' => e = .returned (.bool true) ∧ Below W.heap.size W w') := Lib.hid (fun W hw => knownlines_any W (hT.at_below hw) (hS.at_below hw) (hM.at_below hw) (hE.at_below hw) (hG.at_below hw))
  have H5 : Hid (∀ W, Below w.heap.size w W → Calls Tryz.prog 8 #[] W fun e w' => e = .returned (.bool true) ∧ Below W.heap.size W w') := Lib.hid (fun W hw => knowngreat_any W (hG.at_below hw))
  clear hT hS hM hE hG
  go_enter Tryz.func3, Tryz.ntmps3
  go_wp2_with fail
  refine H1.out.mono ?_
  rintro e w1 ⟨rfl, hb1⟩
  have HB1 := Lib.hid hb1
  clear hb1
  go_wp2_with fail
  refine (H2.out w1 HB1.out).mono ?_
  rintro e w2 ⟨rfl, hb⟩
  have HB2 := Lib.hid (HB1.out.trans (hb.mono HB1.out.size))
  clear hb
  go_wp2_with fail
  refine (H3.out w2 HB2.out).mono ?_
  rintro e w3 ⟨rfl, hb⟩
  have HB3 := Lib.hid (HB2.out.trans (hb.mono HB2.out.size))
  clear hb
  go_wp2_with fail
  refine (H4.out w3 HB3.out).mono ?_
  rintro e w4 ⟨rfl, hb⟩
  have HB4 := Lib.hid (HB3.out.trans (hb.mono HB3.out.size))
  clear hb
  go_wp2_with fail
  refine (H5.out w4 HB4.out).mono ?_
  rintro e w5 ⟨rfl, hb⟩
  have HB5 := Lib.hid (HB4.out.trans (hb.mono HB4.out.size))
  clear hb
  go_wp2
  go_ret
  exact ⟨rfl, HB5.out⟩
end codeW
end Go.Proofs.YtbbfpbmogklomaaGreatDoor
