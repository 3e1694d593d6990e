/- What the statements of raw ask first. Condition: the table of powers of ten is laid. -/
import Derived.Test.YtfigkgpolpggcaaDoorRawText
import Derived.Test.YtfigkgpolpggcaaDoorRawLaw2
import Derived.Test.YtfigkgpolpggcaaDoorPick
namespace Go.Proofs.YtfigkgpolpggcaaDoor
open Go.RowKit Go.Bus Go.Bus.rawK Go.Bus.textK
set_option linter.unusedVariables false
namespace rawW
theorem prt_last : prt 18446744073709551615 true = [45, 49] := by
  have h : IntKind.i64.wrap 18446744073709551615 = -1 := by rw [i64_wrap _ (by omega) (by omega)]; rfl
  simp only [prt, if_true]
  rw [h, Lib.itoa, if_pos (by omega), show (-1 : Int).natAbs = 1 from rfl, dec_small (by omega)]
  rfl

set_option maxRecDepth 100000 in
set_option maxHeartbeats 1000000 in
theorem works_yes (w : World) (ht : rawP.Tab w) : Calls Tryd.prog 18 #[] w fun e w' => e = .returned (.bool true) ∧ Below w.heap.size w w' := by
  have HT := Lib.hid ht; clear ht
  have f1 : fitsB 255 8 false = true := by decide
  have f2 : fitsB 255 8 true = false := by decide
  go_enter Tryd.func18, Tryd.ntmps18
  go_wp2_with fail
  refine (fits_any _ _ _ _ (by omega) (by omega)).mono ?_
  rintro e w1 ⟨rfl, rfl⟩
  go_wp2_with fail
  refine (fits_any _ _ _ _ (by omega) (by omega)).mono ?_
  rintro e w1 ⟨rfl, rfl⟩
  go_wp2_with fail
  refine (rawP.print_any _ _ _ (by omega) (by omega) HT.out).mono ?_
  rintro e w1 ⟨rfl, hb1⟩
  rw [prt_last]
  have HB := Lib.hid hb1; clear hb1
  go_wp2
  go_ret
  exact ⟨rfl, HB.out⟩
end rawW
end Go.Proofs.YtfigkgpolpggcaaDoor
