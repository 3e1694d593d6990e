/- The world that the program's own initialisers leave meets the rows' conditions, and is shaped: once for all rows. -/
import Derived.Test.YtllbpanfhlbbgaaDoorRows
import Derived.ChangeSame
import Derived.LaidLaws
import Derived.LaidHandle
import Derived.LaidSub
import Derived.LaidMore
import Derived.KernelRfl
namespace Go.Proofs.YtllbpanfhlbbgaaDoor
namespace doorK
set_option maxRecDepth 100000
def full : List (String × DataW Unit) := [("errors.errorType", Rows.laid_errors_errorType)]
theorem met (os : Os) (args : Array Value) : laidMetH Tryd.prog full ((World.doorLaid Tryd.prog 400 os).forCall (fun _ _ => 0) ⟨#[], args, []⟩).memory :=
  laidMetH_of_parts3 (fuel := 8) (laidMet_of_run' 8 (by kernel_rfl) (by kernel_rfl)) (by kernel_rfl) (by kernel_rfl)
theorem shaped (os : Os) (args : Array Value) : ((World.doorLaid Tryd.prog 400 os).forCall (fun _ _ => 0) ⟨#[], args, []⟩).Shaped Tryd.prog :=
  World.shaped_of_RefB (by kernel_rfl) (by kernel_rfl)
end doorK
end Go.Proofs.YtllbpanfhlbbgaaDoor
