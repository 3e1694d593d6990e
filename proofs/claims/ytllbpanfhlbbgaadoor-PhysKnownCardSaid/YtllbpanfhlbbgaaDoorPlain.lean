/- busbarkit.Plain at this program's errors. Condition: errors.errorType is laid. -/
import Derived.Test.YtllbpanfhlbbgaaDoorErrAs2
import Derived.Deep.RegionHeld3
import Derived.Outline
namespace Go.Proofs.YtllbpanfhlbbgaaDoor
open Go.RowKit Go.Bus Go.Extern.Stop Go.Stop Go.Extern
set_option linter.unusedVariables false
namespace asK
set_option maxRecDepth 100000 in
set_option maxHeartbeats 1000000 in
theorem plain_nil (w : World) : Calls Tryd.prog 9 #[.nilIface, .int .i64 0] w fun e w' => e = .returned (.bool true) ∧ Below w.heap.size w w' := by
  go_enter Tryd.func9, Tryd.ntmps9
  go_wp2_with fail
  refine (isK.num_nil _).mono ?_
  rintro e w1 ⟨rfl, rfl⟩
  go_wp2
  go_ret
  exact ⟨rfl, (by repeat' (first | (with_reducible assumption) | (with_reducible refine Below.setCell ?_ ?_ _) | (with_reducible refine Below.alloc ?_ ?_ _) | (with_reducible refine Below.drew ?_) | (with_reducible refine below_drewN ?_ _) | (with_reducible exact Below.refl _ _) | (show _ ≤ _; (try simp); (try omega); done) | exact Below.refl _ _ | assumption))⟩

set_option maxRecDepth 100000 in
set_option maxHeartbeats 1000000 in
theorem plain_no (a : Int) (w : World) (h1 : 1 ≤ a) (h2 : a ≤ 26) (hg : ErrT w) : Calls Tryd.prog 9 #[.iface 64 (.int .i64 a), .int .i64 a] w fun e w' => e = .returned (.bool true) ∧ Below w.heap.size w w' := by
  have d : (a == a) = true := by simp
  have HG := Lib.hid hg; clear hg
  go_enter Tryd.func9, Tryd.ntmps9
  go_wp2_with fail
  refine (isK.num_no a _ h1 h2).mono ?_
  rintro e w1 ⟨rfl, rfl⟩
  go_wp2_with fail
  refine (as_no a _ _ (HG.out.at_below (by repeat' (first | (with_reducible assumption) | (with_reducible refine Below.setCell ?_ ?_ _) | (with_reducible refine Below.alloc ?_ ?_ _) | (with_reducible refine Below.drew ?_) | (with_reducible refine below_drewN ?_ _) | (with_reducible exact Below.refl _ _) | (show _ ≤ _; (try simp); (try omega); done) | exact Below.refl _ _ | assumption)))).mono ?_
  rintro e w1 ⟨rfl, hb1⟩
  have hB : Below w.heap.size w w1 := Below.trans (by repeat' (first | (with_reducible assumption) | (with_reducible refine Below.setCell ?_ ?_ _) | (with_reducible refine Below.alloc ?_ ?_ _) | (with_reducible refine Below.drew ?_) | (with_reducible refine below_drewN ?_ _) | (with_reducible exact Below.refl _ _) | (show _ ≤ _; (try simp); (try omega); done) | exact Below.refl _ _ | assumption)) (hb1.mono (by simp))
  have HB := Lib.hid hB
  clear hb1 hB
  go_wp2
  go_ret
  exact ⟨rfl, HB.out⟩

end asK
end Go.Proofs.YtllbpanfhlbbgaaDoor
