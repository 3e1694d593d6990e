/- A start for rows that list a handle beside great tables: the program's own initialisers, and over them the listed data laid by a function. Conditions: closed facts. -/
import Derived.Test.YtbhhfdajaoemnaaGreatDoorRows
import Derived.Lay
import Derived.ChangeSame
import Derived.LaidLaws
import Derived.LaidHandle
import Derived.LaidSub
import Derived.LaidMore
import Derived.Stop.Joined
import Derived.KernelRfl
namespace Go.Proofs.YtbhhfdajaoemnaaGreatDoor
namespace doorL
set_option maxRecDepth 100000
def plain (l : List (String × DataW Unit)) : List (String × DataW Unit) := l.filter fun x => x.2.handleName?.isNone
noncomputable def start (os : Os) (l : List (String × DataW Unit)) : World := (World.doorLaid Tryz.prog 400 os).layVars Tryz.prog (plain l)
theorem start_os (os : Os) (l : List (String × DataW Unit)) : (start os l).os = os := World.layVars_os _ _ _
theorem met {os : Os} {l : List (String × DataW Unit)} (args : Array Value)
    (hf : (World.doorLaid Tryz.prog 400 os).layFits Tryz.prog (plain l) [] = true)
    (hi : (World.doorLaid Tryz.prog 400 os).layIfaces Tryz.prog (plain l) (start os l) = true)
    (hh : (l.filter fun x => x.2.handleName?.isSome && x.2.funcsIn?.isNone).all (handleAtB Tryz.prog (start os l)) = true)
    (hu : funcsRun Tryz.prog (start os l) 8 ((funcsListed l).map (·.1)) = some ((funcsListed l).map (·.2.funcsOut))) :
    laidMetH Tryz.prog l ((start os l).forCall (fun _ _ => 0) ⟨#[], args, []⟩).memory := by
  have e1 : ((plain l).filter fun x => ((plain l).map (·.1)).contains x.1) = plain l := List.filter_eq_self.2 fun x hx => List.contains_iff_mem.2 (List.mem_map.2 ⟨x, hx, rfl⟩)
  have e2 : ((plain l).filter fun x => !((plain l).map (·.1)).contains x.1) = [] := List.filter_eq_nil_iff.2 fun x hx => by rw [List.contains_iff_mem.2 (List.mem_map.2 ⟨x, hx, rfl⟩)]; simp
  have h : laidMet Tryz.prog (plain l) (start os l) := laidMet_layVars (w0 := World.doorLaid Tryz.prog 400 os) ((plain l).map (·.1)) [] (by rw [e1]; rfl) (by rw [e1]; exact hf) (by rw [e1]; exact hi) (by rw [e2]; exact LaidIn.none)
  have h2 : laidMetH Tryz.prog l (start os l) := laidMetH_of_parts3 (fuel := 8) h hh hu
  exact h2.of_heap (by simp [World.memory, World.forCall, Input.heap])
end doorL
end Go.Proofs.YtbhhfdajaoemnaaGreatDoor
