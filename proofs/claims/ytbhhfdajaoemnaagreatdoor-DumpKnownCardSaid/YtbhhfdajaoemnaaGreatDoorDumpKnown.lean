/- busbarlaw27.DumpKnown, closed: the examples, and the limits from both sides. Condition: the card's listed variables. -/
import Derived.Test.YtbhhfdajaoemnaaGreatDoorRows
import Derived.Lay
import Derived.LaidByTextLater
import Derived.Test.YtbhhfdajaoemnaaGreatDoorCards
import Derived.Test.YtbhhfdajaoemnaaGreatDoorTie
import Derived.Test.YtbhhfdajaoemnaaGreatDoorLaid
import Derived.Test.YtbhhfdajaoemnaaGreatDoorLaidD
import Derived.Test.YtbhhfdajaoemnaaGreatDoorShelf6
import Derived.Test.YtbhhfdajaoemnaaGreatDoorShWrap
import Derived.Test.YtbhhfdajaoemnaaGreatDoorOpen
import Derived.SevenTiedAt
import Derived.ProofKit
import Derived.OpenShut
import Derived.Deep.DeepHandedRow
import Derived.Test.YtbhhfdajaoemnaaGreatDoorDoorL
import Derived.Test.YtbhhfdajaoemnaaGreatDoorDumpKnW
namespace Go.Proofs.YtbhhfdajaoemnaaGreatDoor.dumpKnown
open Go.RowKit Go.Bus Go.Bus.dumpK Go.ChangeShapes Go.WideShapes Go.ChangeAt Go.Joins
set_option linter.unusedVariables false
/-! The row's step. -/
theorem own : ownKnob Tryz.prog.godebug = none := by kernel_rfl
theorem laidOut : laidOutB Tryz.prog = true := by kernel_rfl

set_option maxRecDepth 100000 in
theorem lifted (os : Os) (started : os.Started) (H : Type) (enc : TypeId × Value → H) :
    ReturnsInHanded {} Tryz.checked os 4 .any (fun w args => (Rows.dumpKnownSpec.pre enc Tryz.prog Tryz.f4 [] false w args ∧ laidMetH Tryz.prog Rows.dumpKnownRow.laid w) ∧ sizedMet enc Tryz.prog Tryz.f4 (OpenSpec.ofChange Rows.dumpKnownSpec) false w args)
      (Rows.dumpKnownSpec.post enc Tryz.prog Tryz.f4 false true false false) := by
  refine handed_and_shaped (C := Tryz.checked) (X := fun w _ => laidMetH Tryz.prog Rows.dumpKnownRow.laid w) (fun _ _ _ hh h => h.of_heap hh) own started (by kernel_rfl) Tryz.func4
    (ChangeSpec.witness_shaped (enc := enc) (C := Tryz.checked) (os := os) (X := fun w _ => laidMetH Tryz.prog Rows.dumpKnownRow.laid w) false (doorL.start os Rows.dumpKnownRow.laid) #[] 8 (doorL.start_os _ _) (World.shaped_of_ZipB (by kernel_rfl) (by kernel_rfl)) (by kernel_rfl) (by kernel_rfl) (by kernel_rfl) (doorL.met _ (by kernel_rfl) (by kernel_rfl) (by kernel_rfl) (by kernel_rfl))) ?_
  intro W base args ds gs before hval0 hW hcnd hsz0 hL hsh _
  have hval : ∀ (j : Nat) t v, Tryz.f4.params[j]? = some t → args[j]? = some v → Value.okWide Tryz.prog W .any base t v := hval0
  have hsz : (DataW.weightsEach Tryz.prog (Tryz.f4.params.toList ++ Rows.dumpKnownSpec.plain.varTypes Tryz.prog) (ds ++ gs)).all (· ≤ reachBytes) = true := hsz0
  have hW' := hW
  obtain ⟨p, q, hA0, hV, rfl, hfz, hnd⟩ := hW
  have hA : DataW.TrodAll enc Tryz.prog W 0 (fun _ => true) true Tryz.f4.params.toList args.toList ds p := hA0
  rw [Tryz.params4] at hA hval hsz
  obtain ⟨ha0, rfl, rfl⟩ := trodAll_nil hA
  obtain rfl : args = #[] := by cases args; simp_all
  obtain ⟨rfl, rfl⟩ := trodVars_none hV
  have hT : fmtK.Tab W := laidK.tab_of_laid hL (by rfl)
  have hZ := laidD.tz_of_laid hL (by rfl)
  have hG := laidK.errT_of_laid hL (by rfl)
  have hR := laidK.rng_of_laid hL (by rfl)
  have hM : dumpW.Mx W := Tryz.laysM145.s1_3 W hsh
  clear hA0 hval0 hsz0 hL hsh
  refine (dumpW.known_any W hT hZ hM hR hG).mono fun e W' ⟨he, bel⟩ => ?_
  subst he
  exact ⟨_, rfl, _, _, _, [], _, [], hW', trodAll_mk1 (shut_bool Tryz.underlying4 _), trodAll_mk0, rfl, bel.frame _, fun h => by cases h⟩

theorem over : Rows.dumpKnownRow.holds Tryz.pinned (OpenSpec.ofChange Rows.dumpKnownSpec) :=
  OpenClaim.holds_of_wide 4 Tryz.f4 rfl rfl rfl rfl rfl rfl rfl ⟨rfl, rfl, rfl, rfl, rfl⟩ rfl rfl rfl rfl rfl (by kernel_rfl) Tryz.func4 (by kernel_rfl)
    (of_decide_eq_true (by kernel_rfl)) (by unfold Func.isWrapper; first | (rw [if_pos (by decide +kernel)]; kernel_rfl) | (rw [if_neg (by decide +kernel)]; exact ⟨rfl, rfl⟩))
    (fun os started H enc _ => lifted os started H enc)


theorem proved : Rows.DumpKnownCardSaid :=
  Claim7.holds_tied_plain_at .later [] _ true _ true
    over (fun _ h => by cases h) (by kernel_rfl) (fun _ h => by cases h) dumpKnown_row_tie rfl ⟨rfl, rfl⟩ (by kernel_rfl) rfl
    (fun f fn hf hfn => by
      obtain rfl : f = 4 := Option.some.inj ((show Tryz.prog.funcNamed "busbar/busbarlaw27.DumpKnown" = some 4 by kernel_rfl).symm.trans hf) |>.symm
      obtain rfl : fn = Tryz.f4 := (Option.some.inj (Tryz.func4.symm.trans hfn)).symm
      exact ⟨by kernel_rfl, fun j t ht => by
        rw [Tryz.params4] at ht
        simp at ht⟩)
    (by kernel_rfl)
#print axioms proved
end Go.Proofs.YtbhhfdajaoemnaaGreatDoor.dumpKnown
