/-
  DERIVED. GIVEN WITH THE SEED: THE CARDS: each row of YtbhhfdajaoemnaaDoorRows.lean that lists a variable, with what it lists TIED to the program's text (the seventh form; the later family's looks); each row that meets fmt, with fmt's text TOLD by the authors' own Lean function (tested against real Go, not proved from fmt's source: count such statements apart). THE CARD IS WHAT COUNTS. Prove the row's statement (the work); the ties are given (YtbhhfdajaoemnaaDoorTie.lean); close each card by the builder's one call (the guide's Derived/Test/ToyasCard.lean, 'card_holds'). Laid BY PROGRAM, IN A SANDBOX (cutbox-door.mjs). By AI agents, Wed Nov 11 2026. No macro, syntax, notation, axiom, sorry.
-/
import Derived.Test.YtbhhfdajaoemnaaDoorRows
import GoSem.ClaimSeven
namespace Go.Proofs.YtbhhfdajaoemnaaDoor
namespace Rows

/-- THE TIED CARD OF 'busbarlaw27.DumpAll'. -/
def dumpAllCard : Claim7 := { stood := { row := dumpAllRow, standIns := [], harness := (true, "627177acb936437119430e3c7baee216403fd859fbdda69f30517e0e63301ec4"), looks := true }, kinds := [], alts := [], laidByText := true, laidKinds := [.data, .data, .data, .data, .sentinel, .sentinel, .pinned, .pinned], laidTests := true, laidLooks := .later }
def DumpAllCardSaid : Prop := Claim7.holds Tryd.pinned (.plain (OpenSpec.ofChange dumpAllSpec)) dumpAllCard

/-- THE SECOND FORM's CARD OF 'busbarlaw27.DumpAll'. -/
def dumpAllUptoCard : Claim7 := { stood := { row := dumpAllUptoRow, standIns := [], harness := (true, "627177acb936437119430e3c7baee216403fd859fbdda69f30517e0e63301ec4"), looks := true }, kinds := [], alts := [], laidByText := true, laidKinds := [.data, .data, .data, .data, .sentinel, .sentinel, .pinned, .pinned], laidTests := true, laidLooks := .later }
def DumpAllUptoCardSaid : Prop := Claim7.holds Tryd.pinned (.plain (OpenSpec.upto dumpAllSpec)) dumpAllUptoCard
end Rows
end Go.Proofs.YtbhhfdajaoemnaaDoor
