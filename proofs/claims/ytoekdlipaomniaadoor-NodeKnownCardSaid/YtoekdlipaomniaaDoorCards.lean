/-
  DERIVED. GIVEN WITH THE SEED: THE CARDS: each row of YtoekdlipaomniaaDoorRows.lean that lists a variable, with what it lists TIED to the program's text (the seventh form; the later family's looks); each row that meets fmt, with fmt's text TOLD by the authors' own Lean function (tested against real Go, not proved from fmt's source: count such statements apart). THE CARD IS WHAT COUNTS. Prove the row's statement (the work); the ties are given (YtoekdlipaomniaaDoorTie.lean); close each card by the builder's one call (the guide's Derived/Test/ToyasCard.lean, 'card_holds'). Laid BY PROGRAM, IN A SANDBOX (cutbox-door.mjs). By AI agents, Wed Nov 11 2026. No macro, syntax, notation, axiom, sorry.
-/
import Derived.Test.YtoekdlipaomniaaDoorRows
import GoSem.ClaimSeven
namespace Go.Proofs.YtoekdlipaomniaaDoor
namespace Rows

/-- THE TIED CARD OF 'busbarlaw05.NodeGathers'. -/
def nodeGathersCard : Claim7 := { stood := { row := nodeGathersRow, standIns := [], harness := (true, "7b88be6e5b8250b8745fc9e2a6edfd71441f7ea2af77b81c577b7dc473b38686"), looks := true }, kinds := [], alts := [], laidByText := true, laidKinds := [.handle], laidTests := true, laidLooks := .later }
def NodeGathersCardSaid : Prop := Claim7.holds Tryd.pinned (.plain (OpenSpec.ofChange nodeGathersSpec)) nodeGathersCard

/-- THE TIED CARD OF 'busbarlaw05.NodeKnown'. -/
def nodeKnownCard : Claim7 := { stood := { row := nodeKnownRow, standIns := [], harness := (true, "7b88be6e5b8250b8745fc9e2a6edfd71441f7ea2af77b81c577b7dc473b38686"), looks := true }, kinds := [], alts := [], laidByText := true, laidKinds := [.handle], laidTests := true, laidLooks := .later }
def NodeKnownCardSaid : Prop := Claim7.holds Tryd.pinned (.plain (OpenSpec.ofChange nodeKnownSpec)) nodeKnownCard

/-- THE SECOND FORM's CARD OF 'busbarlaw05.NodeGathers'. -/
def nodeGathersUptoCard : Claim7 := { stood := { row := nodeGathersUptoRow, standIns := [], harness := (true, "7b88be6e5b8250b8745fc9e2a6edfd71441f7ea2af77b81c577b7dc473b38686"), looks := true }, kinds := [], alts := [], laidByText := true, laidKinds := [.handle], laidTests := true, laidLooks := .later }
def NodeGathersUptoCardSaid : Prop := Claim7.holds Tryd.pinned (.plain (OpenSpec.upto nodeGathersSpec)) nodeGathersUptoCard

/-- THE SECOND FORM's CARD OF 'busbarlaw05.NodeKnown'. -/
def nodeKnownUptoCard : Claim7 := { stood := { row := nodeKnownUptoRow, standIns := [], harness := (true, "7b88be6e5b8250b8745fc9e2a6edfd71441f7ea2af77b81c577b7dc473b38686"), looks := true }, kinds := [], alts := [], laidByText := true, laidKinds := [.handle], laidTests := true, laidLooks := .later }
def NodeKnownUptoCardSaid : Prop := Claim7.holds Tryd.pinned (.plain (OpenSpec.upto nodeKnownSpec)) nodeKnownUptoCard
end Rows
end Go.Proofs.YtoekdlipaomniaaDoor
