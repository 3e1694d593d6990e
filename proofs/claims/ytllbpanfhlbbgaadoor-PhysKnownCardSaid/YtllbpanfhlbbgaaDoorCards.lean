/-
  DERIVED. GIVEN WITH THE SEED: THE CARDS: each row of YtllbpanfhlbbgaaDoorRows.lean that lists a variable, with what it lists TIED to the program's text (the seventh form; the later family's looks); each row that meets fmt, with fmt's text TOLD by the authors' own Lean function (tested against real Go, not proved from fmt's source: count such statements apart). THE CARD IS WHAT COUNTS. Prove the row's statement (the work); the ties are given (YtllbpanfhlbbgaaDoorTie.lean); close each card by the builder's one call (the guide's Derived/Test/ToyasCard.lean, 'card_holds'). Laid BY PROGRAM, IN A SANDBOX (cutbox-door.mjs). By AI agents, Wed Nov 11 2026. No macro, syntax, notation, axiom, sorry.
-/
import Derived.Test.YtllbpanfhlbbgaaDoorRows
import GoSem.ClaimSeven
namespace Go.Proofs.YtllbpanfhlbbgaaDoor
namespace Rows

/-- THE TIED CARD OF 'busbarlaw11.PhysTo'. -/
def physToCard : Claim7 := { stood := { row := physToRow, standIns := [], harness := (true, "af722c58641dd747c7cb92597e41bb25dbd0396e5b4d8fee6ca988881d7a7eda"), looks := true }, kinds := [], alts := [], laidByText := true, laidKinds := [.handle], laidTests := true, laidLooks := .later }
def PhysToCardSaid : Prop := Claim7.holds Tryd.pinned (.plain (OpenSpec.ofChange physToSpec)) physToCard

/-- THE TIED CARD OF 'busbarlaw11.PhysFrom'. -/
def physFromCard : Claim7 := { stood := { row := physFromRow, standIns := [], harness := (true, "af722c58641dd747c7cb92597e41bb25dbd0396e5b4d8fee6ca988881d7a7eda"), looks := true }, kinds := [], alts := [], laidByText := true, laidKinds := [.handle], laidTests := true, laidLooks := .later }
def PhysFromCardSaid : Prop := Claim7.holds Tryd.pinned (.plain (OpenSpec.ofChange physFromSpec)) physFromCard

/-- THE TIED CARD OF 'busbarlaw11.PhysKnown'. -/
def physKnownCard : Claim7 := { stood := { row := physKnownRow, standIns := [], harness := (true, "af722c58641dd747c7cb92597e41bb25dbd0396e5b4d8fee6ca988881d7a7eda"), looks := true }, kinds := [], alts := [], laidByText := true, laidKinds := [.handle], laidTests := true, laidLooks := .later }
def PhysKnownCardSaid : Prop := Claim7.holds Tryd.pinned (.plain (OpenSpec.ofChange physKnownSpec)) physKnownCard

/-- THE SECOND FORM's CARD OF 'busbarlaw11.PhysTo'. -/
def physToUptoCard : Claim7 := { stood := { row := physToUptoRow, standIns := [], harness := (true, "af722c58641dd747c7cb92597e41bb25dbd0396e5b4d8fee6ca988881d7a7eda"), looks := true }, kinds := [], alts := [], laidByText := true, laidKinds := [.handle], laidTests := true, laidLooks := .later }
def PhysToUptoCardSaid : Prop := Claim7.holds Tryd.pinned (.plain (OpenSpec.upto physToSpec)) physToUptoCard

/-- THE SECOND FORM's CARD OF 'busbarlaw11.PhysFrom'. -/
def physFromUptoCard : Claim7 := { stood := { row := physFromUptoRow, standIns := [], harness := (true, "af722c58641dd747c7cb92597e41bb25dbd0396e5b4d8fee6ca988881d7a7eda"), looks := true }, kinds := [], alts := [], laidByText := true, laidKinds := [.handle], laidTests := true, laidLooks := .later }
def PhysFromUptoCardSaid : Prop := Claim7.holds Tryd.pinned (.plain (OpenSpec.upto physFromSpec)) physFromUptoCard

/-- THE SECOND FORM's CARD OF 'busbarlaw11.PhysKnown'. -/
def physKnownUptoCard : Claim7 := { stood := { row := physKnownUptoRow, standIns := [], harness := (true, "af722c58641dd747c7cb92597e41bb25dbd0396e5b4d8fee6ca988881d7a7eda"), looks := true }, kinds := [], alts := [], laidByText := true, laidKinds := [.handle], laidTests := true, laidLooks := .later }
def PhysKnownUptoCardSaid : Prop := Claim7.holds Tryd.pinned (.plain (OpenSpec.upto physKnownSpec)) physKnownUptoCard
end Rows
end Go.Proofs.YtllbpanfhlbbgaaDoor
