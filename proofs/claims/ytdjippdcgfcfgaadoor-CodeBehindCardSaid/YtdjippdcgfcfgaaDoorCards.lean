/-
  DERIVED. GIVEN WITH THE SEED: THE CARDS: each row of YtdjippdcgfcfgaaDoorRows.lean that lists a variable, with what it lists TIED to the program's text (the seventh form; the later family's looks); each row that meets fmt, with fmt's text TOLD by the authors' own Lean function (tested against real Go, not proved from fmt's source: count such statements apart). THE CARD IS WHAT COUNTS. Prove the row's statement (the work); the ties are given (YtdjippdcgfcfgaaDoorTie.lean); close each card by the builder's one call (the guide's Derived/Test/ToyasCard.lean, 'card_holds'). Laid BY PROGRAM, IN A SANDBOX (cutbox-door.mjs). By AI agents, Wed Nov 11 2026. No macro, syntax, notation, axiom, sorry.
-/
import Derived.Test.YtdjippdcgfcfgaaDoorRows
import GoSem.ClaimSeven
namespace Go.Proofs.YtdjippdcgfcfgaaDoor
namespace Rows

/-- THE TIED CARD OF 'busbarlaw12.CodeBehind'. -/
def codeBehindCard : Claim7 := { stood := { row := codeBehindRow, standIns := [], harness := (true, "eb931eed20a03bab5c5ec471ab1ffab0955883abf02807020e7b208e67c1926e"), looks := true }, kinds := [], alts := [], laidByText := true, laidKinds := [.data, .data, .data, .sentinel, .sentinel], laidTests := true, laidLooks := .later }
def CodeBehindCardSaid : Prop := Claim7.holds Tryd.pinned (.plain (OpenSpec.ofChange codeBehindSpec)) codeBehindCard

/-- THE TIED CARD OF 'busbarlaw12.CodeOnly'. -/
def codeOnlyCard : Claim7 := { stood := { row := codeOnlyRow, standIns := [], harness := (true, "eb931eed20a03bab5c5ec471ab1ffab0955883abf02807020e7b208e67c1926e"), looks := true }, kinds := [], alts := [], laidByText := true, laidKinds := [.data, .data, .data, .sentinel, .sentinel], laidTests := true, laidLooks := .later }
def CodeOnlyCardSaid : Prop := Claim7.holds Tryd.pinned (.plain (OpenSpec.ofChange codeOnlySpec)) codeOnlyCard

/-- THE SECOND FORM's CARD OF 'busbarlaw12.CodeBehind'. -/
def codeBehindUptoCard : Claim7 := { stood := { row := codeBehindUptoRow, standIns := [], harness := (true, "eb931eed20a03bab5c5ec471ab1ffab0955883abf02807020e7b208e67c1926e"), looks := true }, kinds := [], alts := [], laidByText := true, laidKinds := [.data, .data, .data, .sentinel, .sentinel], laidTests := true, laidLooks := .later }
def CodeBehindUptoCardSaid : Prop := Claim7.holds Tryd.pinned (.plain (OpenSpec.upto codeBehindSpec)) codeBehindUptoCard

/-- THE SECOND FORM's CARD OF 'busbarlaw12.CodeOnly'. -/
def codeOnlyUptoCard : Claim7 := { stood := { row := codeOnlyUptoRow, standIns := [], harness := (true, "eb931eed20a03bab5c5ec471ab1ffab0955883abf02807020e7b208e67c1926e"), looks := true }, kinds := [], alts := [], laidByText := true, laidKinds := [.data, .data, .data, .sentinel, .sentinel], laidTests := true, laidLooks := .later }
def CodeOnlyUptoCardSaid : Prop := Claim7.holds Tryd.pinned (.plain (OpenSpec.upto codeOnlySpec)) codeOnlyUptoCard
end Rows
end Go.Proofs.YtdjippdcgfcfgaaDoor
