/-
  DERIVED. GIVEN WITH THE SEED: THE CARDS: each row of YtbhhfdajaoemnaaGreatDoorRows.lean that lists a variable, with what it lists TIED to the program's text (the seventh form; the later family's looks); each row that meets fmt, with fmt's text TOLD by the authors' own Lean function (tested against real Go, not proved from fmt's source: count such statements apart). THE CARD IS WHAT COUNTS. Prove the row's statement (the work); the ties are given (YtbhhfdajaoemnaaGreatDoorTie.lean); close each card by the builder's one call (the guide's Derived/Test/ToyasCard.lean, 'card_holds'). Laid BY PROGRAM, IN A SANDBOX (cutbox-door.mjs). By AI agents, Wed Nov 11 2026. No macro, syntax, notation, axiom, sorry.
-/
import Derived.Test.YtbhhfdajaoemnaaGreatDoorRows
import GoSem.ClaimSeven
namespace Go.Proofs.YtbhhfdajaoemnaaGreatDoor
namespace Rows

/-- THE TIED CARD OF 'busbarlaw27.DumpJoined'. -/
def dumpJoinedCard : Claim7 := { stood := { row := dumpJoinedRow, standIns := [], harness := (true, "cec57ab8a2989723c4d2f40a9e92d1992be86cd44cd6f4482f0d845adcbb25f1"), looks := true }, kinds := [], alts := [], laidByText := true, laidKinds := [.data, .data, .data, .data, .handle, .sentinel, .sentinel, .pinned, .pinned], laidTests := true, laidLooks := .later }
def DumpJoinedCardSaid : Prop := Claim7.holds Tryz.pinned (.plain (OpenSpec.ofChange dumpJoinedSpec)) dumpJoinedCard

/-- THE TIED CARD OF 'busbarlaw27.DumpKnown'. -/
def dumpKnownCard : Claim7 := { stood := { row := dumpKnownRow, standIns := [], harness := (true, "cec57ab8a2989723c4d2f40a9e92d1992be86cd44cd6f4482f0d845adcbb25f1"), looks := true }, kinds := [], alts := [], laidByText := true, laidKinds := [.data, .data, .data, .data, .handle, .sentinel, .sentinel, .pinned, .pinned], laidTests := true, laidLooks := .later }
def DumpKnownCardSaid : Prop := Claim7.holds Tryz.pinned (.plain (OpenSpec.ofChange dumpKnownSpec)) dumpKnownCard

/-- THE TIED CARD OF 'busbarlaw27.DumpParses'. -/
def dumpParsesCard : Claim7 := { stood := { row := dumpParsesRow, standIns := [], harness := (true, "cec57ab8a2989723c4d2f40a9e92d1992be86cd44cd6f4482f0d845adcbb25f1"), looks := true }, kinds := [], alts := [], laidByText := true, laidKinds := [.data, .data, .data, .handle, .sentinel, .sentinel], laidTests := true, laidLooks := .later }
def DumpParsesCardSaid : Prop := Claim7.holds Tryz.pinned (.plain (OpenSpec.ofChange dumpParsesSpec)) dumpParsesCard

/-- THE TIED CARD OF 'busbarlaw27.DumpReads'. -/
def dumpReadsCard : Claim7 := { stood := { row := dumpReadsRow, standIns := [], harness := (true, "cec57ab8a2989723c4d2f40a9e92d1992be86cd44cd6f4482f0d845adcbb25f1"), looks := true }, kinds := [], alts := [], laidByText := true, laidKinds := [.data, .data, .data, .data, .handle, .sentinel, .sentinel, .pinned], laidTests := true, laidLooks := .later }
def DumpReadsCardSaid : Prop := Claim7.holds Tryz.pinned (.plain (OpenSpec.ofChange dumpReadsSpec)) dumpReadsCard

/-- THE SECOND FORM's CARD OF 'busbarlaw27.DumpJoined'. -/
def dumpJoinedUptoCard : Claim7 := { stood := { row := dumpJoinedUptoRow, standIns := [], harness := (true, "cec57ab8a2989723c4d2f40a9e92d1992be86cd44cd6f4482f0d845adcbb25f1"), looks := true }, kinds := [], alts := [], laidByText := true, laidKinds := [.data, .data, .data, .data, .handle, .sentinel, .sentinel, .pinned, .pinned], laidTests := true, laidLooks := .later }
def DumpJoinedUptoCardSaid : Prop := Claim7.holds Tryz.pinned (.plain (OpenSpec.upto dumpJoinedSpec)) dumpJoinedUptoCard

/-- THE SECOND FORM's CARD OF 'busbarlaw27.DumpKnown'. -/
def dumpKnownUptoCard : Claim7 := { stood := { row := dumpKnownUptoRow, standIns := [], harness := (true, "cec57ab8a2989723c4d2f40a9e92d1992be86cd44cd6f4482f0d845adcbb25f1"), looks := true }, kinds := [], alts := [], laidByText := true, laidKinds := [.data, .data, .data, .data, .handle, .sentinel, .sentinel, .pinned, .pinned], laidTests := true, laidLooks := .later }
def DumpKnownUptoCardSaid : Prop := Claim7.holds Tryz.pinned (.plain (OpenSpec.upto dumpKnownSpec)) dumpKnownUptoCard

/-- THE SECOND FORM's CARD OF 'busbarlaw27.DumpParses'. -/
def dumpParsesUptoCard : Claim7 := { stood := { row := dumpParsesUptoRow, standIns := [], harness := (true, "cec57ab8a2989723c4d2f40a9e92d1992be86cd44cd6f4482f0d845adcbb25f1"), looks := true }, kinds := [], alts := [], laidByText := true, laidKinds := [.data, .data, .data, .handle, .sentinel, .sentinel], laidTests := true, laidLooks := .later }
def DumpParsesUptoCardSaid : Prop := Claim7.holds Tryz.pinned (.plain (OpenSpec.upto dumpParsesSpec)) dumpParsesUptoCard

/-- THE SECOND FORM's CARD OF 'busbarlaw27.DumpReads'. -/
def dumpReadsUptoCard : Claim7 := { stood := { row := dumpReadsUptoRow, standIns := [], harness := (true, "cec57ab8a2989723c4d2f40a9e92d1992be86cd44cd6f4482f0d845adcbb25f1"), looks := true }, kinds := [], alts := [], laidByText := true, laidKinds := [.data, .data, .data, .data, .handle, .sentinel, .sentinel, .pinned], laidTests := true, laidLooks := .later }
def DumpReadsUptoCardSaid : Prop := Claim7.holds Tryz.pinned (.plain (OpenSpec.upto dumpReadsSpec)) dumpReadsUptoCard
end Rows
end Go.Proofs.YtbhhfdajaoemnaaGreatDoor
