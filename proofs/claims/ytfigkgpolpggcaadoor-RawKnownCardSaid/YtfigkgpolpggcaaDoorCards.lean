/-
  DERIVED. GIVEN WITH THE SEED: THE CARDS: each row of YtfigkgpolpggcaaDoorRows.lean that lists a variable, with what it lists TIED to the program's text (the seventh form; the later family's looks); each row that meets fmt, with fmt's text TOLD by the authors' own Lean function (tested against real Go, not proved from fmt's source: count such statements apart). THE CARD IS WHAT COUNTS. Prove the row's statement (the work); the ties are given (YtfigkgpolpggcaaDoorTie.lean); close each card by the builder's one call (the guide's Derived/Test/ToyasCard.lean, 'card_holds'). Laid BY PROGRAM, IN A SANDBOX (cutbox-door.mjs). By AI agents, Wed Nov 11 2026. No macro, syntax, notation, axiom, sorry.
-/
import Derived.Test.YtfigkgpolpggcaaDoorRows
import GoSem.ClaimSeven
namespace Go.Proofs.YtfigkgpolpggcaaDoor
namespace Rows

/-- THE TIED CARD OF 'busbarlaw10.RawPrints'. -/
def rawPrintsCard : Claim7 := { stood := { row := rawPrintsRow, standIns := [], harness := (true, "1111334eddd5b4866e0c0a46da81265e95d3c7a60e8e6875f7924afdb9faaf8b"), looks := true }, kinds := [], alts := [], laidByText := true, laidKinds := [.data, .data, .data], laidTests := true, laidLooks := .later }
def RawPrintsCardSaid : Prop := Claim7.holds Tryd.pinned (.plain (OpenSpec.ofChange rawPrintsSpec)) rawPrintsCard

/-- THE TIED CARD OF 'busbarlaw10.RawSame'. -/
def rawSameCard : Claim7 := { stood := { row := rawSameRow, standIns := [], harness := (true, "1111334eddd5b4866e0c0a46da81265e95d3c7a60e8e6875f7924afdb9faaf8b"), looks := true }, kinds := [], alts := [], laidByText := true, laidKinds := [.data, .data, .data], laidTests := true, laidLooks := .later }
def RawSameCardSaid : Prop := Claim7.holds Tryd.pinned (.plain (OpenSpec.ofChange rawSameSpec)) rawSameCard

/-- THE TIED CARD OF 'busbarlaw10.RawBetween'. -/
def rawBetweenCard : Claim7 := { stood := { row := rawBetweenRow, standIns := [], harness := (true, "1111334eddd5b4866e0c0a46da81265e95d3c7a60e8e6875f7924afdb9faaf8b"), looks := true }, kinds := [], alts := [], laidByText := true, laidKinds := [.data, .data, .data], laidTests := true, laidLooks := .later }
def RawBetweenCardSaid : Prop := Claim7.holds Tryd.pinned (.plain (OpenSpec.ofChange rawBetweenSpec)) rawBetweenCard

/-- THE TIED CARD OF 'busbarlaw10.RawThere'. -/
def rawThereCard : Claim7 := { stood := { row := rawThereRow, standIns := [], harness := (true, "1111334eddd5b4866e0c0a46da81265e95d3c7a60e8e6875f7924afdb9faaf8b"), looks := true }, kinds := [], alts := [], laidByText := true, laidKinds := [.data, .data, .data, .sentinel, .sentinel], laidTests := true, laidLooks := .later }
def RawThereCardSaid : Prop := Claim7.holds Tryd.pinned (.plain (OpenSpec.ofChange rawThereSpec)) rawThereCard

/-- THE TIED CARD OF 'busbarlaw10.RawBack'. -/
def rawBackCard : Claim7 := { stood := { row := rawBackRow, standIns := [], harness := (true, "1111334eddd5b4866e0c0a46da81265e95d3c7a60e8e6875f7924afdb9faaf8b"), looks := true }, kinds := [], alts := [], laidByText := true, laidKinds := [.data, .data, .data, .sentinel, .sentinel], laidTests := true, laidLooks := .later }
def RawBackCardSaid : Prop := Claim7.holds Tryd.pinned (.plain (OpenSpec.ofChange rawBackSpec)) rawBackCard

/-- THE TIED CARD OF 'busbarlaw10.RawParses'. -/
def rawParsesCard : Claim7 := { stood := { row := rawParsesRow, standIns := [], harness := (true, "1111334eddd5b4866e0c0a46da81265e95d3c7a60e8e6875f7924afdb9faaf8b"), looks := true }, kinds := [], alts := [], laidByText := true, laidKinds := [.data, .data, .data, .handle, .sentinel, .sentinel], laidTests := true, laidLooks := .later }
def RawParsesCardSaid : Prop := Claim7.holds Tryd.pinned (.plain (OpenSpec.ofChange rawParsesSpec)) rawParsesCard

/-- THE TIED CARD OF 'busbarlaw10.RawKnown'. -/
def rawKnownCard : Claim7 := { stood := { row := rawKnownRow, standIns := [], harness := (true, "1111334eddd5b4866e0c0a46da81265e95d3c7a60e8e6875f7924afdb9faaf8b"), looks := true }, kinds := [], alts := [], laidByText := true, laidKinds := [.data, .data, .data, .handle, .sentinel, .sentinel], laidTests := true, laidLooks := .later }
def RawKnownCardSaid : Prop := Claim7.holds Tryd.pinned (.plain (OpenSpec.ofChange rawKnownSpec)) rawKnownCard

/-- THE TIED CARD OF 'busbarlaw23.QueuePlays'. -/
def queuePlaysCard : Claim7 := { stood := { row := queuePlaysRow, standIns := [], harness := (true, "1111334eddd5b4866e0c0a46da81265e95d3c7a60e8e6875f7924afdb9faaf8b"), looks := true }, kinds := [], alts := [], laidByText := true, laidKinds := [.handle], laidTests := true, laidLooks := .later }
def QueuePlaysCardSaid : Prop := Claim7.holds Tryd.pinned (.plain (OpenSpec.ofChange queuePlaysSpec)) queuePlaysCard

/-- THE TIED CARD OF 'busbarlaw22.FrameBits'. -/
def frameBitsCard : Claim7 := { stood := { row := frameBitsRow, standIns := [], harness := (true, "1111334eddd5b4866e0c0a46da81265e95d3c7a60e8e6875f7924afdb9faaf8b"), looks := true }, kinds := [], alts := [], laidByText := true, laidKinds := [.handle], laidTests := true, laidLooks := .later }
def FrameBitsCardSaid : Prop := Claim7.holds Tryd.pinned (.plain (OpenSpec.ofChange frameBitsSpec)) frameBitsCard

/-- THE TIED CARD OF 'busbarlaw22.FrameDecodes'. -/
def frameDecodesCard : Claim7 := { stood := { row := frameDecodesRow, standIns := [], harness := (true, "1111334eddd5b4866e0c0a46da81265e95d3c7a60e8e6875f7924afdb9faaf8b"), looks := true }, kinds := [], alts := [], laidByText := true, laidKinds := [.handle], laidTests := true, laidLooks := .later }
def FrameDecodesCardSaid : Prop := Claim7.holds Tryd.pinned (.plain (OpenSpec.ofChange frameDecodesSpec)) frameDecodesCard

/-- THE TIED CARD OF 'busbarlaw22.FrameKnown'. -/
def frameKnownCard : Claim7 := { stood := { row := frameKnownRow, standIns := [], harness := (true, "1111334eddd5b4866e0c0a46da81265e95d3c7a60e8e6875f7924afdb9faaf8b"), looks := true }, kinds := [], alts := [], laidByText := true, laidKinds := [.handle], laidTests := true, laidLooks := .later }
def FrameKnownCardSaid : Prop := Claim7.holds Tryd.pinned (.plain (OpenSpec.ofChange frameKnownSpec)) frameKnownCard

/-- THE SECOND FORM's CARD OF 'busbarlaw10.RawPrints'. -/
def rawPrintsUptoCard : Claim7 := { stood := { row := rawPrintsUptoRow, standIns := [], harness := (true, "1111334eddd5b4866e0c0a46da81265e95d3c7a60e8e6875f7924afdb9faaf8b"), looks := true }, kinds := [], alts := [], laidByText := true, laidKinds := [.data, .data, .data], laidTests := true, laidLooks := .later }
def RawPrintsUptoCardSaid : Prop := Claim7.holds Tryd.pinned (.plain (OpenSpec.upto rawPrintsSpec)) rawPrintsUptoCard

/-- THE SECOND FORM's CARD OF 'busbarlaw10.RawSame'. -/
def rawSameUptoCard : Claim7 := { stood := { row := rawSameUptoRow, standIns := [], harness := (true, "1111334eddd5b4866e0c0a46da81265e95d3c7a60e8e6875f7924afdb9faaf8b"), looks := true }, kinds := [], alts := [], laidByText := true, laidKinds := [.data, .data, .data], laidTests := true, laidLooks := .later }
def RawSameUptoCardSaid : Prop := Claim7.holds Tryd.pinned (.plain (OpenSpec.upto rawSameSpec)) rawSameUptoCard

/-- THE SECOND FORM's CARD OF 'busbarlaw10.RawBetween'. -/
def rawBetweenUptoCard : Claim7 := { stood := { row := rawBetweenUptoRow, standIns := [], harness := (true, "1111334eddd5b4866e0c0a46da81265e95d3c7a60e8e6875f7924afdb9faaf8b"), looks := true }, kinds := [], alts := [], laidByText := true, laidKinds := [.data, .data, .data], laidTests := true, laidLooks := .later }
def RawBetweenUptoCardSaid : Prop := Claim7.holds Tryd.pinned (.plain (OpenSpec.upto rawBetweenSpec)) rawBetweenUptoCard

/-- THE SECOND FORM's CARD OF 'busbarlaw10.RawThere'. -/
def rawThereUptoCard : Claim7 := { stood := { row := rawThereUptoRow, standIns := [], harness := (true, "1111334eddd5b4866e0c0a46da81265e95d3c7a60e8e6875f7924afdb9faaf8b"), looks := true }, kinds := [], alts := [], laidByText := true, laidKinds := [.data, .data, .data, .sentinel, .sentinel], laidTests := true, laidLooks := .later }
def RawThereUptoCardSaid : Prop := Claim7.holds Tryd.pinned (.plain (OpenSpec.upto rawThereSpec)) rawThereUptoCard

/-- THE SECOND FORM's CARD OF 'busbarlaw10.RawBack'. -/
def rawBackUptoCard : Claim7 := { stood := { row := rawBackUptoRow, standIns := [], harness := (true, "1111334eddd5b4866e0c0a46da81265e95d3c7a60e8e6875f7924afdb9faaf8b"), looks := true }, kinds := [], alts := [], laidByText := true, laidKinds := [.data, .data, .data, .sentinel, .sentinel], laidTests := true, laidLooks := .later }
def RawBackUptoCardSaid : Prop := Claim7.holds Tryd.pinned (.plain (OpenSpec.upto rawBackSpec)) rawBackUptoCard

/-- THE SECOND FORM's CARD OF 'busbarlaw10.RawParses'. -/
def rawParsesUptoCard : Claim7 := { stood := { row := rawParsesUptoRow, standIns := [], harness := (true, "1111334eddd5b4866e0c0a46da81265e95d3c7a60e8e6875f7924afdb9faaf8b"), looks := true }, kinds := [], alts := [], laidByText := true, laidKinds := [.data, .data, .data, .handle, .sentinel, .sentinel], laidTests := true, laidLooks := .later }
def RawParsesUptoCardSaid : Prop := Claim7.holds Tryd.pinned (.plain (OpenSpec.upto rawParsesSpec)) rawParsesUptoCard

/-- THE SECOND FORM's CARD OF 'busbarlaw10.RawKnown'. -/
def rawKnownUptoCard : Claim7 := { stood := { row := rawKnownUptoRow, standIns := [], harness := (true, "1111334eddd5b4866e0c0a46da81265e95d3c7a60e8e6875f7924afdb9faaf8b"), looks := true }, kinds := [], alts := [], laidByText := true, laidKinds := [.data, .data, .data, .handle, .sentinel, .sentinel], laidTests := true, laidLooks := .later }
def RawKnownUptoCardSaid : Prop := Claim7.holds Tryd.pinned (.plain (OpenSpec.upto rawKnownSpec)) rawKnownUptoCard

/-- THE SECOND FORM's CARD OF 'busbarlaw23.QueuePlays'. -/
def queuePlaysUptoCard : Claim7 := { stood := { row := queuePlaysUptoRow, standIns := [], harness := (true, "1111334eddd5b4866e0c0a46da81265e95d3c7a60e8e6875f7924afdb9faaf8b"), looks := true }, kinds := [], alts := [], laidByText := true, laidKinds := [.handle], laidTests := true, laidLooks := .later }
def QueuePlaysUptoCardSaid : Prop := Claim7.holds Tryd.pinned (.plain (OpenSpec.upto queuePlaysSpec)) queuePlaysUptoCard

/-- THE SECOND FORM's CARD OF 'busbarlaw22.FrameBits'. -/
def frameBitsUptoCard : Claim7 := { stood := { row := frameBitsUptoRow, standIns := [], harness := (true, "1111334eddd5b4866e0c0a46da81265e95d3c7a60e8e6875f7924afdb9faaf8b"), looks := true }, kinds := [], alts := [], laidByText := true, laidKinds := [.handle], laidTests := true, laidLooks := .later }
def FrameBitsUptoCardSaid : Prop := Claim7.holds Tryd.pinned (.plain (OpenSpec.upto frameBitsSpec)) frameBitsUptoCard

/-- THE SECOND FORM's CARD OF 'busbarlaw22.FrameDecodes'. -/
def frameDecodesUptoCard : Claim7 := { stood := { row := frameDecodesUptoRow, standIns := [], harness := (true, "1111334eddd5b4866e0c0a46da81265e95d3c7a60e8e6875f7924afdb9faaf8b"), looks := true }, kinds := [], alts := [], laidByText := true, laidKinds := [.handle], laidTests := true, laidLooks := .later }
def FrameDecodesUptoCardSaid : Prop := Claim7.holds Tryd.pinned (.plain (OpenSpec.upto frameDecodesSpec)) frameDecodesUptoCard

/-- THE SECOND FORM's CARD OF 'busbarlaw22.FrameKnown'. -/
def frameKnownUptoCard : Claim7 := { stood := { row := frameKnownUptoRow, standIns := [], harness := (true, "1111334eddd5b4866e0c0a46da81265e95d3c7a60e8e6875f7924afdb9faaf8b"), looks := true }, kinds := [], alts := [], laidByText := true, laidKinds := [.handle], laidTests := true, laidLooks := .later }
def FrameKnownUptoCardSaid : Prop := Claim7.holds Tryd.pinned (.plain (OpenSpec.upto frameKnownSpec)) frameKnownUptoCard
end Rows
end Go.Proofs.YtfigkgpolpggcaaDoor
