/-
  DERIVED. GIVEN WITH THE SEED: THE CARDS: each row of YtpeeonfpmgddoaaDoorRows.lean that lists a variable, with what it lists TIED to the program's text (the seventh form; the later family's looks); each row that meets fmt, with fmt's text TOLD by the authors' own Lean function (tested against real Go, not proved from fmt's source: count such statements apart). THE CARD IS WHAT COUNTS. Prove the row's statement (the work); the ties are given (YtpeeonfpmgddoaaDoorTie.lean); close each card by the builder's one call (the guide's Derived/Test/ToyasCard.lean, 'card_holds'). Laid BY PROGRAM, IN A SANDBOX (cutbox-door.mjs). By AI agents, Wed Nov 11 2026. No macro, syntax, notation, axiom, sorry.
-/
import Derived.Test.YtpeeonfpmgddoaaDoorRows
import GoSem.ClaimSeven
namespace Go.Proofs.YtpeeonfpmgddoaaDoor
namespace Rows

/-- THE TIED CARD OF 'busbarlaw27.DumpPrints'. -/
def dumpPrintsCard : Claim7 := { stood := { row := dumpPrintsRow, standIns := [], harness := (true, "e9d9650d3bae292ce6f58b6ac6862bd4ce7ab14a75584d449666fa084568385c"), looks := true }, kinds := [], alts := [], laidByText := true, laidKinds := [.data, .data, .data, .data, .handle, .pinned, .pinned], laidTests := true, laidLooks := .later }
def DumpPrintsCardSaid : Prop := Claim7.holds Tryd.pinned (.plain (OpenSpec.ofChange dumpPrintsSpec)) dumpPrintsCard

/-- THE TIED CARD OF 'busbarlaw27.DumpBack'. -/
def dumpBackCard : Claim7 := { stood := { row := dumpBackRow, standIns := [], harness := (true, "e9d9650d3bae292ce6f58b6ac6862bd4ce7ab14a75584d449666fa084568385c"), looks := true }, kinds := [], alts := [], laidByText := true, laidKinds := [.data, .data, .data, .data, .sentinel, .sentinel, .pinned, .pinned], laidTests := true, laidLooks := .later }
def DumpBackCardSaid : Prop := Claim7.holds Tryd.pinned (.plain (OpenSpec.ofChange dumpBackSpec)) dumpBackCard

/-- THE TIED CARD OF 'busbarlaw27.DumpForm'. -/
def dumpFormCard : Claim7 := { stood := { row := dumpFormRow, standIns := [], harness := (true, "e9d9650d3bae292ce6f58b6ac6862bd4ce7ab14a75584d449666fa084568385c"), looks := true }, kinds := [], alts := [], laidByText := true, laidKinds := [.data, .data, .data, .data, .sentinel, .sentinel, .pinned, .pinned], laidTests := true, laidLooks := .later }
def DumpFormCardSaid : Prop := Claim7.holds Tryd.pinned (.plain (OpenSpec.ofChange dumpFormSpec)) dumpFormCard

/-- THE TIED CARD OF 'busbarlaw27.DumpAll'. -/
def dumpAllCard : Claim7 := { stood := { row := dumpAllRow, standIns := [], harness := (true, "e9d9650d3bae292ce6f58b6ac6862bd4ce7ab14a75584d449666fa084568385c"), looks := true }, kinds := [], alts := [], laidByText := true, laidKinds := [.data, .data, .data, .data, .sentinel, .sentinel, .pinned, .pinned], laidTests := true, laidLooks := .later }
def DumpAllCardSaid : Prop := Claim7.holds Tryd.pinned (.plain (OpenSpec.ofChange dumpAllSpec)) dumpAllCard

/-- THE SECOND FORM's CARD OF 'busbarlaw27.DumpPrints'. -/
def dumpPrintsUptoCard : Claim7 := { stood := { row := dumpPrintsUptoRow, standIns := [], harness := (true, "e9d9650d3bae292ce6f58b6ac6862bd4ce7ab14a75584d449666fa084568385c"), looks := true }, kinds := [], alts := [], laidByText := true, laidKinds := [.data, .data, .data, .data, .handle, .pinned, .pinned], laidTests := true, laidLooks := .later }
def DumpPrintsUptoCardSaid : Prop := Claim7.holds Tryd.pinned (.plain (OpenSpec.upto dumpPrintsSpec)) dumpPrintsUptoCard

/-- THE SECOND FORM's CARD OF 'busbarlaw27.DumpBack'. -/
def dumpBackUptoCard : Claim7 := { stood := { row := dumpBackUptoRow, standIns := [], harness := (true, "e9d9650d3bae292ce6f58b6ac6862bd4ce7ab14a75584d449666fa084568385c"), looks := true }, kinds := [], alts := [], laidByText := true, laidKinds := [.data, .data, .data, .data, .sentinel, .sentinel, .pinned, .pinned], laidTests := true, laidLooks := .later }
def DumpBackUptoCardSaid : Prop := Claim7.holds Tryd.pinned (.plain (OpenSpec.upto dumpBackSpec)) dumpBackUptoCard

/-- THE SECOND FORM's CARD OF 'busbarlaw27.DumpForm'. -/
def dumpFormUptoCard : Claim7 := { stood := { row := dumpFormUptoRow, standIns := [], harness := (true, "e9d9650d3bae292ce6f58b6ac6862bd4ce7ab14a75584d449666fa084568385c"), looks := true }, kinds := [], alts := [], laidByText := true, laidKinds := [.data, .data, .data, .data, .sentinel, .sentinel, .pinned, .pinned], laidTests := true, laidLooks := .later }
def DumpFormUptoCardSaid : Prop := Claim7.holds Tryd.pinned (.plain (OpenSpec.upto dumpFormSpec)) dumpFormUptoCard

/-- THE SECOND FORM's CARD OF 'busbarlaw27.DumpAll'. -/
def dumpAllUptoCard : Claim7 := { stood := { row := dumpAllUptoRow, standIns := [], harness := (true, "e9d9650d3bae292ce6f58b6ac6862bd4ce7ab14a75584d449666fa084568385c"), looks := true }, kinds := [], alts := [], laidByText := true, laidKinds := [.data, .data, .data, .data, .sentinel, .sentinel, .pinned, .pinned], laidTests := true, laidLooks := .later }
def DumpAllUptoCardSaid : Prop := Claim7.holds Tryd.pinned (.plain (OpenSpec.upto dumpAllSpec)) dumpAllUptoCard
end Rows
end Go.Proofs.YtpeeonfpmgddoaaDoor
