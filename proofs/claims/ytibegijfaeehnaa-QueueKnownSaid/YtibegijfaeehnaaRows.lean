/-
  No cell of these rows narrows 'for every input' (looked for: loops, veiled, ifaces, maps, wideKeys, modest, calm, conditions, laid).
  DERIVED. THE GIVEN ROWS OF THIS SEAT. 12 by the template 'for every input the law returns true; each argument reads behind the call as it read before'; 0 by the template 'total and deterministic' (their statements: YtibegijfaeehnaaTotals.lean).
  GIVEN WITH THE SEED: the statements are not yours to turn. If you find one false, say at which input.
  Laid BY PROGRAM, IN A SANDBOX (cutbox-rows.mjs): the forced cells as the released guide's own fill.sh prints them over the translation 3a1a2cd72866687b… (all of the seat's roots in one cut). By AI agents, Wed Nov 11 2026. No macro, syntax, notation, axiom, sorry.
-/
import Derived.Test.YtibegijfaeehnaaChecked
import GoSem.Claim
import GoSem.ClaimJoined
import GoSem.ClaimMapViews
import Derived.JoinedTies
import Derived.KernelRfl
namespace Go.Proofs.Ytibegijfaeehnaa
/- THE CELL 'sum', in the pinned program and in every row, IS THE sha256 OF THE DUMP (.gsa) THAT YtibegijfaeehnaaProg.lean LOADS. Nothing in Lean hashes anything: it is a label: what it is worth is what the hold of that sum in a sandbox is worth. -/
noncomputable def Try.pinned : Pinned := { name := "ytibegijfaeehnaa", sum := "3a1a2cd72866687b86f986f8850166792af6609caa5ad24ddfc3358768d2cc5d", checked := Try.checked }
namespace Rows
def none {H : Type} : Left H := { results := [], args := [] }

/-- 'busbarlaw22.FrameThere': WHATEVER THE INPUT: true; the input reads as it did. -/
def frameThereSpec : ChangeSpec := { name := "frameThere", fn := fun _ => fun
  | [d] => { results := [.lit (.bool true)], args := [d] }
  | _ => none }
def frameThereRow : OpenClaim := { program := "ytibegijfaeehnaa", sum := "3a1a2cd72866687b86f986f8850166792af6609caa5ad24ddfc3358768d2cc5d", func := "busbar/busbarlaw22.FrameThere", spec := "frameThere", unfollowed := true, recurses := true, apart := false }
def FrameThereSaid : Prop := frameThereRow.holds Try.pinned (OpenSpec.ofChange frameThereSpec)

/-- ITS FALSE NEIGHBOUR: 'it returns false'. Refute it at one input. -/
def frameThereWrong : ChangeSpec := { name := "frameThere", fn := fun _ => fun
  | [d] => { results := [.lit (.bool false)], args := [d] }
  | _ => none }
def FrameThereWrongFalsely : Prop := frameThereRow.holds Try.pinned (OpenSpec.ofChange frameThereWrong)

/-- 'busbarlaw22.FrameOnly': WHATEVER THE INPUT: true; the input reads as it did. -/
def frameOnlySpec : ChangeSpec := { name := "frameOnly", fn := fun _ => fun
  | [d] => { results := [.lit (.bool true)], args := [d] }
  | _ => none }
def frameOnlyRow : OpenClaim := { program := "ytibegijfaeehnaa", sum := "3a1a2cd72866687b86f986f8850166792af6609caa5ad24ddfc3358768d2cc5d", func := "busbar/busbarlaw22.FrameOnly", spec := "frameOnly", unfollowed := true, recurses := true, apart := false }
def FrameOnlySaid : Prop := frameOnlyRow.holds Try.pinned (OpenSpec.ofChange frameOnlySpec)

/-- ITS FALSE NEIGHBOUR: 'it returns false'. Refute it at one input. -/
def frameOnlyWrong : ChangeSpec := { name := "frameOnly", fn := fun _ => fun
  | [d] => { results := [.lit (.bool false)], args := [d] }
  | _ => none }
def FrameOnlyWrongFalsely : Prop := frameOnlyRow.holds Try.pinned (OpenSpec.ofChange frameOnlyWrong)

/-- 'busbarlaw22.FrameFive': WHATEVER THE INPUT: true; the input reads as it did. -/
def frameFiveSpec : ChangeSpec := { name := "frameFive", fn := fun _ => fun
  | [d1, d2] => { results := [.lit (.bool true)], args := [d1, d2] }
  | _ => none }
def frameFiveRow : OpenClaim := { program := "ytibegijfaeehnaa", sum := "3a1a2cd72866687b86f986f8850166792af6609caa5ad24ddfc3358768d2cc5d", func := "busbar/busbarlaw22.FrameFive", spec := "frameFive", unfollowed := true, recurses := true, apart := false }
def FrameFiveSaid : Prop := frameFiveRow.holds Try.pinned (OpenSpec.ofChange frameFiveSpec)

/-- ITS FALSE NEIGHBOUR: 'it returns false'. Refute it at one input. -/
def frameFiveWrong : ChangeSpec := { name := "frameFive", fn := fun _ => fun
  | [d1, d2] => { results := [.lit (.bool false)], args := [d1, d2] }
  | _ => none }
def FrameFiveWrongFalsely : Prop := frameFiveRow.holds Try.pinned (OpenSpec.ofChange frameFiveWrong)

/-- 'busbarlaw22.FrameWires': WHATEVER THE INPUT: true; the input reads as it did. -/
def frameWiresSpec : ChangeSpec := { name := "frameWires", fn := fun _ => fun
  | [d] => { results := [.lit (.bool true)], args := [d] }
  | _ => none }
def frameWiresRow : OpenClaim := { program := "ytibegijfaeehnaa", sum := "3a1a2cd72866687b86f986f8850166792af6609caa5ad24ddfc3358768d2cc5d", func := "busbar/busbarlaw22.FrameWires", spec := "frameWires", apart := false }
def FrameWiresSaid : Prop := frameWiresRow.holds Try.pinned (OpenSpec.ofChange frameWiresSpec)

/-- ITS FALSE NEIGHBOUR: 'it returns false'. Refute it at one input. -/
def frameWiresWrong : ChangeSpec := { name := "frameWires", fn := fun _ => fun
  | [d] => { results := [.lit (.bool false)], args := [d] }
  | _ => none }
def FrameWiresWrongFalsely : Prop := frameWiresRow.holds Try.pinned (OpenSpec.ofChange frameWiresWrong)

/-- 'busbarlaw23.QueueOut': WHATEVER THE INPUT: true; the input reads as it did. -/
def queueOutSpec : ChangeSpec := { name := "queueOut", fn := fun _ => fun
  | [d1, d2] => { results := [.lit (.bool true)], args := [d1, d2] }
  | _ => none }
def queueOutRow : OpenClaim := { program := "ytibegijfaeehnaa", sum := "3a1a2cd72866687b86f986f8850166792af6609caa5ad24ddfc3358768d2cc5d", func := "busbar/busbarlaw23.QueueOut", spec := "queueOut", inPlace := ["internal/reflectlite.TypeOf"], unfollowed := true, recurses := true, apart := false }
def QueueOutSaid : Prop := queueOutRow.holds Try.pinned (OpenSpec.ofChange queueOutSpec)

/-- ITS FALSE NEIGHBOUR: 'it returns false'. Refute it at one input. -/
def queueOutWrong : ChangeSpec := { name := "queueOut", fn := fun _ => fun
  | [d1, d2] => { results := [.lit (.bool false)], args := [d1, d2] }
  | _ => none }
def QueueOutWrongFalsely : Prop := queueOutRow.holds Try.pinned (OpenSpec.ofChange queueOutWrong)

/-- 'busbarlaw23.QueueKnown': WHATEVER THE INPUT: true; the input reads as it did. -/
def queueKnownSpec : ChangeSpec := { name := "queueKnown", fn := fun _ => fun
  | [] => { results := [.lit (.bool true)], args := [] }
  | _ => none }
def queueKnownRow : OpenClaim := { program := "ytibegijfaeehnaa", sum := "3a1a2cd72866687b86f986f8850166792af6609caa5ad24ddfc3358768d2cc5d", func := "busbar/busbarlaw23.QueueKnown", spec := "queueKnown", inPlace := ["internal/reflectlite.TypeOf"], unfollowed := true, recurses := true, apart := false }
def QueueKnownSaid : Prop := queueKnownRow.holds Try.pinned (OpenSpec.ofChange queueKnownSpec)

/-- ITS FALSE NEIGHBOUR: 'it returns false'. Refute it at one input. -/
def queueKnownWrong : ChangeSpec := { name := "queueKnown", fn := fun _ => fun
  | [] => { results := [.lit (.bool false)], args := [] }
  | _ => none }
def QueueKnownWrongFalsely : Prop := queueKnownRow.holds Try.pinned (OpenSpec.ofChange queueKnownWrong)

/-- 'busbarlaw23.QueueLasts': WHATEVER THE INPUT: true; the input reads as it did. -/
def queueLastsSpec : ChangeSpec := { name := "queueLasts", fn := fun _ => fun
  | [d1, d2, d3, d4] => { results := [.lit (.bool true)], args := [d1, d2, d3, d4] }
  | _ => none }
def queueLastsRow : OpenClaim := { program := "ytibegijfaeehnaa", sum := "3a1a2cd72866687b86f986f8850166792af6609caa5ad24ddfc3358768d2cc5d", func := "busbar/busbarlaw23.QueueLasts", spec := "queueLasts", unfollowed := true, recurses := true, apart := false }
def QueueLastsSaid : Prop := queueLastsRow.holds Try.pinned (OpenSpec.ofChange queueLastsSpec)

/-- ITS FALSE NEIGHBOUR: 'it returns false'. Refute it at one input. -/
def queueLastsWrong : ChangeSpec := { name := "queueLasts", fn := fun _ => fun
  | [d1, d2, d3, d4] => { results := [.lit (.bool false)], args := [d1, d2, d3, d4] }
  | _ => none }
def QueueLastsWrongFalsely : Prop := queueLastsRow.holds Try.pinned (OpenSpec.ofChange queueLastsWrong)

/-- 'busbarlaw05.NodeLists': WHATEVER THE INPUT: true; the input reads as it did. -/
def nodeListsSpec : ChangeSpec := { name := "nodeLists", fn := fun _ => fun
  | [d] => { results := [.lit (.bool true)], args := [d] }
  | _ => none }
def nodeListsRow : OpenClaim := { program := "ytibegijfaeehnaa", sum := "3a1a2cd72866687b86f986f8850166792af6609caa5ad24ddfc3358768d2cc5d", func := "busbar/busbarlaw05.NodeLists", spec := "nodeLists", unfollowed := true, recurses := true, apart := false }
def NodeListsSaid : Prop := nodeListsRow.holds Try.pinned (OpenSpec.ofChange nodeListsSpec)

/-- ITS FALSE NEIGHBOUR: 'it returns false'. Refute it at one input. -/
def nodeListsWrong : ChangeSpec := { name := "nodeLists", fn := fun _ => fun
  | [d] => { results := [.lit (.bool false)], args := [d] }
  | _ => none }
def NodeListsWrongFalsely : Prop := nodeListsRow.holds Try.pinned (OpenSpec.ofChange nodeListsWrong)

/-- 'busbarlaw05.NodeNames': WHATEVER THE INPUT: true; the input reads as it did. -/
def nodeNamesSpec : ChangeSpec := { name := "nodeNames", fn := fun _ => fun
  | [d] => { results := [.lit (.bool true)], args := [d] }
  | _ => none }
def nodeNamesRow : OpenClaim := { program := "ytibegijfaeehnaa", sum := "3a1a2cd72866687b86f986f8850166792af6609caa5ad24ddfc3358768d2cc5d", func := "busbar/busbarlaw05.NodeNames", spec := "nodeNames", apart := false }
def NodeNamesSaid : Prop := nodeNamesRow.holds Try.pinned (OpenSpec.ofChange nodeNamesSpec)

/-- ITS FALSE NEIGHBOUR: 'it returns false'. Refute it at one input. -/
def nodeNamesWrong : ChangeSpec := { name := "nodeNames", fn := fun _ => fun
  | [d] => { results := [.lit (.bool false)], args := [d] }
  | _ => none }
def NodeNamesWrongFalsely : Prop := nodeNamesRow.holds Try.pinned (OpenSpec.ofChange nodeNamesWrong)

/-- 'busbarlaw05.NodeFinds': WHATEVER THE INPUT: true; the input reads as it did. -/
def nodeFindsSpec : ChangeSpec := { name := "nodeFinds", fn := fun _ => fun
  | [d1, d2] => { results := [.lit (.bool true)], args := [d1, d2] }
  | _ => none }
def nodeFindsRow : OpenClaim := { program := "ytibegijfaeehnaa", sum := "3a1a2cd72866687b86f986f8850166792af6609caa5ad24ddfc3358768d2cc5d", func := "busbar/busbarlaw05.NodeFinds", spec := "nodeFinds", unfollowed := true, recurses := true, apart := false }
def NodeFindsSaid : Prop := nodeFindsRow.holds Try.pinned (OpenSpec.ofChange nodeFindsSpec)

/-- ITS FALSE NEIGHBOUR: 'it returns false'. Refute it at one input. -/
def nodeFindsWrong : ChangeSpec := { name := "nodeFinds", fn := fun _ => fun
  | [d1, d2] => { results := [.lit (.bool false)], args := [d1, d2] }
  | _ => none }
def NodeFindsWrongFalsely : Prop := nodeFindsRow.holds Try.pinned (OpenSpec.ofChange nodeFindsWrong)

/-- 'busbarlaw05.NodeBack': WHATEVER THE INPUT: true; the input reads as it did. -/
def nodeBackSpec : ChangeSpec := { name := "nodeBack", fn := fun _ => fun
  | [d] => { results := [.lit (.bool true)], args := [d] }
  | _ => none }
def nodeBackRow : OpenClaim := { program := "ytibegijfaeehnaa", sum := "3a1a2cd72866687b86f986f8850166792af6609caa5ad24ddfc3358768d2cc5d", func := "busbar/busbarlaw05.NodeBack", spec := "nodeBack", apart := false }
def NodeBackSaid : Prop := nodeBackRow.holds Try.pinned (OpenSpec.ofChange nodeBackSpec)

/-- ITS FALSE NEIGHBOUR: 'it returns false'. Refute it at one input. -/
def nodeBackWrong : ChangeSpec := { name := "nodeBack", fn := fun _ => fun
  | [d] => { results := [.lit (.bool false)], args := [d] }
  | _ => none }
def NodeBackWrongFalsely : Prop := nodeBackRow.holds Try.pinned (OpenSpec.ofChange nodeBackWrong)

/-- 'busbarlaw11.PhysTexts': WHATEVER THE INPUT: true; the input reads as it did. -/
def physTextsSpec : ChangeSpec := { name := "physTexts", fn := fun _ => fun
  | [d1, d2, d3, d4] => { results := [.lit (.bool true)], args := [d1, d2, d3, d4] }
  | _ => none }
def physTextsRow : OpenClaim := { program := "ytibegijfaeehnaa", sum := "3a1a2cd72866687b86f986f8850166792af6609caa5ad24ddfc3358768d2cc5d", func := "busbar/busbarlaw11.PhysTexts", spec := "physTexts", apart := false }
def PhysTextsSaid : Prop := physTextsRow.holds Try.pinned (OpenSpec.ofChange physTextsSpec)

/-- ITS FALSE NEIGHBOUR: 'it returns false'. Refute it at one input. -/
def physTextsWrong : ChangeSpec := { name := "physTexts", fn := fun _ => fun
  | [d1, d2, d3, d4] => { results := [.lit (.bool false)], args := [d1, d2, d3, d4] }
  | _ => none }
def PhysTextsWrongFalsely : Prop := physTextsRow.holds Try.pinned (OpenSpec.ofChange physTextsWrong)

/- THE SECOND FORM. 'bulk': how many values and letters a reading holds, each counted each time it is reached (what is shared counts as often as it is met; a slice's spare places count too). A statement '..UptoSaid' is the law's where the arguments, and the package variables that the reading takes, are together of bulk at most 1048576: NARROWER than '..Said'. Prove '..Said' where nothing that the law and all that it calls make is longer than what came in: it says more and counts as full. Else prove '..UptoSaid'. A law counts once. -/
mutual
def uptoBulk {H : Type} : DataW H → Nat
  | .lit (.string bytes) => bytes.length + 1
  | .lit _ => 1
  | .nil => 1
  | .ptr d => uptoBulk d + 1
  | .slice elems spare => uptoBulkAll elems + uptoBulkAll spare + 1
  | .agg parts => uptoBulkAll parts + 1
  | .iface _ d => uptoBulk d + 1
  | .map entries => uptoBulkEntries entries + 1
  | .held _ => 1
def uptoBulkAll {H : Type} : List (DataW H) → Nat
  | [] => 0
  | d :: r => uptoBulk d + uptoBulkAll r
def uptoBulkEntries {H : Type} : List (Lit × DataW H) → Nat
  | [] => 0
  | x :: r => uptoBulkEntry x + uptoBulkEntries r
def uptoBulkEntry {H : Type} : Lit × DataW H → Nat
  | (.string bytes, d) => bytes.length + uptoBulk d + 1
  | (_, d) => uptoBulk d + 1
 end
def uptoSmall : (H : Type) → List (DataW H) → Bool := fun _ ds => decide (uptoBulkAll ds ≤ 1048576)
def OpenSpec.upto (s : _root_.Go.ChangeSpec) : _root_.Go.OpenSpec := { _root_.Go.OpenSpec.ofChange s with cond := some uptoSmall }

/-- 'busbarlaw22.FrameThere', WHERE WHAT IT READS IS OF BULK AT MOST 1048576: true; the input reads as it did. -/
def frameThereUptoRow : OpenClaim := { program := "ytibegijfaeehnaa", sum := "3a1a2cd72866687b86f986f8850166792af6609caa5ad24ddfc3358768d2cc5d", func := "busbar/busbarlaw22.FrameThere", spec := "frameThere", unfollowed := true, recurses := true, apart := false, narrowed := true }
def FrameThereUptoSaid : Prop := frameThereUptoRow.holds Try.pinned (OpenSpec.upto frameThereSpec)

/-- 'busbarlaw22.FrameOnly', WHERE WHAT IT READS IS OF BULK AT MOST 1048576: true; the input reads as it did. -/
def frameOnlyUptoRow : OpenClaim := { program := "ytibegijfaeehnaa", sum := "3a1a2cd72866687b86f986f8850166792af6609caa5ad24ddfc3358768d2cc5d", func := "busbar/busbarlaw22.FrameOnly", spec := "frameOnly", unfollowed := true, recurses := true, apart := false, narrowed := true }
def FrameOnlyUptoSaid : Prop := frameOnlyUptoRow.holds Try.pinned (OpenSpec.upto frameOnlySpec)

/-- 'busbarlaw22.FrameFive', WHERE WHAT IT READS IS OF BULK AT MOST 1048576: true; the input reads as it did. -/
def frameFiveUptoRow : OpenClaim := { program := "ytibegijfaeehnaa", sum := "3a1a2cd72866687b86f986f8850166792af6609caa5ad24ddfc3358768d2cc5d", func := "busbar/busbarlaw22.FrameFive", spec := "frameFive", unfollowed := true, recurses := true, apart := false, narrowed := true }
def FrameFiveUptoSaid : Prop := frameFiveUptoRow.holds Try.pinned (OpenSpec.upto frameFiveSpec)

/-- 'busbarlaw22.FrameWires', WHERE WHAT IT READS IS OF BULK AT MOST 1048576: true; the input reads as it did. -/
def frameWiresUptoRow : OpenClaim := { program := "ytibegijfaeehnaa", sum := "3a1a2cd72866687b86f986f8850166792af6609caa5ad24ddfc3358768d2cc5d", func := "busbar/busbarlaw22.FrameWires", spec := "frameWires", apart := false, narrowed := true }
def FrameWiresUptoSaid : Prop := frameWiresUptoRow.holds Try.pinned (OpenSpec.upto frameWiresSpec)

/-- 'busbarlaw23.QueueOut', WHERE WHAT IT READS IS OF BULK AT MOST 1048576: true; the input reads as it did. -/
def queueOutUptoRow : OpenClaim := { program := "ytibegijfaeehnaa", sum := "3a1a2cd72866687b86f986f8850166792af6609caa5ad24ddfc3358768d2cc5d", func := "busbar/busbarlaw23.QueueOut", spec := "queueOut", inPlace := ["internal/reflectlite.TypeOf"], unfollowed := true, recurses := true, apart := false, narrowed := true }
def QueueOutUptoSaid : Prop := queueOutUptoRow.holds Try.pinned (OpenSpec.upto queueOutSpec)

/-- 'busbarlaw23.QueueKnown', WHERE WHAT IT READS IS OF BULK AT MOST 1048576: true; the input reads as it did. -/
def queueKnownUptoRow : OpenClaim := { program := "ytibegijfaeehnaa", sum := "3a1a2cd72866687b86f986f8850166792af6609caa5ad24ddfc3358768d2cc5d", func := "busbar/busbarlaw23.QueueKnown", spec := "queueKnown", inPlace := ["internal/reflectlite.TypeOf"], unfollowed := true, recurses := true, apart := false, narrowed := true }
def QueueKnownUptoSaid : Prop := queueKnownUptoRow.holds Try.pinned (OpenSpec.upto queueKnownSpec)

/-- 'busbarlaw23.QueueLasts', WHERE WHAT IT READS IS OF BULK AT MOST 1048576: true; the input reads as it did. -/
def queueLastsUptoRow : OpenClaim := { program := "ytibegijfaeehnaa", sum := "3a1a2cd72866687b86f986f8850166792af6609caa5ad24ddfc3358768d2cc5d", func := "busbar/busbarlaw23.QueueLasts", spec := "queueLasts", unfollowed := true, recurses := true, apart := false, narrowed := true }
def QueueLastsUptoSaid : Prop := queueLastsUptoRow.holds Try.pinned (OpenSpec.upto queueLastsSpec)

/-- 'busbarlaw05.NodeLists', WHERE WHAT IT READS IS OF BULK AT MOST 1048576: true; the input reads as it did. -/
def nodeListsUptoRow : OpenClaim := { program := "ytibegijfaeehnaa", sum := "3a1a2cd72866687b86f986f8850166792af6609caa5ad24ddfc3358768d2cc5d", func := "busbar/busbarlaw05.NodeLists", spec := "nodeLists", unfollowed := true, recurses := true, apart := false, narrowed := true }
def NodeListsUptoSaid : Prop := nodeListsUptoRow.holds Try.pinned (OpenSpec.upto nodeListsSpec)

/-- 'busbarlaw05.NodeNames', WHERE WHAT IT READS IS OF BULK AT MOST 1048576: true; the input reads as it did. -/
def nodeNamesUptoRow : OpenClaim := { program := "ytibegijfaeehnaa", sum := "3a1a2cd72866687b86f986f8850166792af6609caa5ad24ddfc3358768d2cc5d", func := "busbar/busbarlaw05.NodeNames", spec := "nodeNames", apart := false, narrowed := true }
def NodeNamesUptoSaid : Prop := nodeNamesUptoRow.holds Try.pinned (OpenSpec.upto nodeNamesSpec)

/-- 'busbarlaw05.NodeFinds', WHERE WHAT IT READS IS OF BULK AT MOST 1048576: true; the input reads as it did. -/
def nodeFindsUptoRow : OpenClaim := { program := "ytibegijfaeehnaa", sum := "3a1a2cd72866687b86f986f8850166792af6609caa5ad24ddfc3358768d2cc5d", func := "busbar/busbarlaw05.NodeFinds", spec := "nodeFinds", unfollowed := true, recurses := true, apart := false, narrowed := true }
def NodeFindsUptoSaid : Prop := nodeFindsUptoRow.holds Try.pinned (OpenSpec.upto nodeFindsSpec)

/-- 'busbarlaw05.NodeBack', WHERE WHAT IT READS IS OF BULK AT MOST 1048576: true; the input reads as it did. -/
def nodeBackUptoRow : OpenClaim := { program := "ytibegijfaeehnaa", sum := "3a1a2cd72866687b86f986f8850166792af6609caa5ad24ddfc3358768d2cc5d", func := "busbar/busbarlaw05.NodeBack", spec := "nodeBack", apart := false, narrowed := true }
def NodeBackUptoSaid : Prop := nodeBackUptoRow.holds Try.pinned (OpenSpec.upto nodeBackSpec)

/-- 'busbarlaw11.PhysTexts', WHERE WHAT IT READS IS OF BULK AT MOST 1048576: true; the input reads as it did. -/
def physTextsUptoRow : OpenClaim := { program := "ytibegijfaeehnaa", sum := "3a1a2cd72866687b86f986f8850166792af6609caa5ad24ddfc3358768d2cc5d", func := "busbar/busbarlaw11.PhysTexts", spec := "physTexts", apart := false, narrowed := true }
def PhysTextsUptoSaid : Prop := physTextsUptoRow.holds Try.pinned (OpenSpec.upto physTextsSpec)

end Rows
end Go.Proofs.Ytibegijfaeehnaa
