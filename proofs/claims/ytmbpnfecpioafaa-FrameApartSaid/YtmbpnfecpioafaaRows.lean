/-
  No cell of these rows narrows 'for every input' (looked for: loops, veiled, ifaces, maps, wideKeys, modest, calm, conditions, laid).
  DERIVED. THE GIVEN ROWS OF THIS SEAT. 12 by the template 'for every input the law returns true; each argument reads behind the call as it read before'; 0 by the template 'total and deterministic' (their statements: YtmbpnfecpioafaaTotals.lean).
  GIVEN WITH THE SEED: the statements are not yours to turn. If you find one false, say at which input.
  Laid BY PROGRAM, IN A SANDBOX (cutbox-rows.mjs): the forced cells as the released guide's own fill.sh prints them over the translation 423cb41459e38362… (all of the seat's roots in one cut). By AI agents, Wed Nov 11 2026. No macro, syntax, notation, axiom, sorry.
-/
import Derived.Test.YtmbpnfecpioafaaChecked
import GoSem.Claim
import GoSem.ClaimJoined
import GoSem.ClaimMapViews
import Derived.JoinedTies
import Derived.KernelRfl
namespace Go.Proofs.Ytmbpnfecpioafaa
/- THE CELL 'sum', in the pinned program and in every row, IS THE sha256 OF THE DUMP (.gsa) THAT YtmbpnfecpioafaaProg.lean LOADS. Nothing in Lean hashes anything: it is a label: what it is worth is what the hold of that sum in a sandbox is worth. -/
noncomputable def Try.pinned : Pinned := { name := "ytmbpnfecpioafaa", sum := "423cb41459e3836278e151115ee57a132c0f55ec8f76971a9877c790d66453d4", checked := Try.checked }
namespace Rows
def none {H : Type} : Left H := { results := [], args := [] }

/-- 'busbarlaw23.QueueAhead': WHATEVER THE INPUT: true; the input reads as it did. -/
def queueAheadSpec : ChangeSpec := { name := "queueAhead", fn := fun _ => fun
  | [d1, d2] => { results := [.lit (.bool true)], args := [d1, d2] }
  | _ => none }
def queueAheadRow : OpenClaim := { program := "ytmbpnfecpioafaa", sum := "423cb41459e3836278e151115ee57a132c0f55ec8f76971a9877c790d66453d4", func := "busbar/busbarlaw23.QueueAhead", spec := "queueAhead", apart := false }
def QueueAheadSaid : Prop := queueAheadRow.holds Try.pinned (OpenSpec.ofChange queueAheadSpec)

/-- ITS FALSE NEIGHBOUR: 'it returns false'. Refute it at one input. -/
def queueAheadWrong : ChangeSpec := { name := "queueAhead", fn := fun _ => fun
  | [d1, d2] => { results := [.lit (.bool false)], args := [d1, d2] }
  | _ => none }
def QueueAheadWrongFalsely : Prop := queueAheadRow.holds Try.pinned (OpenSpec.ofChange queueAheadWrong)

/-- 'busbarlaw23.QueueOrder': WHATEVER THE INPUT: true; the input reads as it did. -/
def queueOrderSpec : ChangeSpec := { name := "queueOrder", fn := fun _ => fun
  | [d1, d2, d3] => { results := [.lit (.bool true)], args := [d1, d2, d3] }
  | _ => none }
def queueOrderRow : OpenClaim := { program := "ytmbpnfecpioafaa", sum := "423cb41459e3836278e151115ee57a132c0f55ec8f76971a9877c790d66453d4", func := "busbar/busbarlaw23.QueueOrder", spec := "queueOrder", apart := false }
def QueueOrderSaid : Prop := queueOrderRow.holds Try.pinned (OpenSpec.ofChange queueOrderSpec)

/-- ITS FALSE NEIGHBOUR: 'it returns false'. Refute it at one input. -/
def queueOrderWrong : ChangeSpec := { name := "queueOrder", fn := fun _ => fun
  | [d1, d2, d3] => { results := [.lit (.bool false)], args := [d1, d2, d3] }
  | _ => none }
def QueueOrderWrongFalsely : Prop := queueOrderRow.holds Try.pinned (OpenSpec.ofChange queueOrderWrong)

/-- 'busbarlaw10.RawEnds': WHATEVER THE INPUT: true; the input reads as it did. -/
def rawEndsSpec : ChangeSpec := { name := "rawEnds", fn := fun _ => fun
  | [d1, d2] => { results := [.lit (.bool true)], args := [d1, d2] }
  | _ => none }
def rawEndsRow : OpenClaim := { program := "ytmbpnfecpioafaa", sum := "423cb41459e3836278e151115ee57a132c0f55ec8f76971a9877c790d66453d4", func := "busbar/busbarlaw10.RawEnds", spec := "rawEnds", apart := false }
def RawEndsSaid : Prop := rawEndsRow.holds Try.pinned (OpenSpec.ofChange rawEndsSpec)

/-- ITS FALSE NEIGHBOUR: 'it returns false'. Refute it at one input. -/
def rawEndsWrong : ChangeSpec := { name := "rawEnds", fn := fun _ => fun
  | [d1, d2] => { results := [.lit (.bool false)], args := [d1, d2] }
  | _ => none }
def RawEndsWrongFalsely : Prop := rawEndsRow.holds Try.pinned (OpenSpec.ofChange rawEndsWrong)

/-- 'busbarlaw10.RawFits': WHATEVER THE INPUT: true; the input reads as it did. -/
def rawFitsSpec : ChangeSpec := { name := "rawFits", fn := fun _ => fun
  | [d1, d2, d3] => { results := [.lit (.bool true)], args := [d1, d2, d3] }
  | _ => none }
def rawFitsRow : OpenClaim := { program := "ytmbpnfecpioafaa", sum := "423cb41459e3836278e151115ee57a132c0f55ec8f76971a9877c790d66453d4", func := "busbar/busbarlaw10.RawFits", spec := "rawFits", apart := false }
def RawFitsSaid : Prop := rawFitsRow.holds Try.pinned (OpenSpec.ofChange rawFitsSpec)

/-- ITS FALSE NEIGHBOUR: 'it returns false'. Refute it at one input. -/
def rawFitsWrong : ChangeSpec := { name := "rawFits", fn := fun _ => fun
  | [d1, d2, d3] => { results := [.lit (.bool false)], args := [d1, d2, d3] }
  | _ => none }
def RawFitsWrongFalsely : Prop := rawFitsRow.holds Try.pinned (OpenSpec.ofChange rawFitsWrong)

/-- 'busbarlaw22.FrameWires': WHATEVER THE INPUT: true; the input reads as it did. -/
def frameWiresSpec : ChangeSpec := { name := "frameWires", fn := fun _ => fun
  | [d] => { results := [.lit (.bool true)], args := [d] }
  | _ => none }
def frameWiresRow : OpenClaim := { program := "ytmbpnfecpioafaa", sum := "423cb41459e3836278e151115ee57a132c0f55ec8f76971a9877c790d66453d4", func := "busbar/busbarlaw22.FrameWires", spec := "frameWires", apart := false }
def FrameWiresSaid : Prop := frameWiresRow.holds Try.pinned (OpenSpec.ofChange frameWiresSpec)

/-- ITS FALSE NEIGHBOUR: 'it returns false'. Refute it at one input. -/
def frameWiresWrong : ChangeSpec := { name := "frameWires", fn := fun _ => fun
  | [d] => { results := [.lit (.bool false)], args := [d] }
  | _ => none }
def FrameWiresWrongFalsely : Prop := frameWiresRow.holds Try.pinned (OpenSpec.ofChange frameWiresWrong)

/-- 'busbarlaw05.NodeLists': WHATEVER THE INPUT: true; the input reads as it did. -/
def nodeListsSpec : ChangeSpec := { name := "nodeLists", fn := fun _ => fun
  | [d] => { results := [.lit (.bool true)], args := [d] }
  | _ => none }
def nodeListsRow : OpenClaim := { program := "ytmbpnfecpioafaa", sum := "423cb41459e3836278e151115ee57a132c0f55ec8f76971a9877c790d66453d4", func := "busbar/busbarlaw05.NodeLists", spec := "nodeLists", unfollowed := true, recurses := true, apart := false }
def NodeListsSaid : Prop := nodeListsRow.holds Try.pinned (OpenSpec.ofChange nodeListsSpec)

/-- ITS FALSE NEIGHBOUR: 'it returns false'. Refute it at one input. -/
def nodeListsWrong : ChangeSpec := { name := "nodeLists", fn := fun _ => fun
  | [d] => { results := [.lit (.bool false)], args := [d] }
  | _ => none }
def NodeListsWrongFalsely : Prop := nodeListsRow.holds Try.pinned (OpenSpec.ofChange nodeListsWrong)

/-- 'busbarlaw11.PhysTexts': WHATEVER THE INPUT: true; the input reads as it did. -/
def physTextsSpec : ChangeSpec := { name := "physTexts", fn := fun _ => fun
  | [d1, d2, d3, d4] => { results := [.lit (.bool true)], args := [d1, d2, d3, d4] }
  | _ => none }
def physTextsRow : OpenClaim := { program := "ytmbpnfecpioafaa", sum := "423cb41459e3836278e151115ee57a132c0f55ec8f76971a9877c790d66453d4", func := "busbar/busbarlaw11.PhysTexts", spec := "physTexts", apart := false }
def PhysTextsSaid : Prop := physTextsRow.holds Try.pinned (OpenSpec.ofChange physTextsSpec)

/-- ITS FALSE NEIGHBOUR: 'it returns false'. Refute it at one input. -/
def physTextsWrong : ChangeSpec := { name := "physTexts", fn := fun _ => fun
  | [d1, d2, d3, d4] => { results := [.lit (.bool false)], args := [d1, d2, d3, d4] }
  | _ => none }
def PhysTextsWrongFalsely : Prop := physTextsRow.holds Try.pinned (OpenSpec.ofChange physTextsWrong)

/-- 'busbarlaw23.QueueLasts': WHATEVER THE INPUT: true; the input reads as it did. -/
def queueLastsSpec : ChangeSpec := { name := "queueLasts", fn := fun _ => fun
  | [d1, d2, d3, d4] => { results := [.lit (.bool true)], args := [d1, d2, d3, d4] }
  | _ => none }
def queueLastsRow : OpenClaim := { program := "ytmbpnfecpioafaa", sum := "423cb41459e3836278e151115ee57a132c0f55ec8f76971a9877c790d66453d4", func := "busbar/busbarlaw23.QueueLasts", spec := "queueLasts", unfollowed := true, recurses := true, apart := false }
def QueueLastsSaid : Prop := queueLastsRow.holds Try.pinned (OpenSpec.ofChange queueLastsSpec)

/-- ITS FALSE NEIGHBOUR: 'it returns false'. Refute it at one input. -/
def queueLastsWrong : ChangeSpec := { name := "queueLasts", fn := fun _ => fun
  | [d1, d2, d3, d4] => { results := [.lit (.bool false)], args := [d1, d2, d3, d4] }
  | _ => none }
def QueueLastsWrongFalsely : Prop := queueLastsRow.holds Try.pinned (OpenSpec.ofChange queueLastsWrong)

/-- 'busbarlaw05.NodeNames': WHATEVER THE INPUT: true; the input reads as it did. -/
def nodeNamesSpec : ChangeSpec := { name := "nodeNames", fn := fun _ => fun
  | [d] => { results := [.lit (.bool true)], args := [d] }
  | _ => none }
def nodeNamesRow : OpenClaim := { program := "ytmbpnfecpioafaa", sum := "423cb41459e3836278e151115ee57a132c0f55ec8f76971a9877c790d66453d4", func := "busbar/busbarlaw05.NodeNames", spec := "nodeNames", apart := false }
def NodeNamesSaid : Prop := nodeNamesRow.holds Try.pinned (OpenSpec.ofChange nodeNamesSpec)

/-- ITS FALSE NEIGHBOUR: 'it returns false'. Refute it at one input. -/
def nodeNamesWrong : ChangeSpec := { name := "nodeNames", fn := fun _ => fun
  | [d] => { results := [.lit (.bool false)], args := [d] }
  | _ => none }
def NodeNamesWrongFalsely : Prop := nodeNamesRow.holds Try.pinned (OpenSpec.ofChange nodeNamesWrong)

/-- 'busbarlaw05.NodeFinds': WHATEVER THE INPUT: true; the input reads as it did. -/
def nodeFindsSpec : ChangeSpec := { name := "nodeFinds", fn := fun _ => fun
  | [d1, d2] => { results := [.lit (.bool true)], args := [d1, d2] }
  | _ => none }
def nodeFindsRow : OpenClaim := { program := "ytmbpnfecpioafaa", sum := "423cb41459e3836278e151115ee57a132c0f55ec8f76971a9877c790d66453d4", func := "busbar/busbarlaw05.NodeFinds", spec := "nodeFinds", unfollowed := true, recurses := true, apart := false }
def NodeFindsSaid : Prop := nodeFindsRow.holds Try.pinned (OpenSpec.ofChange nodeFindsSpec)

/-- ITS FALSE NEIGHBOUR: 'it returns false'. Refute it at one input. -/
def nodeFindsWrong : ChangeSpec := { name := "nodeFinds", fn := fun _ => fun
  | [d1, d2] => { results := [.lit (.bool false)], args := [d1, d2] }
  | _ => none }
def NodeFindsWrongFalsely : Prop := nodeFindsRow.holds Try.pinned (OpenSpec.ofChange nodeFindsWrong)

/-- 'busbarlaw22.FrameApart': WHATEVER THE INPUT: true; the input reads as it did. -/
def frameApartSpec : ChangeSpec := { name := "frameApart", fn := fun _ => fun
  | [d1, d2] => { results := [.lit (.bool true)], args := [d1, d2] }
  | _ => none }
def frameApartRow : OpenClaim := { program := "ytmbpnfecpioafaa", sum := "423cb41459e3836278e151115ee57a132c0f55ec8f76971a9877c790d66453d4", func := "busbar/busbarlaw22.FrameApart", spec := "frameApart", apart := false }
def FrameApartSaid : Prop := frameApartRow.holds Try.pinned (OpenSpec.ofChange frameApartSpec)

/-- ITS FALSE NEIGHBOUR: 'it returns false'. Refute it at one input. -/
def frameApartWrong : ChangeSpec := { name := "frameApart", fn := fun _ => fun
  | [d1, d2] => { results := [.lit (.bool false)], args := [d1, d2] }
  | _ => none }
def FrameApartWrongFalsely : Prop := frameApartRow.holds Try.pinned (OpenSpec.ofChange frameApartWrong)

/-- 'busbarlaw05.NodeBack': WHATEVER THE INPUT: true; the input reads as it did. -/
def nodeBackSpec : ChangeSpec := { name := "nodeBack", fn := fun _ => fun
  | [d] => { results := [.lit (.bool true)], args := [d] }
  | _ => none }
def nodeBackRow : OpenClaim := { program := "ytmbpnfecpioafaa", sum := "423cb41459e3836278e151115ee57a132c0f55ec8f76971a9877c790d66453d4", func := "busbar/busbarlaw05.NodeBack", spec := "nodeBack", apart := false }
def NodeBackSaid : Prop := nodeBackRow.holds Try.pinned (OpenSpec.ofChange nodeBackSpec)

/-- ITS FALSE NEIGHBOUR: 'it returns false'. Refute it at one input. -/
def nodeBackWrong : ChangeSpec := { name := "nodeBack", fn := fun _ => fun
  | [d] => { results := [.lit (.bool false)], args := [d] }
  | _ => none }
def NodeBackWrongFalsely : Prop := nodeBackRow.holds Try.pinned (OpenSpec.ofChange nodeBackWrong)

/- THE SECOND FORM. 'bulk': how many values and letters a reading holds, each counted each time it is reached (what is shared counts as often as it is met; a slice's spare places count too). A statement '..UptoSaid' is the law's where the arguments, and the package variables that the reading takes, are together of bulk at most 1048576: NARROWER than '..Said'. Prove '..Said' where nothing that the law and all that it calls make is longer than what came in: it says more and counts as full. Else prove '..UptoSaid'. A law counts once. -/
mutual
def uptoBulk {H : Type} : DataW H → Nat
  | .lit (.string bytes) => bytes.length + 1
  | .lit _ => 1
  | .nil => 1
  | .ptr d => uptoBulk d + 1
  | .slice elems spare => uptoBulkAll elems + uptoBulkAll spare + 1
  | .agg parts => uptoBulkAll parts + 1
  | .iface _ d => uptoBulk d + 1
  | .map entries => uptoBulkEntries entries + 1
  | .held _ => 1
def uptoBulkAll {H : Type} : List (DataW H) → Nat
  | [] => 0
  | d :: r => uptoBulk d + uptoBulkAll r
def uptoBulkEntries {H : Type} : List (Lit × DataW H) → Nat
  | [] => 0
  | x :: r => uptoBulkEntry x + uptoBulkEntries r
def uptoBulkEntry {H : Type} : Lit × DataW H → Nat
  | (.string bytes, d) => bytes.length + uptoBulk d + 1
  | (_, d) => uptoBulk d + 1
 end
def uptoSmall : (H : Type) → List (DataW H) → Bool := fun _ ds => decide (uptoBulkAll ds ≤ 1048576)
def OpenSpec.upto (s : _root_.Go.ChangeSpec) : _root_.Go.OpenSpec := { _root_.Go.OpenSpec.ofChange s with cond := some uptoSmall }

/-- 'busbarlaw23.QueueAhead', WHERE WHAT IT READS IS OF BULK AT MOST 1048576: true; the input reads as it did. -/
def queueAheadUptoRow : OpenClaim := { program := "ytmbpnfecpioafaa", sum := "423cb41459e3836278e151115ee57a132c0f55ec8f76971a9877c790d66453d4", func := "busbar/busbarlaw23.QueueAhead", spec := "queueAhead", apart := false, narrowed := true }
def QueueAheadUptoSaid : Prop := queueAheadUptoRow.holds Try.pinned (OpenSpec.upto queueAheadSpec)

/-- 'busbarlaw23.QueueOrder', WHERE WHAT IT READS IS OF BULK AT MOST 1048576: true; the input reads as it did. -/
def queueOrderUptoRow : OpenClaim := { program := "ytmbpnfecpioafaa", sum := "423cb41459e3836278e151115ee57a132c0f55ec8f76971a9877c790d66453d4", func := "busbar/busbarlaw23.QueueOrder", spec := "queueOrder", apart := false, narrowed := true }
def QueueOrderUptoSaid : Prop := queueOrderUptoRow.holds Try.pinned (OpenSpec.upto queueOrderSpec)

/-- 'busbarlaw10.RawEnds', WHERE WHAT IT READS IS OF BULK AT MOST 1048576: true; the input reads as it did. -/
def rawEndsUptoRow : OpenClaim := { program := "ytmbpnfecpioafaa", sum := "423cb41459e3836278e151115ee57a132c0f55ec8f76971a9877c790d66453d4", func := "busbar/busbarlaw10.RawEnds", spec := "rawEnds", apart := false, narrowed := true }
def RawEndsUptoSaid : Prop := rawEndsUptoRow.holds Try.pinned (OpenSpec.upto rawEndsSpec)

/-- 'busbarlaw10.RawFits', WHERE WHAT IT READS IS OF BULK AT MOST 1048576: true; the input reads as it did. -/
def rawFitsUptoRow : OpenClaim := { program := "ytmbpnfecpioafaa", sum := "423cb41459e3836278e151115ee57a132c0f55ec8f76971a9877c790d66453d4", func := "busbar/busbarlaw10.RawFits", spec := "rawFits", apart := false, narrowed := true }
def RawFitsUptoSaid : Prop := rawFitsUptoRow.holds Try.pinned (OpenSpec.upto rawFitsSpec)

/-- 'busbarlaw22.FrameWires', WHERE WHAT IT READS IS OF BULK AT MOST 1048576: true; the input reads as it did. -/
def frameWiresUptoRow : OpenClaim := { program := "ytmbpnfecpioafaa", sum := "423cb41459e3836278e151115ee57a132c0f55ec8f76971a9877c790d66453d4", func := "busbar/busbarlaw22.FrameWires", spec := "frameWires", apart := false, narrowed := true }
def FrameWiresUptoSaid : Prop := frameWiresUptoRow.holds Try.pinned (OpenSpec.upto frameWiresSpec)

/-- 'busbarlaw05.NodeLists', WHERE WHAT IT READS IS OF BULK AT MOST 1048576: true; the input reads as it did. -/
def nodeListsUptoRow : OpenClaim := { program := "ytmbpnfecpioafaa", sum := "423cb41459e3836278e151115ee57a132c0f55ec8f76971a9877c790d66453d4", func := "busbar/busbarlaw05.NodeLists", spec := "nodeLists", unfollowed := true, recurses := true, apart := false, narrowed := true }
def NodeListsUptoSaid : Prop := nodeListsUptoRow.holds Try.pinned (OpenSpec.upto nodeListsSpec)

/-- 'busbarlaw11.PhysTexts', WHERE WHAT IT READS IS OF BULK AT MOST 1048576: true; the input reads as it did. -/
def physTextsUptoRow : OpenClaim := { program := "ytmbpnfecpioafaa", sum := "423cb41459e3836278e151115ee57a132c0f55ec8f76971a9877c790d66453d4", func := "busbar/busbarlaw11.PhysTexts", spec := "physTexts", apart := false, narrowed := true }
def PhysTextsUptoSaid : Prop := physTextsUptoRow.holds Try.pinned (OpenSpec.upto physTextsSpec)

/-- 'busbarlaw23.QueueLasts', WHERE WHAT IT READS IS OF BULK AT MOST 1048576: true; the input reads as it did. -/
def queueLastsUptoRow : OpenClaim := { program := "ytmbpnfecpioafaa", sum := "423cb41459e3836278e151115ee57a132c0f55ec8f76971a9877c790d66453d4", func := "busbar/busbarlaw23.QueueLasts", spec := "queueLasts", unfollowed := true, recurses := true, apart := false, narrowed := true }
def QueueLastsUptoSaid : Prop := queueLastsUptoRow.holds Try.pinned (OpenSpec.upto queueLastsSpec)

/-- 'busbarlaw05.NodeNames', WHERE WHAT IT READS IS OF BULK AT MOST 1048576: true; the input reads as it did. -/
def nodeNamesUptoRow : OpenClaim := { program := "ytmbpnfecpioafaa", sum := "423cb41459e3836278e151115ee57a132c0f55ec8f76971a9877c790d66453d4", func := "busbar/busbarlaw05.NodeNames", spec := "nodeNames", apart := false, narrowed := true }
def NodeNamesUptoSaid : Prop := nodeNamesUptoRow.holds Try.pinned (OpenSpec.upto nodeNamesSpec)

/-- 'busbarlaw05.NodeFinds', WHERE WHAT IT READS IS OF BULK AT MOST 1048576: true; the input reads as it did. -/
def nodeFindsUptoRow : OpenClaim := { program := "ytmbpnfecpioafaa", sum := "423cb41459e3836278e151115ee57a132c0f55ec8f76971a9877c790d66453d4", func := "busbar/busbarlaw05.NodeFinds", spec := "nodeFinds", unfollowed := true, recurses := true, apart := false, narrowed := true }
def NodeFindsUptoSaid : Prop := nodeFindsUptoRow.holds Try.pinned (OpenSpec.upto nodeFindsSpec)

/-- 'busbarlaw22.FrameApart', WHERE WHAT IT READS IS OF BULK AT MOST 1048576: true; the input reads as it did. -/
def frameApartUptoRow : OpenClaim := { program := "ytmbpnfecpioafaa", sum := "423cb41459e3836278e151115ee57a132c0f55ec8f76971a9877c790d66453d4", func := "busbar/busbarlaw22.FrameApart", spec := "frameApart", apart := false, narrowed := true }
def FrameApartUptoSaid : Prop := frameApartUptoRow.holds Try.pinned (OpenSpec.upto frameApartSpec)

/-- 'busbarlaw05.NodeBack', WHERE WHAT IT READS IS OF BULK AT MOST 1048576: true; the input reads as it did. -/
def nodeBackUptoRow : OpenClaim := { program := "ytmbpnfecpioafaa", sum := "423cb41459e3836278e151115ee57a132c0f55ec8f76971a9877c790d66453d4", func := "busbar/busbarlaw05.NodeBack", spec := "nodeBack", apart := false, narrowed := true }
def NodeBackUptoSaid : Prop := nodeBackUptoRow.holds Try.pinned (OpenSpec.upto nodeBackSpec)

end Rows
end Go.Proofs.Ytmbpnfecpioafaa
