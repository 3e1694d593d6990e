/-
  No cell of these rows narrows 'for every input' (looked for: loops, veiled, ifaces, maps, wideKeys, modest, calm, conditions, laid).
  DERIVED. THE GIVEN ROWS OF THIS SEAT. 4 by the template 'for every input the law returns true; each argument reads behind the call as it read before'; 0 by the template 'total and deterministic' (their statements: YtomkgnlooheibaaTotals.lean).
  GIVEN WITH THE SEED: the statements are not yours to turn. If you find one false, say at which input.
  Laid BY PROGRAM, IN A SANDBOX (cutbox-rows.mjs): the forced cells as the released guide's own fill.sh prints them over the translation 6bd8ff9e10589c8b… (all of the seat's roots in one cut). By AI agents, Wed Nov 11 2026. No macro, syntax, notation, axiom, sorry.
-/
import Derived.Test.YtomkgnlooheibaaChecked
import GoSem.Claim
import GoSem.ClaimJoined
import GoSem.ClaimMapViews
import Derived.JoinedTies
import Derived.KernelRfl
namespace Go.Proofs.Ytomkgnlooheibaa
/- THE CELL 'sum', in the pinned program and in every row, IS THE sha256 OF THE DUMP (.gsa) THAT YtomkgnlooheibaaProg.lean LOADS. Nothing in Lean hashes anything: it is a label: what it is worth is what the hold of that sum in a sandbox is worth. -/
noncomputable def Try.pinned : Pinned := { name := "ytomkgnlooheibaa", sum := "6bd8ff9e10589c8b12bd57c994fba7b9bb95b765d49687ee480b858981ac2288", checked := Try.checked }
namespace Rows
def none {H : Type} : Left H := { results := [], args := [] }

/-- 'busbarlaw25.BusHonest': WHATEVER THE INPUT: true; the input reads as it did. -/
def busHonestSpec : ChangeSpec := { name := "busHonest", fn := fun _ => fun
  | [d1, d2, d3] => { results := [.lit (.bool true)], args := [d1, d2, d3] }
  | _ => none }
def busHonestRow : OpenClaim := { program := "ytomkgnlooheibaa", sum := "6bd8ff9e10589c8b12bd57c994fba7b9bb95b765d49687ee480b858981ac2288", func := "busbar/busbarlaw25.BusHonest", spec := "busHonest", inPlace := ["internal/reflectlite.TypeOf"], unfollowed := true, recurses := true, apart := false }
def BusHonestSaid : Prop := busHonestRow.holds Try.pinned (OpenSpec.ofChange busHonestSpec)

/-- ITS FALSE NEIGHBOUR: 'it returns false'. Refute it at one input. -/
def busHonestWrong : ChangeSpec := { name := "busHonest", fn := fun _ => fun
  | [d1, d2, d3] => { results := [.lit (.bool false)], args := [d1, d2, d3] }
  | _ => none }
def BusHonestWrongFalsely : Prop := busHonestRow.holds Try.pinned (OpenSpec.ofChange busHonestWrong)

/-- 'busbarlaw25.BusCalm': WHATEVER THE INPUT: true; the input reads as it did. -/
def busCalmSpec : ChangeSpec := { name := "busCalm", fn := fun _ => fun
  | [d1, d2] => { results := [.lit (.bool true)], args := [d1, d2] }
  | _ => none }
def busCalmRow : OpenClaim := { program := "ytomkgnlooheibaa", sum := "6bd8ff9e10589c8b12bd57c994fba7b9bb95b765d49687ee480b858981ac2288", func := "busbar/busbarlaw25.BusCalm", spec := "busCalm", inPlace := ["internal/reflectlite.TypeOf"], unfollowed := true, recurses := true, apart := false }
def BusCalmSaid : Prop := busCalmRow.holds Try.pinned (OpenSpec.ofChange busCalmSpec)

/-- ITS FALSE NEIGHBOUR: 'it returns false'. Refute it at one input. -/
def busCalmWrong : ChangeSpec := { name := "busCalm", fn := fun _ => fun
  | [d1, d2] => { results := [.lit (.bool false)], args := [d1, d2] }
  | _ => none }
def BusCalmWrongFalsely : Prop := busCalmRow.holds Try.pinned (OpenSpec.ofChange busCalmWrong)

/-- 'busbarlaw25.BusFull': WHATEVER THE INPUT: true; the input reads as it did. -/
def busFullSpec : ChangeSpec := { name := "busFull", fn := fun _ => fun
  | [d1, d2] => { results := [.lit (.bool true)], args := [d1, d2] }
  | _ => none }
def busFullRow : OpenClaim := { program := "ytomkgnlooheibaa", sum := "6bd8ff9e10589c8b12bd57c994fba7b9bb95b765d49687ee480b858981ac2288", func := "busbar/busbarlaw25.BusFull", spec := "busFull", inPlace := ["internal/reflectlite.TypeOf"], unfollowed := true, recurses := true, apart := false }
def BusFullSaid : Prop := busFullRow.holds Try.pinned (OpenSpec.ofChange busFullSpec)

/-- ITS FALSE NEIGHBOUR: 'it returns false'. Refute it at one input. -/
def busFullWrong : ChangeSpec := { name := "busFull", fn := fun _ => fun
  | [d1, d2] => { results := [.lit (.bool false)], args := [d1, d2] }
  | _ => none }
def BusFullWrongFalsely : Prop := busFullRow.holds Try.pinned (OpenSpec.ofChange busFullWrong)

/-- 'busbarlaw25.BusKnown': WHATEVER THE INPUT: true; the input reads as it did. -/
def busKnownSpec : ChangeSpec := { name := "busKnown", fn := fun _ => fun
  | [] => { results := [.lit (.bool true)], args := [] }
  | _ => none }
def busKnownRow : OpenClaim := { program := "ytomkgnlooheibaa", sum := "6bd8ff9e10589c8b12bd57c994fba7b9bb95b765d49687ee480b858981ac2288", func := "busbar/busbarlaw25.BusKnown", spec := "busKnown", inPlace := ["internal/reflectlite.TypeOf"], unfollowed := true, recurses := true, apart := false }
def BusKnownSaid : Prop := busKnownRow.holds Try.pinned (OpenSpec.ofChange busKnownSpec)

/-- ITS FALSE NEIGHBOUR: 'it returns false'. Refute it at one input. -/
def busKnownWrong : ChangeSpec := { name := "busKnown", fn := fun _ => fun
  | [] => { results := [.lit (.bool false)], args := [] }
  | _ => none }
def BusKnownWrongFalsely : Prop := busKnownRow.holds Try.pinned (OpenSpec.ofChange busKnownWrong)

/- THE SECOND FORM. 'bulk': how many values and letters a reading holds, each counted each time it is reached (what is shared counts as often as it is met; a slice's spare places count too). A statement '..UptoSaid' is the law's where the arguments, and the package variables that the reading takes, are together of bulk at most 1048576: NARROWER than '..Said'. Prove '..Said' where nothing that the law and all that it calls make is longer than what came in: it says more and counts as full. Else prove '..UptoSaid'. A law counts once. -/
mutual
def uptoBulk {H : Type} : DataW H → Nat
  | .lit (.string bytes) => bytes.length + 1
  | .lit _ => 1
  | .nil => 1
  | .ptr d => uptoBulk d + 1
  | .slice elems spare => uptoBulkAll elems + uptoBulkAll spare + 1
  | .agg parts => uptoBulkAll parts + 1
  | .iface _ d => uptoBulk d + 1
  | .map entries => uptoBulkEntries entries + 1
  | .held _ => 1
def uptoBulkAll {H : Type} : List (DataW H) → Nat
  | [] => 0
  | d :: r => uptoBulk d + uptoBulkAll r
def uptoBulkEntries {H : Type} : List (Lit × DataW H) → Nat
  | [] => 0
  | x :: r => uptoBulkEntry x + uptoBulkEntries r
def uptoBulkEntry {H : Type} : Lit × DataW H → Nat
  | (.string bytes, d) => bytes.length + uptoBulk d + 1
  | (_, d) => uptoBulk d + 1
 end
def uptoSmall : (H : Type) → List (DataW H) → Bool := fun _ ds => decide (uptoBulkAll ds ≤ 1048576)
def OpenSpec.upto (s : _root_.Go.ChangeSpec) : _root_.Go.OpenSpec := { _root_.Go.OpenSpec.ofChange s with cond := some uptoSmall }

/-- 'busbarlaw25.BusHonest', WHERE WHAT IT READS IS OF BULK AT MOST 1048576: true; the input reads as it did. -/
def busHonestUptoRow : OpenClaim := { program := "ytomkgnlooheibaa", sum := "6bd8ff9e10589c8b12bd57c994fba7b9bb95b765d49687ee480b858981ac2288", func := "busbar/busbarlaw25.BusHonest", spec := "busHonest", inPlace := ["internal/reflectlite.TypeOf"], unfollowed := true, recurses := true, apart := false, narrowed := true }
def BusHonestUptoSaid : Prop := busHonestUptoRow.holds Try.pinned (OpenSpec.upto busHonestSpec)

/-- 'busbarlaw25.BusCalm', WHERE WHAT IT READS IS OF BULK AT MOST 1048576: true; the input reads as it did. -/
def busCalmUptoRow : OpenClaim := { program := "ytomkgnlooheibaa", sum := "6bd8ff9e10589c8b12bd57c994fba7b9bb95b765d49687ee480b858981ac2288", func := "busbar/busbarlaw25.BusCalm", spec := "busCalm", inPlace := ["internal/reflectlite.TypeOf"], unfollowed := true, recurses := true, apart := false, narrowed := true }
def BusCalmUptoSaid : Prop := busCalmUptoRow.holds Try.pinned (OpenSpec.upto busCalmSpec)

/-- 'busbarlaw25.BusFull', WHERE WHAT IT READS IS OF BULK AT MOST 1048576: true; the input reads as it did. -/
def busFullUptoRow : OpenClaim := { program := "ytomkgnlooheibaa", sum := "6bd8ff9e10589c8b12bd57c994fba7b9bb95b765d49687ee480b858981ac2288", func := "busbar/busbarlaw25.BusFull", spec := "busFull", inPlace := ["internal/reflectlite.TypeOf"], unfollowed := true, recurses := true, apart := false, narrowed := true }
def BusFullUptoSaid : Prop := busFullUptoRow.holds Try.pinned (OpenSpec.upto busFullSpec)

/-- 'busbarlaw25.BusKnown', WHERE WHAT IT READS IS OF BULK AT MOST 1048576: true; the input reads as it did. -/
def busKnownUptoRow : OpenClaim := { program := "ytomkgnlooheibaa", sum := "6bd8ff9e10589c8b12bd57c994fba7b9bb95b765d49687ee480b858981ac2288", func := "busbar/busbarlaw25.BusKnown", spec := "busKnown", inPlace := ["internal/reflectlite.TypeOf"], unfollowed := true, recurses := true, apart := false, narrowed := true }
def BusKnownUptoSaid : Prop := busKnownUptoRow.holds Try.pinned (OpenSpec.upto busKnownSpec)

end Rows
end Go.Proofs.Ytomkgnlooheibaa
