/-
  No cell of these rows narrows 'for every input' (looked for: loops, veiled, ifaces, maps, wideKeys, modest, calm, conditions, laid).
  DERIVED. THE GIVEN ROWS OF THIS SEAT. 4 by the template 'for every input the law returns true; each argument reads behind the call as it read before'; 0 by the template 'total and deterministic' (their statements: YtkfmbhmfegkedaaTotals.lean).
  GIVEN WITH THE SEED: the statements are not yours to turn. If you find one false, say at which input.
  Laid BY PROGRAM, IN A SANDBOX (cutbox-rows.mjs): the forced cells as the released guide's own fill.sh prints them over the translation e1eaecd3282e0bb2… (all of the seat's roots in one cut). By AI agents, Wed Nov 11 2026. No macro, syntax, notation, axiom, sorry.
-/
import Derived.Test.YtkfmbhmfegkedaaChecked
import GoSem.Claim
import GoSem.ClaimJoined
import GoSem.ClaimMapViews
import Derived.JoinedTies
import Derived.KernelRfl
namespace Go.Proofs.Ytkfmbhmfegkedaa
/- THE CELL 'sum', in the pinned program and in every row, IS THE sha256 OF THE DUMP (.gsa) THAT YtkfmbhmfegkedaaProg.lean LOADS. Nothing in Lean hashes anything: it is a label: what it is worth is what the hold of that sum in a sandbox is worth. -/
noncomputable def Try.pinned : Pinned := { name := "ytkfmbhmfegkedaa", sum := "e1eaecd3282e0bb2a86dc5a598f38dfbb74645046fb611c17398ee0e01eb06fc", checked := Try.checked }
namespace Rows
def none {H : Type} : Left H := { results := [], args := [] }

/-- 'busbarlaw11.PhysTexts': WHATEVER THE INPUT: true; the input reads as it did. -/
def physTextsSpec : ChangeSpec := { name := "physTexts", fn := fun _ => fun
  | [d1, d2, d3, d4] => { results := [.lit (.bool true)], args := [d1, d2, d3, d4] }
  | _ => none }
def physTextsRow : OpenClaim := { program := "ytkfmbhmfegkedaa", sum := "e1eaecd3282e0bb2a86dc5a598f38dfbb74645046fb611c17398ee0e01eb06fc", func := "busbar/busbarlaw11.PhysTexts", spec := "physTexts", apart := false }
def PhysTextsSaid : Prop := physTextsRow.holds Try.pinned (OpenSpec.ofChange physTextsSpec)

/-- ITS FALSE NEIGHBOUR: 'it returns false'. Refute it at one input. -/
def physTextsWrong : ChangeSpec := { name := "physTexts", fn := fun _ => fun
  | [d1, d2, d3, d4] => { results := [.lit (.bool false)], args := [d1, d2, d3, d4] }
  | _ => none }
def PhysTextsWrongFalsely : Prop := physTextsRow.holds Try.pinned (OpenSpec.ofChange physTextsWrong)

/-- 'busbarlaw11.PhysBack': WHATEVER THE INPUT: true; the input reads as it did. -/
def physBackSpec : ChangeSpec := { name := "physBack", fn := fun _ => fun
  | [d1, d2] => { results := [.lit (.bool true)], args := [d1, d2] }
  | _ => none }
def physBackRow : OpenClaim := { program := "ytkfmbhmfegkedaa", sum := "e1eaecd3282e0bb2a86dc5a598f38dfbb74645046fb611c17398ee0e01eb06fc", func := "busbar/busbarlaw11.PhysBack", spec := "physBack", inPlace := ["math/bits.Add64", "math/bits.Sub64"], named := ["math/bits.divideError", "math/bits.overflowError"], apart := false }
def PhysBackSaid : Prop := physBackRow.holds Try.pinned (OpenSpec.ofChange physBackSpec)

/-- ITS FALSE NEIGHBOUR: 'it returns false'. Refute it at one input. -/
def physBackWrong : ChangeSpec := { name := "physBack", fn := fun _ => fun
  | [d1, d2] => { results := [.lit (.bool false)], args := [d1, d2] }
  | _ => none }
def PhysBackWrongFalsely : Prop := physBackRow.holds Try.pinned (OpenSpec.ofChange physBackWrong)

/-- 'busbarlaw11.PhysNearest': WHATEVER THE INPUT: true; the input reads as it did. -/
def physNearestSpec : ChangeSpec := { name := "physNearest", fn := fun _ => fun
  | [d1, d2] => { results := [.lit (.bool true)], args := [d1, d2] }
  | _ => none }
def physNearestRow : OpenClaim := { program := "ytkfmbhmfegkedaa", sum := "e1eaecd3282e0bb2a86dc5a598f38dfbb74645046fb611c17398ee0e01eb06fc", func := "busbar/busbarlaw11.PhysNearest", spec := "physNearest", inPlace := ["math/bits.Add64", "math/bits.Sub64"], named := ["math/bits.divideError", "math/bits.overflowError"], apart := false }
def PhysNearestSaid : Prop := physNearestRow.holds Try.pinned (OpenSpec.ofChange physNearestSpec)

/-- ITS FALSE NEIGHBOUR: 'it returns false'. Refute it at one input. -/
def physNearestWrong : ChangeSpec := { name := "physNearest", fn := fun _ => fun
  | [d1, d2] => { results := [.lit (.bool false)], args := [d1, d2] }
  | _ => none }
def PhysNearestWrongFalsely : Prop := physNearestRow.holds Try.pinned (OpenSpec.ofChange physNearestWrong)

/-- 'busbarlaw11.PhysNamed': WHATEVER THE INPUT: true; the input reads as it did. -/
def physNamedSpec : ChangeSpec := { name := "physNamed", fn := fun _ => fun
  | [d1, d2, d3] => { results := [.lit (.bool true)], args := [d1, d2, d3] }
  | _ => none }
def physNamedRow : OpenClaim := { program := "ytkfmbhmfegkedaa", sum := "e1eaecd3282e0bb2a86dc5a598f38dfbb74645046fb611c17398ee0e01eb06fc", func := "busbar/busbarlaw11.PhysNamed", spec := "physNamed", inPlace := ["math/bits.Add64", "math/bits.Sub64"], named := ["math/bits.divideError", "math/bits.overflowError"], apart := false }
def PhysNamedSaid : Prop := physNamedRow.holds Try.pinned (OpenSpec.ofChange physNamedSpec)

/-- ITS FALSE NEIGHBOUR: 'it returns false'. Refute it at one input. -/
def physNamedWrong : ChangeSpec := { name := "physNamed", fn := fun _ => fun
  | [d1, d2, d3] => { results := [.lit (.bool false)], args := [d1, d2, d3] }
  | _ => none }
def PhysNamedWrongFalsely : Prop := physNamedRow.holds Try.pinned (OpenSpec.ofChange physNamedWrong)

/- THE SECOND FORM. 'bulk': how many values and letters a reading holds, each counted each time it is reached (what is shared counts as often as it is met; a slice's spare places count too). A statement '..UptoSaid' is the law's where the arguments, and the package variables that the reading takes, are together of bulk at most 1048576: NARROWER than '..Said'. Prove '..Said' where nothing that the law and all that it calls make is longer than what came in: it says more and counts as full. Else prove '..UptoSaid'. A law counts once. -/
mutual
def uptoBulk {H : Type} : DataW H → Nat
  | .lit (.string bytes) => bytes.length + 1
  | .lit _ => 1
  | .nil => 1
  | .ptr d => uptoBulk d + 1
  | .slice elems spare => uptoBulkAll elems + uptoBulkAll spare + 1
  | .agg parts => uptoBulkAll parts + 1
  | .iface _ d => uptoBulk d + 1
  | .map entries => uptoBulkEntries entries + 1
  | .held _ => 1
def uptoBulkAll {H : Type} : List (DataW H) → Nat
  | [] => 0
  | d :: r => uptoBulk d + uptoBulkAll r
def uptoBulkEntries {H : Type} : List (Lit × DataW H) → Nat
  | [] => 0
  | x :: r => uptoBulkEntry x + uptoBulkEntries r
def uptoBulkEntry {H : Type} : Lit × DataW H → Nat
  | (.string bytes, d) => bytes.length + uptoBulk d + 1
  | (_, d) => uptoBulk d + 1
 end
def uptoSmall : (H : Type) → List (DataW H) → Bool := fun _ ds => decide (uptoBulkAll ds ≤ 1048576)
def OpenSpec.upto (s : _root_.Go.ChangeSpec) : _root_.Go.OpenSpec := { _root_.Go.OpenSpec.ofChange s with cond := some uptoSmall }

/-- 'busbarlaw11.PhysTexts', WHERE WHAT IT READS IS OF BULK AT MOST 1048576: true; the input reads as it did. -/
def physTextsUptoRow : OpenClaim := { program := "ytkfmbhmfegkedaa", sum := "e1eaecd3282e0bb2a86dc5a598f38dfbb74645046fb611c17398ee0e01eb06fc", func := "busbar/busbarlaw11.PhysTexts", spec := "physTexts", apart := false, narrowed := true }
def PhysTextsUptoSaid : Prop := physTextsUptoRow.holds Try.pinned (OpenSpec.upto physTextsSpec)

/-- 'busbarlaw11.PhysBack', WHERE WHAT IT READS IS OF BULK AT MOST 1048576: true; the input reads as it did. -/
def physBackUptoRow : OpenClaim := { program := "ytkfmbhmfegkedaa", sum := "e1eaecd3282e0bb2a86dc5a598f38dfbb74645046fb611c17398ee0e01eb06fc", func := "busbar/busbarlaw11.PhysBack", spec := "physBack", inPlace := ["math/bits.Add64", "math/bits.Sub64"], named := ["math/bits.divideError", "math/bits.overflowError"], apart := false, narrowed := true }
def PhysBackUptoSaid : Prop := physBackUptoRow.holds Try.pinned (OpenSpec.upto physBackSpec)

/-- 'busbarlaw11.PhysNearest', WHERE WHAT IT READS IS OF BULK AT MOST 1048576: true; the input reads as it did. -/
def physNearestUptoRow : OpenClaim := { program := "ytkfmbhmfegkedaa", sum := "e1eaecd3282e0bb2a86dc5a598f38dfbb74645046fb611c17398ee0e01eb06fc", func := "busbar/busbarlaw11.PhysNearest", spec := "physNearest", inPlace := ["math/bits.Add64", "math/bits.Sub64"], named := ["math/bits.divideError", "math/bits.overflowError"], apart := false, narrowed := true }
def PhysNearestUptoSaid : Prop := physNearestUptoRow.holds Try.pinned (OpenSpec.upto physNearestSpec)

/-- 'busbarlaw11.PhysNamed', WHERE WHAT IT READS IS OF BULK AT MOST 1048576: true; the input reads as it did. -/
def physNamedUptoRow : OpenClaim := { program := "ytkfmbhmfegkedaa", sum := "e1eaecd3282e0bb2a86dc5a598f38dfbb74645046fb611c17398ee0e01eb06fc", func := "busbar/busbarlaw11.PhysNamed", spec := "physNamed", inPlace := ["math/bits.Add64", "math/bits.Sub64"], named := ["math/bits.divideError", "math/bits.overflowError"], apart := false, narrowed := true }
def PhysNamedUptoSaid : Prop := physNamedUptoRow.holds Try.pinned (OpenSpec.upto physNamedSpec)

end Rows
end Go.Proofs.Ytkfmbhmfegkedaa
