/- The second closures of the fields: a field is written. Condition: at most 1000000 bytes. -/
import Derived.Test.YtbopooanmpcepaaGreatDoorCodeF
import Derived.Deep.RegionLaw
import Derived.Deep.AppendLies
import Derived.Outline
namespace Go.Proofs.YtbopooanmpcepaaGreatDoor
open Go.RowKit Go.Bus Go.Bus.cellK Go.Bus.codeK
set_option linter.unusedVariables false
set_option linter.unusedSimpArgs false
namespace codeW
def WrPost (w : World) (g base : Nat) (v : Value) (bs : List Int) (x : Ins) (e : Ending) (w' : World) : Prop :=
  (∃ u, e = .returned u) ∧ ∃ v', Wr w' g base v' bs x ∧ Wro w w' g v v'
/-- A byte was appended (W0: where the append began) and the row put back into the writer. -/
theorem Wr.push {w W0 w1 : World} {g base gg cap n : Nat} {v : Value} {bs : List Int} {x : Ins} {c : Int} (h : Wr w g base v bs x) (hn : n = bs.length) (hg : g < base) (hb : base ≤ w.heap.size) (h0 : Below w.heap.size w W0)
    (ho : w1.ownsRow base 5 1 (.slice (some ⟨gg, 0, none⟩) (n + 1) cap) (n + 1) (bs.map byteV ++ [.int .u8 c])) (hg1 : W0.grownBy w1 v.ownBlock) (hgg : v.ownBlock = some gg ∨ gg = W0.heap.size) :
    Has w1 g 71 #[v, .int .i64 x.op, .int .i64 x.a, .int .i64 x.b, .int .i64 x.n, .int .u64 x.imm] ∧
    Wr (w1.setCell ⟨g, 0, none⟩ (.slice (some ⟨gg, 0, none⟩) (n + 1) cap)) g base (.slice (some ⟨gg, 0, none⟩) (n + 1) cap) (bs ++ [c]) x ∧ Wro w (w1.setCell ⟨g, 0, none⟩ (.slice (some ⟨gg, 0, none⟩) (n + 1) cap)) g v (.slice (some ⟨gg, 0, none⟩) (n + 1) cap) := by
  subst hn
  have hne := own_has_ne h.2 h.1 (by decide)
  have hgl := h.1.lt
  have h1 : Has w1 g 71 #[v, .int .i64 x.op, .int .i64 x.a, .int .i64 x.b, .int .i64 x.n, .int .u64 x.imm] := (h.1.below h0 hgl).grown hg1 (fun e => hne e.symm)
  refine ⟨h1, ⟨h1.set 0 _, ?_⟩, ?_⟩
  · rw [List.length_append, List.map_append]
    exact ownsRow_setCell_below ho (by exact hg) _
  · refine ⟨hg1.os.trans h0.os, hg1.tape.trans h0.tape, hg1.output.trans h0.output, by simpa using Nat.le_trans h0.size hg1.size, fun k hk hkg hv => ?_, ?_⟩
    · rw [heap_setCell_other _ _ _ _ (by exact hkg), hg1.block k (Nat.lt_of_lt_of_le hk h0.size) (fun e => hv e.symm), h0.block k hk]
    · rcases hgg with e | e
      · exact .inl e.symm
      · exact .inr fun k hk => by
          have : gg = k := by simpa [Value.ownBlock] using hk
          have := h0.size
          omega
end codeW
end Go.Proofs.YtbopooanmpcepaaGreatDoor
