/- What a call leaves as it was: all blocks but those of F; the words for it. Plain. No condition. -/
import Derived.Test.YtomkgnlooheibaaBase
namespace Go.Bus
open Go.RowKit
set_option linter.unusedVariables false
set_option linter.unusedSimpArgs false
/-- Blocks that were there and are not of F are as they were. -/
structure Kp (F : Nat → Prop) (a w : World) : Prop where
  os : w.os = a.os
  tape : w.tape = a.tape
  output : w.output = a.output
  size : a.heap.size ≤ w.heap.size
  block : ∀ k, k < a.heap.size → ¬ F k → w.heap[k]? = a.heap[k]?
namespace Kp
variable {F F' : Nat → Prop} {a w w' : World}
theorem refl (F : Nat → Prop) (w : World) : Kp F w w := ⟨rfl, rfl, rfl, Nat.le_refl _, fun _ _ _ => rfl⟩
theorem trans (h : Kp F a w) (k : Kp F w w') : Kp F a w' :=
  ⟨k.os.trans h.os, k.tape.trans h.tape, k.output.trans h.output, Nat.le_trans h.size k.size, fun i hi hf => (k.block i (Nat.lt_of_lt_of_le hi h.size) hf).trans (h.block i hi hf)⟩
theorem mono (h : Kp F a w) (hF : ∀ k, F k → F' k) : Kp F' a w := ⟨h.os, h.tape, h.output, h.size, fun i hi hf => h.block i hi (fun h => hf (hF i h))⟩
/-- What is turned beside F is new. -/
theorem mono_new (h : Kp F w w') (ha : Kp F' a w) (hF : ∀ k, F k → F' k ∨ a.heap.size ≤ k) : Kp F' a w' :=
  ⟨h.os.trans ha.os, h.tape.trans ha.tape, h.output.trans ha.output, Nat.le_trans ha.size h.size, fun i hi hf => (h.block i (Nat.lt_of_lt_of_le hi ha.size) (fun h => by rcases hF i h with h1 | h1; exact hf h1; omega)).trans (ha.block i hi hf)⟩
theorem drew (h : Kp F a w) : Kp F a w.drew := ⟨h.os, h.tape, h.output, h.size, h.block⟩
theorem drewN (h : Kp F a w) (n : Nat) : Kp F a (w.drewN n) := ⟨h.os, h.tape, h.output, h.size, h.block⟩
theorem alloc (h : Kp F a w) (o : Obj) : Kp F a (w.alloc o) :=
  ⟨h.os, h.tape, h.output, by simpa using Nat.le_succ_of_le h.size, fun i hi hf => (heap_alloc_old w o (Nat.lt_of_lt_of_le hi h.size)).trans (h.block i hi hf)⟩
theorem set (h : Kp F a w) {p : Addr} (hp : F p.block ∨ a.heap.size ≤ p.block) (u : Value) : Kp F a (w.setCell p u) :=
  ⟨h.os, h.tape, h.output, by simpa using h.size, fun i hi hf => (heap_setCell_other w p i u (fun e => by subst e; rcases hp with h1 | h1; exact hf h1; omega)).trans (h.block i hi hf)⟩
theorem below (h : Kp F a w) (hb : Below w.heap.size w w') : Kp F a w' :=
  ⟨hb.os.trans h.os, hb.tape.trans h.tape, hb.output.trans h.output, Nat.le_trans h.size hb.size, fun i hi hf => (hb.block i (Nat.lt_of_lt_of_le hi h.size)).trans (h.block i hi hf)⟩
theorem belowB {B : Nat} (h : Kp F a w) (hb : Below B w w') (hB : a.heap.size ≤ B) : Kp F a w' :=
  ⟨hb.os.trans h.os, hb.tape.trans h.tape, hb.output.trans h.output, Nat.le_trans h.size hb.size, fun i hi hf => (hb.block i (Nat.lt_of_lt_of_le hi hB)).trans (h.block i hi hf)⟩
theorem of_below (F : Nat → Prop) (hb : Below w.heap.size w w') : Kp F w w' := (refl F w).below hb
theorem grown {row : Option Nat} (h : Kp F a w) (hg : w.grownBy w' row) (hr : ∀ k, row = some k → F k ∨ a.heap.size ≤ k) : Kp F a w' :=
  ⟨hg.os.trans h.os, hg.tape.trans h.tape, hg.output.trans h.output, Nat.le_trans h.size hg.size, fun i hi hf => (hg.block i (Nat.lt_of_lt_of_le hi h.size) (fun e => by rcases hr i e.symm with h1 | h1; exact hf h1; omega)).trans (h.block i hi hf)⟩
/-- What is turned is all new behind B. -/
theorem to_below {B : Nat} {z : World} (hz : Below B z a) (h : Kp F a w) (hB : B ≤ a.heap.size) (hF : ∀ k, F k → B ≤ k) : Below B z w :=
  ⟨h.os.trans hz.os, h.tape.trans hz.tape, h.output.trans hz.output, Nat.le_trans hz.size h.size, fun i hi => (h.block i (Nat.lt_of_lt_of_le hi hB) (fun hf => by have := hF i hf; omega)).trans (hz.block i hi)⟩
theorem has {g : Nat} {t : TypeId} {cs : Array Value} (h : Kp F a w) (hh : Has a g t cs) (hg : ¬ F g) : Has w g t cs := (h.block g hh.lt hg).trans hh
theorem at_ (h : Kp F a w) {b : Nat} (hb : b < a.heap.size) (hf : ¬ F b) (o : Nat) : w.cell? ⟨b, o, none⟩ = a.cell? ⟨b, o, none⟩ := World.cell?_of_block (a := ⟨b, o, none⟩) (h.block b hb hf)
theorem own {base size n : Nat} {e : TypeId} {v : Value} {xs : List Value} (h : Kp F a w) (ho : a.ownsRow base e size v n xs) (hf : ∀ g, v.ownBlock = some g → ¬ F g) : w.ownsRow base e size v n xs := by
  refine ⟨ho.1, ?_⟩
  rcases ho.2 with hn | ⟨g, cap, cur, rfl, hbb, hgg, rest⟩
  · exact .inl hn
  · refine .inr ⟨g, cap, cur, rfl, hbb, ?_, rest⟩
    rw [h.block g (by
      rcases Nat.lt_or_ge g a.heap.size with hlt | hge
      · exact hlt
      · rw [Array.getElem?_eq_none hge] at hgg; cases hgg) (hf g (by simp [Value.ownBlock]))]
    exact hgg
end Kp
end Go.Bus
