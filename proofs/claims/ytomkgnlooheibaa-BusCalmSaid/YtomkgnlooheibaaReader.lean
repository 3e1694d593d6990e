/- frame's reader: its fields read one behind the other, against decF's steps. -/
import Derived.Test.YtomkgnlooheibaaTake
namespace Go.Proofs.Ytomkgnlooheibaa
open Go.RowKit Go.Bus Go.Bus.bitK Go.Bus.numK Go.Bus.decK
set_option linter.unusedVariables false
namespace readW
/-- A reader in memory. -/
def Rd (w : World) (b : Nat) (lv : Value) (a : Nat) (id : Int) (wide : Bool) (dv : Value) (sz : Int) : Prop :=
  Has w b 127 #[lv, .int .i64 a, .int .u32 id, .bool wide, dv, .int .i64 sz]
theorem Rd.cells {w : World} {b a : Nat} {lv dv : Value} {id sz : Int} {wide : Bool} (h : Rd w b lv a id wide dv sz) :
    w.cell? ⟨b, 0, none⟩ = some lv ∧ w.cell? ⟨b, 1, none⟩ = some (.int .i64 a) ∧ w.cell? ⟨b, 2, none⟩ = some (.int .u32 id) ∧ w.cell? ⟨b, 3, none⟩ = some (.bool wide) ∧ w.cell? ⟨b, 4, none⟩ = some dv ∧ w.cell? ⟨b, 5, none⟩ = some (.int .i64 sz) ∧ ∀ i, w.frozen? ⟨b, i, none⟩ = false :=
  ⟨(Has.cell h 0).trans rfl, (Has.cell h 1).trans rfl, (Has.cell h 2).trans rfl, (Has.cell h 3).trans rfl, (Has.cell h 4).trans rfl, (Has.cell h 5).trans rfl, fun i => Has.frozen h i⟩
theorem Rd.drewN {w : World} {b a : Nat} {lv dv : Value} {id sz : Int} {wide : Bool} (h : Rd w b lv a id wide dv sz) (q : Nat) : Rd (w.drewN q) b lv a id wide dv sz := h
theorem Rd.at {w : World} {b a : Nat} {lv dv : Value} {id sz : Int} {wide : Bool} (h : Rd w b lv a id wide dv sz) (c : Int) (c' : Nat) (e : c = c') : Rd (w.setCell ⟨b, 1, none⟩ (.int .i64 c)) b lv c' id wide dv sz := by
  subst e; exact Has.set h 1 _
theorem Rd.id {w : World} {b a : Nat} {lv dv : Value} {id sz : Int} {wide : Bool} (h : Rd w b lv a id wide dv sz) (c : Int) : Rd (w.setCell ⟨b, 2, none⟩ (.int .u32 c)) b lv a c wide dv sz := Has.set h 2 _
theorem Rd.wide {w : World} {b a : Nat} {lv dv : Value} {id sz : Int} {wide : Bool} (h : Rd w b lv a id wide dv sz) (c : Bool) : Rd (w.setCell ⟨b, 3, none⟩ (.bool c)) b lv a id c dv sz := Has.set h 3 _
theorem Rd.data {w : World} {b a : Nat} {lv dv : Value} {id sz : Int} {wide : Bool} (h : Rd w b lv a id wide dv sz) (c : Value) : Rd (w.setCell ⟨b, 4, none⟩ c) b lv a id wide c sz := Has.set h 4 _
theorem Rd.size {w : World} {b a : Nat} {lv dv : Value} {id sz : Int} {wide : Bool} (h : Rd w b lv a id wide dv sz) (c : Int) : Rd (w.setCell ⟨b, 5, none⟩ (.int .i64 c)) b lv a id wide dv c := Has.set h 5 _
/-- Only cells of block b have turned, and what is new. -/
structure Only (b : Nat) (w w' : World) : Prop where
  le : b ≤ w.heap.size
  gr : w.grownBy w' (some b)
theorem Only.refl {b : Nat} {w : World} (h : b ≤ w.heap.size) : Only b w w := ⟨h, World.grownBy.refl _ _⟩
theorem Only.trans {b : Nat} {a w w' : World} (h : Only b a w) (h' : Only b w w') : Only b a w' :=
  ⟨h.le, h'.gr.os.trans h.gr.os, h'.gr.tape.trans h.gr.tape, h'.gr.output.trans h.gr.output, Nat.le_trans h.gr.size h'.gr.size, fun i hi hne => (h'.gr.block i (Nat.lt_of_lt_of_le hi h.gr.size) hne).trans (h.gr.block i hi hne)⟩
theorem Only.drewN {b : Nat} {a w : World} (h : Only b a w) (n : Nat) : Only b a (w.drewN n) := ⟨h.le, h.gr.os, h.gr.tape, h.gr.output, h.gr.size, h.gr.block⟩
theorem Only.set {b : Nat} {a w : World} (h : Only b a w) (i : Nat) (u : Value) : Only b a (w.setCell ⟨b, i, none⟩ u) := ⟨h.le, only_set h.gr i u⟩
theorem Only.below {b : Nat} {w w' : World} (h : Only b w w') : Below b w w' := below_only (Below.refl b w) h.gr h.le (Nat.le_refl b)
theorem Only.of_below {b : Nat} {w w' : World} (h : Below w.heap.size w w') (hb : b ≤ w.heap.size) : Only b w w' := ⟨hb, h.os, h.tape, h.output, h.size, fun i hi _ => h.block i hi⟩
theorem Only.size {b : Nat} {w w' : World} (h : Only b w w') : w.heap.size ≤ w'.heap.size := h.gr.size
theorem Only.has {b g : Nat} {w w' : World} {t : TypeId} {cs : Array Value} (h : Only b w w') (hh : Has w g t cs) (hg : g ≠ b) : Has w' g t cs := hh.grown h.gr (fun e => hg (by injection e))
/-- One reading. -/
theorem take_rd {b a : Nat} {lv dv : Value} {id sz : Int} {wide : Bool} {w : World} {m : List Bool} (n : Nat) (hR : Rd w b lv a id wide dv sz) (hs : Sl w b Value.bool lv m) (hn : a + n ≤ m.length) (h30 : n ≤ 30) (h1 : 0 < n) :
    Calls Try.prog 51 #[.pointer (some ⟨b, 0, none⟩), .int .i64 n] w fun e w' => e = .returned (.int .u32 (nb m a n)) ∧ Rd w' b lv (a + n) id wide dv sz ∧ Only b w w' := by
  obtain ⟨c0, c1, _, _, _, _, hf⟩ := hR.cells
  have hb : b < w.heap.size := Has.lt hR
  refine (take_any b a n lv m w (hs.more (Nat.le_of_lt hb)) c0 c1 (hf 1) hb hn h30 h1).mono ?_
  rintro e w' ⟨rfl, q, rfl⟩
  refine ⟨rfl, (hR.drewN q).at _ _ (by omega), ?_⟩
  exact ((Only.refl (Nat.le_of_lt hb)).drewN q).set 1 _

set_option maxRecDepth 100000 in
set_option maxHeartbeats 1000000 in
theorem left_any {b a : Nat} {lv dv : Value} {id sz : Int} {wide : Bool} {w : World} {m : List Bool} (hR : Rd w b lv a id wide dv sz) (hs : Sl w b Value.bool lv m) (ha : a ≤ m.length) :
    Calls Try.prog 62 #[.pointer (some ⟨b, 0, none⟩)] w fun e w' => e = .returned (.int .i64 (m.length - a : Nat)) ∧ ∃ q, w' = w.drewN q := by
  obtain ⟨A, cap, rfl, hcap, hmax⟩ := hs.form
  obtain ⟨c0, c1, c2, c3, c4, c5, hf⟩ := hR.cells
  have e1 : ((m.length - a : Nat) : Int) = (m.length : Int) - a := by omega
  have E1 := Lib.hid e1; clear e1
  unfold maxLen at hmax
  clear hs hR
  rw [E1.out]
  go_enter Try.func62, Try.ntmps62
  go_wp2
  go_quiet (fail)
  go_wp2
  go_ret
  exact ⟨rfl, _, rfl⟩
end readW
end Go.Proofs.Ytomkgnlooheibaa
