/- Fields of instructions in memory: closures and what they captured; calls of a function value; what a writer and a reader turn. No condition. -/
import Derived.Test.YtbbfpbmogklomaaGreatDoorZKc
import Derived.Test.YtbbfpbmogklomaaGreatDoorZCells
import Derived.Test.YtbbfpbmogklomaaGreatDoorZK0
namespace Go.Bus
open Go.RowKit
/-- A call of a function value. -/
def Does (P : Program) (v : Value) (args : Array Value) (w : World) (R : Ending → World → Prop) : Prop :=
  ∃ f first cap, v = .func (.func f) first cap ∧ (∀ xs w, (callFunc f xs).run P w = .ok (.enter f xs) w) ∧ Calls P f (first ++ args ++ cap) w R
theorem Does.mono {P : Program} {v : Value} {args : Array Value} {w : World} {R R' : Ending → World → Prop} (h : Does P v args w R) (hr : ∀ e w', R e w' → R' e w') : Does P v args w R' := by
  obtain ⟨f, a, c, h1, h2, h3⟩ := h
  exact ⟨f, a, c, h1, h2, h3.mono hr⟩
theorem run_does {P : Program} {o : Oper} {a : Act} {w : World} (c : Call) (ho : o.op = .call c) (x : Operand) (hc : c.callee = .value x) (args : Array Value) (ha : c.args.map a.eval = args) {f : FuncId} {first cap : Array Value}
    (hv : a.eval x = .func (.func f) first cap) (hf : ∀ xs w, (callFunc f xs).run P w = .ok (.enter f xs) w) : (execOp a.eval o).run P w = .ok (.enter f (first ++ args ++ cap)) w := by
  simp only [execOp, ho, resolve, hc, hv, ha, Deferred.ofValue, invoke, Sem.run_bind, Sem.run_pure, Result.andThen_ok, hf]
theorem wpList_does {P : Program} {ops : Array Oper} {rest : List Oper} {o : Oper} {a : Act} {w : World} {Q : Exit → Act → World → Prop} (hg : o.guard = none) (c : Call) (ho : o.op = .call c) (x : Operand) (hc : c.callee = .value x) (args : Array Value) (ha : c.args.map a.eval = args)
    {R : Ending → World → Prop} (hD : Does P (a.eval x) args w R) (h : ∀ e w', R e w' → ∃ v, e = .returned v ∧ wpList P ops Q rest (a.put o.dst v) w') : wpList P ops Q (o :: rest) a w :=
  wpList_plain hg fun K hK => by
    obtain ⟨f, first, cap, hv, hf, hC⟩ := hD
    unfold Oper.wp
    rw [run_does c ho x hc args ha hv hf, Oper.upon_enter]
    refine hC.mono fun e w' hR => ?_
    obtain ⟨v, rfl, hw⟩ := h e w' hR
    exact hK _ _ hw
/-- Only cells of block b have turned, and what is new. -/
structure Only (b : Nat) (w w' : World) : Prop where
  le : b ≤ w.heap.size
  gr : w.grownBy w' (some b)
theorem Only.refl {b : Nat} {w : World} (h : b ≤ w.heap.size) : Only b w w := ⟨h, World.grownBy.refl _ _⟩
theorem Only.trans {b : Nat} {a w w' : World} (h : Only b a w) (h' : Only b w w') : Only b a w' :=
  ⟨h.le, h'.gr.os.trans h.gr.os, h'.gr.tape.trans h.gr.tape, h'.gr.output.trans h.gr.output, Nat.le_trans h.gr.size h'.gr.size, fun i hi hne => (h'.gr.block i (Nat.lt_of_lt_of_le hi h.gr.size) hne).trans (h.gr.block i hi hne)⟩
theorem Only.drewN {b : Nat} {a w : World} (h : Only b a w) (n : Nat) : Only b a (w.drewN n) := ⟨h.le, h.gr.os, h.gr.tape, h.gr.output, h.gr.size, h.gr.block⟩
theorem Only.set {b : Nat} {a w : World} (h : Only b a w) (i : Nat) (u : Value) : Only b a (w.setCell ⟨b, i, none⟩ u) := ⟨h.le, only_set h.gr i u⟩
theorem Only.below {b : Nat} {w w' : World} (h : Only b w w') : Below b w w' := below_only (Below.refl b w) h.gr h.le (Nat.le_refl b)
theorem Only.of_below {b : Nat} {w w' : World} (h : Below w.heap.size w w') (hb : b ≤ w.heap.size) : Only b w w' := ⟨hb, h.os, h.tape, h.output, h.size, fun i hi _ => h.block i hi⟩
theorem Only.size {b : Nat} {w w' : World} (h : Only b w w') : w.heap.size ≤ w'.heap.size := h.gr.size
theorem Only.has {b g : Nat} {w w' : World} {t : TypeId} {cs : Array Value} (h : Only b w w') (hh : Has w g t cs) (hg : g ≠ b) : Has w' g t cs := hh.grown h.gr (fun e => hg (by injection e))
theorem has_new (W : World) (t : TypeId) (cs : Array Value) (n : Nat) (hn : W.heap.size = n) : Has (W.alloc (.cells cs t)) n t cs := by subst hn; exact Has.new W t cs
/-- A row and a box have turned, and what is new; where the row lies now. -/
structure Wro (w w' : World) (g : Nat) (v v' : Value) : Prop where
  os : w'.os = w.os
  tape : w'.tape = w.tape
  output : w'.output = w.output
  size : w.heap.size ≤ w'.heap.size
  block : ∀ k, k < w.heap.size → k ≠ g → v.ownBlock ≠ some k → w'.heap[k]? = w.heap[k]?
  own : v'.ownBlock = v.ownBlock ∨ ∀ k, v'.ownBlock = some k → w.heap.size ≤ k
theorem Wro.refl (w : World) (g : Nat) (v : Value) : Wro w w g v v := ⟨rfl, rfl, rfl, Nat.le_refl _, fun _ _ _ _ => rfl, .inl rfl⟩
theorem Wro.trans {a b c : World} {g : Nat} {u v x : Value} (h : Wro a b g u v) (k : Wro b c g v x) : Wro a c g u x := by
  refine ⟨k.os.trans h.os, k.tape.trans h.tape, k.output.trans h.output, Nat.le_trans h.size k.size, fun i hi hg hv => ?_, ?_⟩
  · refine (k.block i (Nat.lt_of_lt_of_le hi h.size) hg ?_).trans (h.block i hi hg hv)
    rcases h.own with e | e
    · rw [e]; exact hv
    · intro he; have := e i he; omega
  · rcases k.own with e | e
    · rw [e]; exact h.own
    · exact .inr fun i hi => Nat.le_trans h.size (e i hi)
theorem Wro.below {w w' : World} {g B : Nat} {v v' : Value} (h : Wro w w' g v v') (hg : B ≤ g) (hB : B ≤ w.heap.size) (hv : ∀ k, v.ownBlock = some k → B ≤ k) : Below B w w' :=
  ⟨h.os, h.tape, h.output, h.size, fun k hk => h.block k (by omega) (by omega) fun e => by have := hv k e; omega⟩
theorem Wro.of_below {w w' : World} {g : Nat} {v : Value} (h : Below w.heap.size w w') : Wro w w' g v v := ⟨h.os, h.tape, h.output, h.size, fun k hk _ _ => h.block k hk, .inl rfl⟩
end Go.Bus
namespace Go.Proofs.YtbbfpbmogklomaaGreatDoor
open Go.RowKit Go.Bus Go.Bus.cellK Go.Bus.codeK
set_option linter.unusedVariables false
namespace codeW
def insC (x : Ins) : List Value := [.int .i64 x.op, .int .i64 x.a, .int .i64 x.b, .int .i64 x.n, .int .u64 x.imm]
def insE : Rel Ins := fun _ _ cs x => cs = insC x
theorem insE_mono : Mono insE := fun _ _ _ _ _ _ _ _ h => h
theorem insE_one : One insE := by
  rintro w F cs x rfl u hu
  simp [insC] at hu
  rcases hu with rfl | rfl | rfl | rfl | rfl <;> rfl
abbrev clos (f : FuncId) (caps : Array Value) : Value := .func (.func f) #[] caps
abbrev ptr (b : Nat) : Value := .pointer (some ⟨b, 0, none⟩)
def whF : Wh → FuncId
  | .A => 47 | .B => 48 | _ => 101
def whO : Wh → Nat
  | .A => 1 | .B => 2 | .N => 3 | .I => 4
structure Boxes (w : World) (F : Foot) (h : Wh) (lo hi : Int) (s : ByteArray) (b0 b1 b2 b3 : Nat) : Prop where
  f0 : F b0
  f1 : F b1
  f2 : F b2
  f3 : F b3
  h0 : Has w b0 126 #[clos (whF h) #[]]
  h1 : Has w b1 3 #[.int .i64 lo]
  h2 : Has w b2 3 #[.int .i64 hi]
  h3 : Has w b3 9 #[.string s]
def par : Fk → Option (Wh × Int × Int × ByteArray)
  | .small h lo hi s => some (h, lo, hi, s) | .skip => some (.N, 0, 16384, eS) | .bytes => some (.N, 1, 8, eS) | _ => none
def cOk (x : Fk) (b0 b1 b2 : Nat) : Value :=
  match x with
  | .bytes => clos 124 #[] | .number => clos 92 #[] | .sign => clos 125 #[] | _ => clos 83 #[ptr b0, ptr b1, ptr b2]
def cWr (x : Fk) (b0 : Nat) : Value :=
  match x with
  | .skip => clos 128 #[] | .number => clos 93 #[] | .sign => clos 93 #[] | _ => clos 84 #[ptr b0]
def cRd (x : Fk) (b0 : Nat) : Value :=
  match x with
  | .skip => clos 129 #[] | .number => clos 95 #[] | .sign => clos 95 #[] | _ => clos 85 #[ptr b0]
def cTx (x : Fk) (b3 b0 : Nat) : Value :=
  match x with
  | .number => clos 97 #[] | .sign => clos 126 #[] | _ => clos 87 #[ptr b3, ptr b0]
def cPa (x : Fk) (b3 b0 : Nat) : Value :=
  match x with
  | .number => clos 99 #[] | .sign => clos 127 #[] | _ => clos 89 #[ptr b3, ptr b0]
def fieldC (x : Fk) (b0 b1 b2 b3 : Nat) : List Value := [cOk x b0 b1 b2, cWr x b0, cRd x b0, cTx x b3 b0, cPa x b3 b0]
/-- Five closures are those of a field. -/
def FieldE : Rel Fk := fun w F cs x => ∃ b0 b1 b2 b3, cs = fieldC x b0 b1 b2 b3 ∧ ∀ h lo hi s, par x = some (h, lo, hi, s) → Boxes w F h lo hi s b0 b1 b2 b3
theorem Boxes.keep {w w' : World} {F F' : Foot} {h : Wh} {lo hi : Int} {s : ByteArray} {b0 b1 b2 b3 : Nat} (hF : ∀ b, F b → F' b) (hk : ∀ b, F b → w'.heap[b]? = w.heap[b]?) (k : Boxes w F h lo hi s b0 b1 b2 b3) : Boxes w' F' h lo hi s b0 b1 b2 b3 :=
  ⟨hF _ k.f0, hF _ k.f1, hF _ k.f2, hF _ k.f3, (hk _ k.f0).trans k.h0, (hk _ k.f1).trans k.h1, (hk _ k.f2).trans k.h2, (hk _ k.f3).trans k.h3⟩
theorem FieldE_mono : Mono FieldE := by
  rintro w w' F F' cs x hF hk ⟨b0, b1, b2, b3, rfl, h⟩
  exact ⟨b0, b1, b2, b3, rfl, fun h' lo hi s e => (h h' lo hi s e).keep hF hk⟩
theorem FieldE_one : One FieldE := by
  rintro w F cs x ⟨b0, b1, b2, b3, rfl, _⟩ u hu
  cases x <;> simp [fieldC, cOk, cWr, cRd, cTx, cPa] at hu <;> rcases hu with rfl | rfl | rfl | rfl | rfl <;> rfl
def faultV (no at_ : Int) : Value := .iface 89 (.agg #[.int .i64 no, .int .i64 0, .int .i64 at_])
def byteV (c : Int) : Value := .int .u8 c
/-- A writer: its bytes in a row of its own. -/
def Wr (w : World) (g base : Nat) (v : Value) (bs : List Int) (x : Ins) : Prop :=
  Has w g 63 #[v, .int .i64 x.op, .int .i64 x.a, .int .i64 x.b, .int .i64 x.n, .int .u64 x.imm] ∧ w.ownsRow base 5 1 v bs.length (bs.map byteV)
/-- A reader. -/
def RdH (w : World) (g : Nat) (v : Value) (at_ : Nat) (x : Ins) (e : Value) : Prop :=
  Has w g 86 #[v, .int .i64 at_, .int .i64 x.op, .int .i64 x.a, .int .i64 x.b, .int .i64 x.n, .int .u64 x.imm, e]
theorem hmf : ∀ (fn : Fn) (first cap : Array Value) (w : World), (Instr.makeFunc fn first cap).run Tryz.prog w = .ok (.func fn first cap) w := fun _ _ _ _ => rfl
end codeW
end Go.Proofs.YtbbfpbmogklomaaGreatDoor
