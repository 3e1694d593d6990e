/- The closures of a field as calls of known functions; a struct's equality; a field out of its slice. No condition. -/
import Derived.Test.YtbopooanmpcepaaGreatDoorCodeOf
import Derived.Test.YtbopooanmpcepaaGreatDoorCodeWd
import Derived.Test.YtbopooanmpcepaaGreatDoorCodeRd
namespace Go.Proofs.YtbopooanmpcepaaGreatDoor
open Go.RowKit Go.Bus Go.Bus.cellK Go.Bus.codeK
set_option linter.unusedVariables false
set_option linter.unusedSimpArgs false
namespace codeW
/-- A function value without a receiver. -/
def Do (c : Value) (args : Array Value) (w : World) (R : Ending → World → Prop) : Prop :=
  ∃ fn cap, c = .func (.func fn) #[] cap ∧ (∀ xs w, (callFunc fn xs).run Tryz.prog w = .ok (.enter fn xs) w) ∧ Calls Tryz.prog fn (args ++ cap) w R
theorem do_of {c : Value} {fn : FuncId} {cap args : Array Value} {w : World} {R : Ending → World → Prop} (hc : c = clos fn cap) (h : Does Tryz.prog c args w R) : Do c args w R := by
  obtain ⟨f, first, cap', rfl, hf, hC⟩ := h
  have h2 : Fn.func f = Fn.func fn ∧ first = #[] ∧ cap' = cap := by simpa [clos] using hc
  obtain ⟨_, rfl, rfl⟩ := h2
  exact ⟨f, cap', rfl, hf, by simpa using hC⟩
theorem cOk_clos (f : Fk) (b0 b1 b2 : Nat) : ∃ fn cap, cOk f b0 b1 b2 = clos fn cap := by cases f <;> exact ⟨_, _, rfl⟩
theorem cWr_clos (f : Fk) (b0 : Nat) : ∃ fn cap, cWr f b0 = clos fn cap := by cases f <;> exact ⟨_, _, rfl⟩
theorem cRd_clos (f : Fk) (b0 : Nat) : ∃ fn cap, cRd f b0 = clos fn cap := by cases f <;> exact ⟨_, _, rfl⟩
theorem ok_do {f : Fk} {c0 c1 c2 c3 c4 : Value} {F : Foot} {x : Ins} {w : World} (hE : FieldE w F [c0, c1, c2, c3, c4] f) (hf : f.ok) (hb : f = .bytes → 0 ≤ x.b ∧ x.b ≤ 7) : Do c0 #[.agg (insC x).toArray] w (Okd x f w) := by
  obtain ⟨d0, d1, d2, d3, d4, hcs, hD⟩ := ok_does f hf _ F x w hE hb
  cases hcs
  obtain ⟨b0, b1, b2, b3, hc, _⟩ := hE
  obtain ⟨fn, cap, h⟩ := cOk_clos f b0 b1 b2
  have hc0 : c0 = cOk f b0 b1 b2 := by injection hc
  exact do_of (hc0.trans h) hD
theorem wr_do {f : Fk} {c0 c1 c2 c3 c4 : Value} {F : Foot} {x : Ins} {w : World} {g base : Nat} {v : Value} {bs : List Int} (hE : FieldE w F [c0, c1, c2, c3, c4] f) (hf : f.ok) (ho : okF f x = true) (hx : x.Ok) (hW : Wr w g base v bs x) (hg : g < base) (hb : base ≤ w.heap.size) (hl : (bs ++ wrF f x).length ≤ 1000000) : Do c1 #[ptr g] w (WrPost w g base v (bs ++ wrF f x) x) := by
  obtain ⟨d0, d1, d2, d3, d4, hcs, hD⟩ := wr_does f hf _ F hE ho hx hW hg hb hl
  cases hcs
  obtain ⟨b0, b1, b2, b3, hc, _⟩ := hE
  obtain ⟨fn, cap, h⟩ := cWr_clos f b0
  have hc1 : c1 = cWr f b0 := by injection hc with _ hc; injection hc
  exact do_of (hc1.trans h) hD
theorem rd_do {f : Fk} {c0 c1 c2 c3 c4 : Value} {F : Foot} {x : Ins} {w : World} {g p : Nat} {v : Value} {bs : List Int} (hE : FieldE w F [c0, c1, c2, c3, c4] f) (hf : f.ok) (hF : ¬ F g) (hR : RdH w g v p x .nilIface) (hs : Sl w g byteV v bs) (hp : p ≤ bs.length) (hb : ∀ c ∈ bs, Byte c) : Do c2 #[ptr g] w (RdPost w g v bs p x f) := by
  obtain ⟨d0, d1, d2, d3, d4, hcs, hD⟩ := rd_does f hf _ F hE hF hR hs hp hb
  cases hcs
  obtain ⟨b0, b1, b2, b3, hc, _⟩ := hE
  obtain ⟨fn, cap, h⟩ := cRd_clos f b0
  have hc2 : c2 = cRd f b0 := by injection hc with _ hc; injection hc with _ hc; injection hc
  exact do_of (hc2.trans h) hD
/-- Field i of a slice of fields: its five cells, where they lie. -/
theorem slk_get {w : World} {F : Foot} {A : Option Addr} {n cap i : Nat} {fs : List Fk} (h : SlK 5 FieldE w F (.slice A n cap) fs) (hi : i < fs.length) :
    ∃ b off c0 c1 c2 c3 c4, A = some ⟨b, off, none⟩ ∧ F b ∧ FieldE w F [c0, c1, c2, c3, c4] fs[i] ∧ w.cell? ⟨b, off + i * 5, none⟩ = some c0 ∧ w.cell? ⟨b, off + i * 5 + 1, none⟩ = some c1 ∧ w.cell? ⟨b, off + i * 5 + 2, none⟩ = some c2 ∧ w.cell? ⟨b, off + i * 5 + 3, none⟩ = some c3 ∧ w.cell? ⟨b, off + i * 5 + 4, none⟩ = some c4 := by
  obtain ⟨b, off, cs, hA, hb, hl, hr, hE⟩ := h.at_ hi
  match cs, hl with
  | [c0, c1, c2, c3, c4], _ => exact ⟨b, off, c0, c1, c2, c3, c4, hA, hb, hE, hr 0 _ rfl, hr 1 _ rfl, hr 2 _ rfl, hr 3 _ rfl, hr 4 _ rfl⟩
/-- Instructions compared. -/
theorem eql_ins (x y : Ins) (w : World) : (binOp .eql 24 (.agg (insC x).toArray) (.agg (insC y).toArray)).run Tryz.prog w = .ok (.bool (decide (x = y))) w := by
  obtain ⟨a, b, c, d, e⟩ := x
  obtain ⟨a', b', c', d', e'⟩ := y
  by_cases h1 : a = a' <;> by_cases h2 : b = b' <;> by_cases h3 : c = c' <;> by_cases h4 : d = d' <;> by_cases h5 : e = e' <;> simp [insC, go_sem, h1, h2, h3, h4, h5]
end codeW
end Go.Proofs.YtbopooanmpcepaaGreatDoor
