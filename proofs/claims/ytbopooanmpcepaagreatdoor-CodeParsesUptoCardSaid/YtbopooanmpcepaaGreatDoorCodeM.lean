/- made: the map of what makes each operation's fields. No condition. -/
import Derived.Test.YtbopooanmpcepaaGreatDoorCodeT
import Derived.Test.YtbopooanmpcepaaGreatDoorWhole
import Derived.MapKept
import Derived.Laws.EntriesVeiled
namespace Go.Bus
open Go.RowKit Go.MapKept
set_option linter.unusedVariables false
/-- A store of a whole struct into a block known whole: the world goes on under a name of its own. -/
theorem wpList_store_new {P : Program} {w : World} {g T : Nat} {cs cs' : Array Value} {ops : Array Oper} {rest : List Oper} {op : Oper} {a : Act} {Q : Exit → Act → World → Prop} (hgd : op.guard = none) (ty : TypeId) (x y : Operand) (ho : op.op = .store ty x y) (hx : a.eval x = .pointer (some ⟨g, 0, none⟩)) (hy : a.eval y = .agg cs') (hg : Has w g T cs)
    (hi : (P.info? ty).map (·.size) = some cs'.size) (hs : cs.size = cs'.size) (h1 : cs'.all (·.oneCell') = true) (h : ∀ W, Has W g T cs' → Below g w W → wpList P ops Q rest (a.put op.dst undef) W) : wpList P ops Q (op :: rest) a w :=
  wpList_store_has hgd ty x y ho g hx hy hg hi hs h1 (h _ (by unfold Has; exact setRow_heap _ _ _ _ _ _ hg) (below_setRow (Below.refl g w) (Nat.le_refl _) _))
theorem run_insert {P : Program} {w : World} {r c T kt et : Nat} {es : List MapEntry} {k : Int} {v : Value} (hT : P.underlying T = some (.map kt et)) (hk : P.underlying kt = some (.int .i64)) (hw : w.heap[r]? = some (.map es.toArray c)) (hks : ∀ x ∈ es, IsKey (.int .i64) x.key) (hne : ∀ x ∈ es, x.key ≠ .int .i64 k) :
    (Instr.mapUpdate T (.map (some r)) (.int .i64 k) v).run P w = .ok () { w with heap := w.heap.setIfInBounds r (.map (es ++ [({ key := .int .i64 k, val := v, born := c } : MapEntry)]).toArray (c + 1)) } := by
  have hkk : IsKey (.int .i64) (.int .i64 k) := rfl
  have h1 : Instr.findNow (.int .i64) (.int .i64 k) es.toArray.toList 0 = some none := by
    rcases findNow_spec hkk es 0 hks with ⟨h, _⟩ | ⟨j, e, _, h2, h3⟩
    · simpa using h
    · exact absurd h3 (hne e (List.mem_of_getElem? h2))
  simp only [Instr.mapUpdate, Sem.run_bind, run_underlying hT, MapKept.run_getObj_map hw, run_checkKey hk hkk, run_findKey hk h1, run_setObj_map _ hw, Result.andThen]
  simp
end Go.Bus
namespace Go.Proofs.YtbopooanmpcepaaGreatDoor
open Go.RowKit Go.Bus Go.Bus.cellK Go.Bus.codeK
set_option linter.unusedVariables false
set_option linter.unusedSimpArgs false
namespace codeW
def mth : Nat → FuncId
  | 0 => 33
  | 1 => 34
  | 2 => 35
  | 3 => 35
  | 4 => 35
  | 5 => 35
  | 6 => 36
  | 7 => 36
  | 8 => 34
  | 9 => 37
  | 10 => 37
  | 11 => 37
  | 12 => 37
  | 13 => 38
  | 14 => 39
  | 15 => 40
  | 16 => 40
  | 17 => 41
  | 18 => 42
  | 19 => 43
  | _ => 0
def entryN (t : Value) (k : Nat) : MapEntry := ⟨.int .i64 k, .func (.func (mth k)) #[t] #[], k⟩
def entriesN (t : Value) (n : Nat) : List MapEntry := (List.range n).map (entryN t)
theorem entriesN_succ (t : Value) (n : Nat) : entriesN t (n + 1) = entriesN t n ++ [entryN t n] := by unfold entriesN; rw [List.range_succ, List.map_append]; rfl
theorem entries_keys (t : Value) (n : Nat) : ∀ x ∈ entriesN t n, MapKept.IsKey (.int .i64) x.key := by
  intro x hx
  obtain ⟨k, _, rfl⟩ := List.mem_map.1 hx
  rfl
/-- The map between two insertions: n entries; the table's box; what lay below H is as it was. -/
structure Mk (w0 w : World) (H tb r : Nat) (t : Array Value) (n : Nat) : Prop where
  hm : w.heap[r]? = some (.map (entriesN (.agg t) n).toArray n)
  ht : Has w tb 78 t
  hb : Below H w0 w
  hr : H ≤ r
theorem Mk.step {w0 w : World} {H tb r n : Nat} {t : Array Value} (h : Mk w0 w H tb r t n) : Mk w0 { w with heap := w.heap.setIfInBounds r (.map (entriesN (.agg t) n ++ [entryN (.agg t) n]).toArray (n + 1)) } H tb r t (n + 1) := by
  have hlt : r < w.heap.size := by
    rcases Nat.lt_or_ge r w.heap.size with h1 | h1
    · exact h1
    · have := h.hm; rw [Array.getElem?_eq_none h1] at this; cases this
  have hne : tb ≠ r := by
    intro e; subst e
    have h1 := h.ht
    unfold Has at h1
    rw [h.hm] at h1
    cases h1
  refine ⟨?_, ?_, ⟨h.hb.os, h.hb.tape, h.hb.output, by simpa using h.hb.size, fun k hk => ?_⟩, h.hr⟩
  · rw [entriesN_succ]
    simp [hlt]
  · unfold Has
    show (w.heap.setIfInBounds r _)[tb]? = _
    rw [Array.getElem?_setIfInBounds_ne (Ne.symm hne)]
    exact h.ht
  · show (w.heap.setIfInBounds r _)[k]? = _
    rw [Array.getElem?_setIfInBounds_ne (by have := h.hr; omega)]
    exact h.hb.block k hk
/-- An insertion. -/
theorem wpList_insert {w0 w : World} {H tb r n : Nat} {t : Array Value} {ops : Array Oper} {rest : List Oper} {op : Oper} {a : Act} {Q : Exit → Act → World → Prop} (hgd : op.guard = none) (m k x : Operand) (ho : op.op = .insert 44 m k x) (hd : op.dst = none) (hM : Mk w0 w H tb r t n) (hm : a.eval m = .map (some r)) (hk : a.eval k = .int .i64 (n : Nat)) (hx : a.eval x = .func (.func (mth n)) #[.agg t] #[])
    (h : ∀ w1, Mk w0 w1 H tb r t (n + 1) → wpList Tryz.prog ops Q rest a w1) : wpList Tryz.prog ops Q (op :: rest) a w :=
  wpList_plain hgd fun K hK => by
    have hrun := run_insert (v := .func (.func (mth n)) #[.agg t] #[]) (k := (n : Nat)) Tryz.underlying44 Tryz.underlying3 hM.hm (entries_keys _ _) (fun y hy => by
      obtain ⟨j, hj, rfl⟩ := List.mem_map.1 hy
      have := List.mem_range.1 hj
      simp [entryN]; omega)
    have hst := hM.step
    unfold Oper.wp execOp
    simp only [ho, hm, hk, hx, Sem.run_bind, Sem.run_pure, hrun, Result.andThen_ok]
    have e : a.put op.dst undef = a := by rw [hd]; rfl
    show K (a.put op.dst undef) _
    rw [e]
    exact hK _ _ (h _ hst)
def TabA (w : World) (F : Foot) (T : Array Value) : Prop := ∃ c0 c1 c2 c3 c4 c5 c6 c7 c8 c9 c10 c11 c12 c13 c14 c15 c16 c17 c18 c19, T = #[c0, c1, c2, c3, c4, c5, c6, c7, c8, c9, c10, c11, c12, c13, c14, c15, c16, c17, c18, c19] ∧ TabE w F c0 c1 c2 c3 c4 c5 c6 c7 c8 c9 c10 c11 c12 c13 c14 c15 c16 c17 c18 c19
def MadeE (w : World) (F : Foot) (v : Value) : Prop := ∃ r T, v = .map (some r) ∧ F r ∧ w.heap[r]? = some (.map (entriesN (.agg T) 20).toArray 20) ∧ TabA w F T
theorem TabA.keep {w w' : World} {F F' : Foot} {T : Array Value} (hF : ∀ b, F b → F' b) (hk : ∀ b, F b → w'.heap[b]? = w.heap[b]?) (h : TabA w F T) : TabA w' F' T := by
  obtain ⟨c0, c1, c2, c3, c4, c5, c6, c7, c8, c9, c10, c11, c12, c13, c14, c15, c16, c17, c18, c19, rfl, h⟩ := h
  exact ⟨_, _, _, _, _, _, _, _, _, _, _, _, _, _, _, _, _, _, _, _, rfl, ⟨FieldE_mono _ _ _ _ _ _ hF hk h.r, FieldE_mono _ _ _ _ _ _ hF hk h.o, FieldE_mono _ _ _ _ _ _ hF hk h.s, FieldE_mono _ _ _ _ _ _ hF hk h.i⟩⟩
theorem MadeE.keep {w w' : World} {F F' : Foot} {v : Value} (hF : ∀ b, F b → F' b) (hk : ∀ b, F b → w'.heap[b]? = w.heap[b]?) (h : MadeE w F v) : MadeE w' F' v := by
  obtain ⟨r, T, rfl, hr, hm, hT⟩ := h
  exact ⟨r, T, rfl, hF r hr, (hk r hr).trans hm, hT.keep hF hk⟩
end codeW
end Go.Proofs.YtbopooanmpcepaaGreatDoor
