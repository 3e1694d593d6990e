/- Texts of this claim, one behind the other. No condition but those that each states. -/
import Derived.Test.YtbbfpbmogklomaaGreatDoorZKh
import Derived.Test.YtbbfpbmogklomaaGreatDoorZKf
import Derived.MapKept
import Derived.Laws.EntriesVeiled
import Derived.Outline
import Derived.Test.YtbbfpbmogklomaaGreatDoorZCodeT5

namespace Go.Bus
open Go.RowKit Go.MapKept
set_option linter.unusedVariables false
/-- A store of a whole struct into a block known whole: the world goes on under a name of its own. -/
theorem wpList_store_new {P : Program} {w : World} {g T : Nat} {cs cs' : Array Value} {ops : Array Oper} {rest : List Oper} {op : Oper} {a : Act} {Q : Exit → Act → World → Prop} (hgd : op.guard = none) (ty : TypeId) (x y : Operand) (ho : op.op = .store ty x y) (hx : a.eval x = .pointer (some ⟨g, 0, none⟩)) (hy : a.eval y = .agg cs') (hg : Has w g T cs)
    (hi : (P.info? ty).map (·.size) = some cs'.size) (hs : cs.size = cs'.size) (h1 : cs'.all (·.oneCell') = true) (h : ∀ W, Has W g T cs' → Below g w W → wpList P ops Q rest (a.put op.dst undef) W) : wpList P ops Q (op :: rest) a w :=
  wpList_store_has hgd ty x y ho g hx hy hg hi hs h1 (h _ (by unfold Has; exact setRow_heap _ _ _ _ _ _ hg) (below_setRow (Below.refl g w) (Nat.le_refl _) _))
theorem run_insert {P : Program} {w : World} {r c T kt et : Nat} {es : List MapEntry} {k : Int} {v : Value} (hT : P.underlying T = some (.map kt et)) (hk : P.underlying kt = some (.int .i64)) (hw : w.heap[r]? = some (.map es.toArray c)) (hks : ∀ x ∈ es, IsKey (.int .i64) x.key) (hne : ∀ x ∈ es, x.key ≠ .int .i64 k) :
    (Instr.mapUpdate T (.map (some r)) (.int .i64 k) v).run P w = .ok () { w with heap := w.heap.setIfInBounds r (.map (es ++ [({ key := .int .i64 k, val := v, born := c } : MapEntry)]).toArray (c + 1)) } := by
  have hkk : IsKey (.int .i64) (.int .i64 k) := rfl
  have h1 : Instr.findNow (.int .i64) (.int .i64 k) es.toArray.toList 0 = some none := by
    rcases findNow_spec hkk es 0 hks with ⟨h, _⟩ | ⟨j, e, _, h2, h3⟩
    · simpa using h
    · exact absurd h3 (hne e (List.mem_of_getElem? h2))
  simp only [Instr.mapUpdate, Sem.run_bind, run_underlying hT, MapKept.run_getObj_map hw, run_checkKey hk hkk, run_findKey hk h1, run_setObj_map _ hw, Result.andThen]
  simp
end Go.Bus
namespace Go.Proofs.YtbbfpbmogklomaaGreatDoor
open Go.RowKit Go.Bus Go.Bus.cellK Go.Bus.codeK
set_option linter.unusedVariables false
set_option linter.unusedSimpArgs false
namespace codeW
def mth : Nat → FuncId
  | 0 => 50
  | 1 => 51
  | 2 => 52
  | 3 => 52
  | 4 => 52
  | 5 => 52
  | 6 => 53
  | 7 => 53
  | 8 => 51
  | 9 => 54
  | 10 => 54
  | 11 => 54
  | 12 => 54
  | 13 => 55
  | 14 => 56
  | 15 => 57
  | 16 => 57
  | 17 => 58
  | 18 => 59
  | 19 => 60
  | _ => 0
def entryN (t : Value) (k : Nat) : MapEntry := ⟨.int .i64 k, .func (.func (mth k)) #[t] #[], k⟩
def entriesN (t : Value) (n : Nat) : List MapEntry := (List.range n).map (entryN t)
theorem entriesN_succ (t : Value) (n : Nat) : entriesN t (n + 1) = entriesN t n ++ [entryN t n] := by unfold entriesN; rw [List.range_succ, List.map_append]; rfl
theorem entries_keys (t : Value) (n : Nat) : ∀ x ∈ entriesN t n, MapKept.IsKey (.int .i64) x.key := by
  intro x hx
  obtain ⟨k, _, rfl⟩ := List.mem_map.1 hx
  rfl
/-- The map between two insertions: n entries; the table's box; what lay below H is as it was. -/
structure Mk (w0 w : World) (H tb r : Nat) (t : Array Value) (n : Nat) : Prop where
  hm : w.heap[r]? = some (.map (entriesN (.agg t) n).toArray n)
  ht : Has w tb 96 t
  hb : Below H w0 w
  hr : H ≤ r
theorem Mk.step {w0 w : World} {H tb r n : Nat} {t : Array Value} (h : Mk w0 w H tb r t n) : Mk w0 { w with heap := w.heap.setIfInBounds r (.map (entriesN (.agg t) n ++ [entryN (.agg t) n]).toArray (n + 1)) } H tb r t (n + 1) := by
  have hlt : r < w.heap.size := by
    rcases Nat.lt_or_ge r w.heap.size with h1 | h1
    · exact h1
    · have := h.hm; rw [Array.getElem?_eq_none h1] at this; cases this
  have hne : tb ≠ r := by
    intro e; subst e
    have h1 := h.ht
    unfold Has at h1
    rw [h.hm] at h1
    cases h1
  refine ⟨?_, ?_, ⟨h.hb.os, h.hb.tape, h.hb.output, by simpa using h.hb.size, fun k hk => ?_⟩, h.hr⟩
  · rw [entriesN_succ]
    simp [hlt]
  · unfold Has
    show (w.heap.setIfInBounds r _)[tb]? = _
    rw [Array.getElem?_setIfInBounds_ne (Ne.symm hne)]
    exact h.ht
  · show (w.heap.setIfInBounds r _)[k]? = _
    rw [Array.getElem?_setIfInBounds_ne (by have := h.hr; omega)]
    exact h.hb.block k hk
/-- An insertion. -/
theorem wpList_insert {w0 w : World} {H tb r n : Nat} {t : Array Value} {ops : Array Oper} {rest : List Oper} {op : Oper} {a : Act} {Q : Exit → Act → World → Prop} (hgd : op.guard = none) (m k x : Operand) (ho : op.op = .insert 48 m k x) (hd : op.dst = none) (hM : Mk w0 w H tb r t n) (hm : a.eval m = .map (some r)) (hk : a.eval k = .int .i64 (n : Nat)) (hx : a.eval x = .func (.func (mth n)) #[.agg t] #[])
    (h : ∀ w1, Mk w0 w1 H tb r t (n + 1) → wpList Tryz.prog ops Q rest a w1) : wpList Tryz.prog ops Q (op :: rest) a w :=
  wpList_plain hgd fun K hK => by
    have hrun := run_insert (v := .func (.func (mth n)) #[.agg t] #[]) (k := (n : Nat)) Tryz.underlying48 Tryz.underlying3 hM.hm (entries_keys _ _) (fun y hy => by
      obtain ⟨j, hj, rfl⟩ := List.mem_map.1 hy
      have := List.mem_range.1 hj
      simp [entryN]; omega)
    have hst := hM.step
    unfold Oper.wp execOp
    simp only [ho, hm, hk, hx, Sem.run_bind, Sem.run_pure, hrun, Result.andThen_ok]
    have e : a.put op.dst undef = a := by rw [hd]; rfl
    show K (a.put op.dst undef) _
    rw [e]
    exact hK _ _ (h _ hst)
def TabA (w : World) (F : Foot) (T : Array Value) : Prop := ∃ c0 c1 c2 c3 c4 c5 c6 c7 c8 c9 c10 c11 c12 c13 c14 c15 c16 c17 c18 c19, T = #[c0, c1, c2, c3, c4, c5, c6, c7, c8, c9, c10, c11, c12, c13, c14, c15, c16, c17, c18, c19] ∧ TabE w F c0 c1 c2 c3 c4 c5 c6 c7 c8 c9 c10 c11 c12 c13 c14 c15 c16 c17 c18 c19
def MadeE (w : World) (F : Foot) (v : Value) : Prop := ∃ r T, v = .map (some r) ∧ F r ∧ w.heap[r]? = some (.map (entriesN (.agg T) 20).toArray 20) ∧ TabA w F T
theorem TabA.keep {w w' : World} {F F' : Foot} {T : Array Value} (hF : ∀ b, F b → F' b) (hk : ∀ b, F b → w'.heap[b]? = w.heap[b]?) (h : TabA w F T) : TabA w' F' T := by
  obtain ⟨c0, c1, c2, c3, c4, c5, c6, c7, c8, c9, c10, c11, c12, c13, c14, c15, c16, c17, c18, c19, rfl, h⟩ := h
  exact ⟨_, _, _, _, _, _, _, _, _, _, _, _, _, _, _, _, _, _, _, _, rfl, ⟨FieldE_mono _ _ _ _ _ _ hF hk h.r, FieldE_mono _ _ _ _ _ _ hF hk h.o, FieldE_mono _ _ _ _ _ _ hF hk h.s, FieldE_mono _ _ _ _ _ _ hF hk h.i⟩⟩
theorem MadeE.keep {w w' : World} {F F' : Foot} {v : Value} (hF : ∀ b, F b → F' b) (hk : ∀ b, F b → w'.heap[b]? = w.heap[b]?) (h : MadeE w F v) : MadeE w' F' v := by
  obtain ⟨r, T, rfl, hr, hm, hT⟩ := h
  exact ⟨r, T, rfl, hF r hr, (hk r hr).trans hm, hT.keep hF hk⟩
end codeW
end Go.Proofs.YtbbfpbmogklomaaGreatDoor

namespace Go.Proofs.YtbbfpbmogklomaaGreatDoor
open Go.RowKit Go.Bus Go.Bus.cellK Go.Bus.codeK
set_option linter.unusedVariables false
set_option linter.unusedSimpArgs false
namespace codeW
theorem infoTab : (Tryz.prog.info? 96).map (·.size) = some 20 := by kernel_rfl
set_option maxRecDepth 100000 in
set_option maxHeartbeats 4000000 in
theorem made_any (w : World) : Calls Tryz.prog 25 #[] w fun e w' => ∃ v, e = .returned v ∧ MadeE w' (Iv w.heap.size w'.heap.size) v ∧ Below w.heap.size w w' := by
  have hm := hmf
  have hmm := @run_makeMap Tryz.prog
  have hbu : ∀ (c0 c1 c2 c3 c4 o0 o1 o2 o3 o4 s0 s1 s2 s3 s4 n0 n1 n2 n3 n4 : Value) (w : World), (Instr.build 96 #[(0, .agg #[c0, c1, c2, c3, c4]), (1, .agg #[o0, o1, o2, o3, o4]), (2, .agg #[s0, s1, s2, s3, s4]), (3, .agg #[n0, n1, n2, n3, n4])]).run Tryz.prog w = .ok (.agg #[c0, c1, c2, c3, c4, o0, o1, o2, o3, o4, s0, s1, s2, s3, s4, n0, n1, n2, n3, n4]) w := fun c0 c1 c2 c3 c4 o0 o1 o2 o3 o4 s0 s1 s2 s3 s4 n0 n1 n2 n3 n4 w => by kernel_rfl
  go_enter Tryz.func25, Tryz.ntmps25
  go_wp2_with fail
  refine (small_any .A 0 15 rS _).mono ?_
  rintro e w1 ⟨c0, c1, c2, c3, c4, rfl, hf, hb⟩
  have HF1 := Lib.hid hf; have HB1 := Lib.hid hb; clear hf hb
  go_wp2_with fail
  refine (small_any .B 0 15 rS _).mono ?_
  rintro e w2 ⟨o0, o1, o2, o3, o4, rfl, hf, hb⟩
  have HF2 := Lib.hid hf; have HB2 := Lib.hid hb; clear hf hb
  go_wp2_with fail
  refine (small_any .B 0 63 eS _).mono ?_
  rintro e w3 ⟨s0, s1, s2, s3, s4, rfl, hf, hb⟩
  have HF3 := Lib.hid hf; have HB3 := Lib.hid hb; clear hf hb
  go_wp2_with fail
  refine (number_any _).mono ?_
  rintro e w4 ⟨n0, n1, n2, n3, n4, rfl, hf, hb⟩
  have HF4 := Lib.hid hf; have HB4 := Lib.hid hb; clear hf hb
  have H1 : (#[c0, c1, c2, c3, c4, o0, o1, o2, o3, o4, s0, s1, s2, s3, s4, n0, n1, n2, n3, n4] : Array Value).all (·.oneCell') = true := by
    rw [Array.all_eq_true']
    intro u hu
    have h1 := FieldE_one _ _ _ _ HF1.out u; have h2 := FieldE_one _ _ _ _ HF2.out u; have h3 := FieldE_one _ _ _ _ HF3.out u; have h4 := FieldE_one _ _ _ _ HF4.out u
    simp only [List.mem_cons, List.not_mem_nil, or_false] at h1 h2 h3 h4
    simp only [List.mem_toArray, List.mem_cons, List.not_mem_nil, or_false] at hu
    rcases hu with h | h | h | h | h | h | h | h | h | h | h | h | h | h | h | h | h | h | h | h
    · exact h1 (by simp [h])
    · exact h1 (by simp [h])
    · exact h1 (by simp [h])
    · exact h1 (by simp [h])
    · exact h1 (by simp [h])
    · exact h2 (by simp [h])
    · exact h2 (by simp [h])
    · exact h2 (by simp [h])
    · exact h2 (by simp [h])
    · exact h2 (by simp [h])
    · exact h3 (by simp [h])
    · exact h3 (by simp [h])
    · exact h3 (by simp [h])
    · exact h3 (by simp [h])
    · exact h3 (by simp [h])
    · exact h4 (by simp [h])
    · exact h4 (by simp [h])
    · exact h4 (by simp [h])
    · exact h4 (by simp [h])
    · exact h4 (by simp [h])
  have H1h := Lib.hid H1; clear H1
  go_wp2_with (first
    | (refine wpList_store_new rfl 96 (.tmp 1) (.tmp 6) (by rfl) (by rfl) (by rfl) (by exact Has.new w4 _ _) (by exact infoTab) (by rfl) (by exact H1h.out) ?_
       intro W hT hW
       obtain ⟨T, hTT⟩ : ∃ T : Array Value, T = #[c0, c1, c2, c3, c4, o0, o1, o2, o3, o4, s0, s1, s2, s3, s4, n0, n1, n2, n3, n4] := ⟨_, rfl⟩
       rw [← hTT] at hT
       have hTS : T.size = 20 := by rw [hTT]; rfl
       have HTT := Lib.hid hTT
       have HT := Lib.hid hT
       have hmk : Mk w4 (W.alloc (.map #[] 0)) w4.heap.size w4.heap.size W.heap.size T 0 := ⟨heap_alloc_new W _, hT.alloc _, Below.alloc (Below.trans ((Below.refl _ _).alloc (Nat.le_refl _) _) hW) (Nat.le_of_lt hT.lt) _, Nat.le_of_lt hT.lt⟩
       have HM := Lib.hid hmk
       have hit : (Tryz.prog.info? 96).map (·.size) = some T.size := by rw [hTS, infoTab]
       have HIT := Lib.hid hit
       clear hmk hit
       have HW : Hid (Below w4.heap.size w4 W) := Lib.hid (Below.trans ((Below.refl _ _).alloc (Nat.le_refl _) _) hW)
       have zW : w4.heap.size < W.heap.size := hT.lt
       clear hTT hTS hT hW)
    | (refine wpList_load_has rfl 96 (.tmp 1) (by rfl) w4.heap.size (by rfl) (by exact HM.out.ht) Tryz.underlying96 (by rfl) (by exact HIT.out) ?_)
    | (refine wpList_insert rfl (.tmp 7) _ _ (by rfl) (by rfl) (by exact HM.out) (by rfl) (by rfl) (by rfl) ?_; intro W2 hM2; have HM := Lib.hid hM2; clear hM2))
  go_ret
  have b4 := HM.out.hb
  have b1 := HB1.out
  have b2 := HB2.out
  have b3 := HB3.out
  have b5 := HB4.out
  have s1 := b1.size
  have s2 := b2.size
  have s3 := b3.size
  have s4 := b5.size
  have s5 := b4.size
  have e3 : Below w3.heap.size w3 _ := b5.trans (b4.mono s4)
  have e2 : Below w2.heap.size w2 _ := b3.trans (e3.mono s3)
  have e1 : Below w1.heap.size w1 _ := b2.trans (e2.mono s2)
  have e0 : Below w.heap.size w _ := b1.trans (e1.mono s1)
  refine ⟨_, rfl, ⟨W.heap.size, T, rfl, ⟨by omega, ?_⟩, HM.out.hm, _, _, _, _, _, _, _, _, _, _, _, _, _, _, _, _, _, _, _, _, HTT.out, ⟨?_, ?_, ?_, ?_⟩⟩, e0⟩
  · exact (Array.getElem?_eq_some_iff.1 HM.out.hm).1
  · exact FieldE.later HF1.out (fun b hb => ⟨hb.1, Nat.lt_of_lt_of_le hb.2 e1.size⟩) (fun b hb => hb.2) e1
  · exact FieldE.later HF2.out (fun b hb => ⟨Nat.le_trans s1 hb.1, Nat.lt_of_lt_of_le hb.2 e2.size⟩) (fun b hb => hb.2) e2
  · exact FieldE.later HF3.out (fun b hb => ⟨Nat.le_trans s1 (Nat.le_trans s2 hb.1), Nat.lt_of_lt_of_le hb.2 e3.size⟩) (fun b hb => hb.2) e3
  · exact FieldE.later HF4.out (fun b hb => ⟨Nat.le_trans s1 (Nat.le_trans s2 (Nat.le_trans s3 hb.1)), Nat.lt_of_lt_of_le hb.2 b4.size⟩) (fun b hb => hb.2) b4
end codeW
end Go.Proofs.YtbbfpbmogklomaaGreatDoor

namespace Go.Proofs.YtbbfpbmogklomaaGreatDoor
open Go.RowKit Go.Bus Go.Bus.cellK Go.Bus.codeK Go.MapKept
set_option linter.unusedVariables false
set_option linter.unusedSimpArgs false
namespace codeW
def FPost (fs : List Fk) (w : World) (e : Ending) (w' : World) : Prop := ∃ v, e = .returned v ∧ SlK 5 FieldE w' (Old w'.heap.size) v fs ∧ Below w.heap.size w w'
theorem mth_any {k : Nat} {fs : List Fk} (hk : fieldsN k = some fs) {T : Array Value} (w : World) (hT : TabA w (Old w.heap.size) T) : Calls Tryz.prog (mth k) #[.agg T] w (MPost fs w) ∧ ∀ xs w, (callFunc (mth k) xs).run Tryz.prog w = .ok (.enter (mth k) xs) w := by
  obtain ⟨c0, c1, c2, c3, c4, c5, c6, c7, c8, c9, c10, c11, c12, c13, c14, c15, c16, c17, c18, c19, rfl, h⟩ := hT
  unfold fieldsN at hk
  split at hk <;> first | (cases hk; done) | (cases hk)
  · exact ⟨none_any w, fun _ _ => by kernel_rfl⟩
  · exact ⟨constant_any w h, fun _ _ => by kernel_rfl⟩
  · exact ⟨both_any w h, fun _ _ => by kernel_rfl⟩
  · exact ⟨both_any w h, fun _ _ => by kernel_rfl⟩
  · exact ⟨both_any w h, fun _ _ => by kernel_rfl⟩
  · exact ⟨both_any w h, fun _ _ => by kernel_rfl⟩
  · exact ⟨shift_any w h, fun _ _ => by kernel_rfl⟩
  · exact ⟨shift_any w h, fun _ _ => by kernel_rfl⟩
  · exact ⟨constant_any w h, fun _ _ => by kernel_rfl⟩
  · exact ⟨move_any w h, fun _ _ => by kernel_rfl⟩
  · exact ⟨move_any w h, fun _ _ => by kernel_rfl⟩
  · exact ⟨move_any w h, fun _ _ => by kernel_rfl⟩
  · exact ⟨move_any w h, fun _ _ => by kernel_rfl⟩
  · exact ⟨blend_any w h, fun _ _ => by kernel_rfl⟩
  · exact ⟨width_any w h, fun _ _ => by kernel_rfl⟩
  · exact ⟨hand_any w h, fun _ _ => by kernel_rfl⟩
  · exact ⟨hand_any w h, fun _ _ => by kernel_rfl⟩
  · exact ⟨fits_any w h, fun _ _ => by kernel_rfl⟩
  · exact ⟨skipM_any w, fun _ _ => by kernel_rfl⟩
  · exact ⟨unless_any w h, fun _ _ => by kernel_rfl⟩
theorem entries_get (t : Value) (n k : Nat) (h : k < n) : (entriesN t n)[k]? = some (entryN t k) := by
  unfold entriesN
  rw [List.getElem?_map, List.getElem?_range h]; rfl
/-- A look-up in the map that made made. -/
theorem run_look {w : World} {r : Nat} {t : Value} (hw : w.heap[r]? = some (.map (entriesN t 20).toArray 20)) (op : Int) :
    (Instr.lookup 48 (.map (some r)) (.int .i64 op) true).run Tryz.prog w = .ok (if 0 ≤ op ∧ op < 20 then .tuple #[.func (.func (mth op.toNat)) #[t] #[], .bool true] else .tuple #[.nilFunc, .bool false]) w := by
  have hkk : IsKey (.int .i64) (.int .i64 op) := rfl
  have hz : (zeroValue 97).run Tryz.prog w = .ok .nilFunc w := by kernel_rfl
  rcases findNow_spec hkk (entriesN t 20) 0 (entries_keys _ _) with ⟨h1, h2⟩ | ⟨j, e, h1, h2, h3⟩
  · have hno : ¬ (0 ≤ op ∧ op < 20) := by
      rintro ⟨ha, hb⟩
      have hm := List.mem_of_getElem? (entries_get t 20 op.toNat (by omega))
      refine h2 _ hm ?_
      show Value.int .i64 (op.toNat : Int) = _
      rw [show (op.toNat : Int) = op from by omega]
    rw [if_neg hno]
    have h1' : Instr.findNow (.int .i64) (.int .i64 op) (entriesN t 20).toArray.toList 0 = some none := by simpa using h1
    simp only [Instr.lookup, Sem.run_bind, Sem.run_pure, run_underlying Tryz.underlying48, MapKept.run_getObj_map hw, run_checkKey Tryz.underlying3 hkk, run_findKey Tryz.underlying3 h1', Result.andThen, hz]
    rfl
  · have hj : j < 20 := by
      have := (List.getElem?_eq_some_iff.1 h2).1
      simpa [entriesN] using this
    rw [entries_get t 20 j hj] at h2
    cases h2
    have hop : op = j := by
      have : Value.int .i64 (j : Int) = .int .i64 op := h3
      exact (Value.int.inj this).2.symm
    subst hop
    rw [if_pos (by omega)]
    have h1' : Instr.findNow (.int .i64) (.int .i64 (j : Int)) (entriesN t 20).toArray.toList 0 = some (some (0 + j, .func (.func (mth j)) #[t] #[])) := by simpa [entryN] using h1
    simp only [Instr.lookup, Sem.run_bind, Sem.run_pure, run_underlying Tryz.underlying48, MapKept.run_getObj_map hw, run_checkKey Tryz.underlying3 hkk, run_findKey Tryz.underlying3 h1', Result.andThen]
    rfl
set_option maxRecDepth 100000 in
set_option maxHeartbeats 1000000 in
theorem of_no {op : Int} {mv : Value} (w : World) (hM : MadeE w (Old w.heap.size) mv) (hf : fieldsOf op = none) : Calls Tryz.prog 27 #[mv, .int .i64 op] w fun e w' => e = .returned (.tuple #[.slice none 0 0, .bool false]) ∧ w = w' := by
  obtain ⟨r, T, rfl, hr, hm, hT⟩ := hM
  have hlook := run_look hm op
  have hno : ¬ (0 ≤ op ∧ op < 20) := by
    rintro ⟨h1, h2⟩
    unfold fieldsOf at hf
    rw [if_pos h1] at hf
    obtain ⟨k, rfl⟩ : ∃ k : Nat, op = k := ⟨op.toNat, by omega⟩
    simp only [Int.toNat_natCast] at hf
    have hk : k < 20 := by omega
    have : ∀ j < 20, (fieldsN j).isSome = true := by decide
    have h3 := this k hk
    rw [hf] at h3
    cases h3
  rw [if_neg hno] at hlook
  clear hm hT hr hf hno
  go_enter Tryz.func27, Tryz.ntmps27
  go_wp2
  go_ret2
  exact ⟨rfl, rfl⟩
set_option maxRecDepth 100000 in
set_option maxHeartbeats 1000000 in
theorem of_yes {op : Int} {fs : List Fk} {mv : Value} (w : World) (hM : MadeE w (Old w.heap.size) mv) (hf : fieldsOf op = some fs) : Calls Tryz.prog 27 #[mv, .int .i64 op] w fun e w' => ∃ v, e = .returned (.tuple #[v, .bool true]) ∧ SlK 5 FieldE w' (Old w'.heap.size) v fs ∧ Below w.heap.size w w' ∧ ∀ k, v.ownBlock = some k → w.heap.size ≤ k := by
  obtain ⟨r, T, rfl, hr, hm, hT⟩ := hM
  have hlook := run_look hm op
  obtain ⟨k, rfl, hk, hfn⟩ := fields_cases hf
  rw [if_pos (by omega), Int.toNat_natCast] at hlook
  obtain ⟨hC, hcf⟩ := mth_any hfn w hT
  have HC := Lib.hid hC
  obtain ⟨F, hF⟩ : ∃ F, F = mth k := ⟨_, rfl⟩
  rw [← hF] at hlook hcf HC
  clear hm hT hr hf hC hfn hF
  go_enter Tryz.func27, Tryz.ntmps27
  go_wp2_with (refine HC.out.mono ?_; rintro e w1 ⟨v, rfl, hS, hB, hO⟩; have HO := Lib.hid hO; clear hO)
  go_ret2
  exact ⟨_, rfl, hS, hB, HO.out⟩
end codeW
end Go.Proofs.YtbbfpbmogklomaaGreatDoor
