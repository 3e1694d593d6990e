/- of: the fields of an operation. No condition. -/
import Derived.Test.YtbopooanmpcepaaGreatDoorCodeMa
import Derived.Test.YtbopooanmpcepaaGreatDoorCodeT2
import Derived.Test.YtbopooanmpcepaaGreatDoorCodeT3
import Derived.Test.YtbopooanmpcepaaGreatDoorCodeT5
namespace Go.Proofs.YtbopooanmpcepaaGreatDoor
open Go.RowKit Go.Bus Go.Bus.cellK Go.Bus.codeK Go.MapKept
set_option linter.unusedVariables false
set_option linter.unusedSimpArgs false
namespace codeW
def FPost (fs : List Fk) (w : World) (e : Ending) (w' : World) : Prop := ∃ v, e = .returned v ∧ SlK 5 FieldE w' (Old w'.heap.size) v fs ∧ Below w.heap.size w w'
theorem mth_any {k : Nat} {fs : List Fk} (hk : fieldsN k = some fs) {T : Array Value} (w : World) (hT : TabA w (Old w.heap.size) T) : Calls Tryz.prog (mth k) #[.agg T] w (MPost fs w) ∧ ∀ xs w, (callFunc (mth k) xs).run Tryz.prog w = .ok (.enter (mth k) xs) w := by
  obtain ⟨c0, c1, c2, c3, c4, c5, c6, c7, c8, c9, c10, c11, c12, c13, c14, c15, c16, c17, c18, c19, rfl, h⟩ := hT
  unfold fieldsN at hk
  split at hk <;> first | (cases hk; done) | (cases hk)
  · exact ⟨none_any w, fun _ _ => by kernel_rfl⟩
  · exact ⟨constant_any w h, fun _ _ => by kernel_rfl⟩
  · exact ⟨both_any w h, fun _ _ => by kernel_rfl⟩
  · exact ⟨both_any w h, fun _ _ => by kernel_rfl⟩
  · exact ⟨both_any w h, fun _ _ => by kernel_rfl⟩
  · exact ⟨both_any w h, fun _ _ => by kernel_rfl⟩
  · exact ⟨shift_any w h, fun _ _ => by kernel_rfl⟩
  · exact ⟨shift_any w h, fun _ _ => by kernel_rfl⟩
  · exact ⟨constant_any w h, fun _ _ => by kernel_rfl⟩
  · exact ⟨move_any w h, fun _ _ => by kernel_rfl⟩
  · exact ⟨move_any w h, fun _ _ => by kernel_rfl⟩
  · exact ⟨move_any w h, fun _ _ => by kernel_rfl⟩
  · exact ⟨move_any w h, fun _ _ => by kernel_rfl⟩
  · exact ⟨blend_any w h, fun _ _ => by kernel_rfl⟩
  · exact ⟨width_any w h, fun _ _ => by kernel_rfl⟩
  · exact ⟨hand_any w h, fun _ _ => by kernel_rfl⟩
  · exact ⟨hand_any w h, fun _ _ => by kernel_rfl⟩
  · exact ⟨fits_any w h, fun _ _ => by kernel_rfl⟩
  · exact ⟨skipM_any w, fun _ _ => by kernel_rfl⟩
  · exact ⟨unless_any w h, fun _ _ => by kernel_rfl⟩
theorem entries_get (t : Value) (n k : Nat) (h : k < n) : (entriesN t n)[k]? = some (entryN t k) := by
  unfold entriesN
  rw [List.getElem?_map, List.getElem?_range h]; rfl
/-- A look-up in the map that made made. -/
theorem run_look {w : World} {r : Nat} {t : Value} (hw : w.heap[r]? = some (.map (entriesN t 20).toArray 20)) (op : Int) :
    (Instr.lookup 44 (.map (some r)) (.int .i64 op) true).run Tryz.prog w = .ok (if 0 ≤ op ∧ op < 20 then .tuple #[.func (.func (mth op.toNat)) #[t] #[], .bool true] else .tuple #[.nilFunc, .bool false]) w := by
  have hkk : IsKey (.int .i64) (.int .i64 op) := rfl
  have hz : (zeroValue 79).run Tryz.prog w = .ok .nilFunc w := by kernel_rfl
  rcases findNow_spec hkk (entriesN t 20) 0 (entries_keys _ _) with ⟨h1, h2⟩ | ⟨j, e, h1, h2, h3⟩
  · have hno : ¬ (0 ≤ op ∧ op < 20) := by
      rintro ⟨ha, hb⟩
      have hm := List.mem_of_getElem? (entries_get t 20 op.toNat (by omega))
      refine h2 _ hm ?_
      show Value.int .i64 (op.toNat : Int) = _
      rw [show (op.toNat : Int) = op from by omega]
    rw [if_neg hno]
    have h1' : Instr.findNow (.int .i64) (.int .i64 op) (entriesN t 20).toArray.toList 0 = some none := by simpa using h1
    simp only [Instr.lookup, Sem.run_bind, Sem.run_pure, run_underlying Tryz.underlying44, MapKept.run_getObj_map hw, run_checkKey Tryz.underlying3 hkk, run_findKey Tryz.underlying3 h1', Result.andThen, hz]
    rfl
  · have hj : j < 20 := by
      have := (List.getElem?_eq_some_iff.1 h2).1
      simpa [entriesN] using this
    rw [entries_get t 20 j hj] at h2
    cases h2
    have hop : op = j := by
      have : Value.int .i64 (j : Int) = .int .i64 op := h3
      exact (Value.int.inj this).2.symm
    subst hop
    rw [if_pos (by omega)]
    have h1' : Instr.findNow (.int .i64) (.int .i64 (j : Int)) (entriesN t 20).toArray.toList 0 = some (some (0 + j, .func (.func (mth j)) #[t] #[])) := by simpa [entryN] using h1
    simp only [Instr.lookup, Sem.run_bind, Sem.run_pure, run_underlying Tryz.underlying44, MapKept.run_getObj_map hw, run_checkKey Tryz.underlying3 hkk, run_findKey Tryz.underlying3 h1', Result.andThen]
    rfl
set_option maxRecDepth 100000 in
set_option maxHeartbeats 1000000 in
theorem of_no {op : Int} {mv : Value} (w : World) (hM : MadeE w (Old w.heap.size) mv) (hf : fieldsOf op = none) : Calls Tryz.prog 16 #[mv, .int .i64 op] w fun e w' => e = .returned (.tuple #[.slice none 0 0, .bool false]) ∧ w = w' := by
  obtain ⟨r, T, rfl, hr, hm, hT⟩ := hM
  have hlook := run_look hm op
  have hno : ¬ (0 ≤ op ∧ op < 20) := by
    rintro ⟨h1, h2⟩
    unfold fieldsOf at hf
    rw [if_pos h1] at hf
    obtain ⟨k, rfl⟩ : ∃ k : Nat, op = k := ⟨op.toNat, by omega⟩
    simp only [Int.toNat_natCast] at hf
    have hk : k < 20 := by omega
    have : ∀ j < 20, (fieldsN j).isSome = true := by decide
    have h3 := this k hk
    rw [hf] at h3
    cases h3
  rw [if_neg hno] at hlook
  clear hm hT hr hf hno
  go_enter Tryz.func16, Tryz.ntmps16
  go_wp2
  go_ret2
  exact ⟨rfl, rfl⟩
set_option maxRecDepth 100000 in
set_option maxHeartbeats 1000000 in
theorem of_yes {op : Int} {fs : List Fk} {mv : Value} (w : World) (hM : MadeE w (Old w.heap.size) mv) (hf : fieldsOf op = some fs) : Calls Tryz.prog 16 #[mv, .int .i64 op] w fun e w' => ∃ v, e = .returned (.tuple #[v, .bool true]) ∧ SlK 5 FieldE w' (Old w'.heap.size) v fs ∧ Below w.heap.size w w' ∧ ∀ k, v.ownBlock = some k → w.heap.size ≤ k := by
  obtain ⟨r, T, rfl, hr, hm, hT⟩ := hM
  have hlook := run_look hm op
  obtain ⟨k, rfl, hk, hfn⟩ := fields_cases hf
  rw [if_pos (by omega), Int.toNat_natCast] at hlook
  obtain ⟨hC, hcf⟩ := mth_any hfn w hT
  have HC := Lib.hid hC
  obtain ⟨F, hF⟩ : ∃ F, F = mth k := ⟨_, rfl⟩
  rw [← hF] at hlook hcf HC
  clear hm hT hr hf hC hfn hF
  go_enter Tryz.func16, Tryz.ntmps16
  go_wp2_with (refine HC.out.mono ?_; rintro e w1 ⟨v, rfl, hS, hB, hO⟩; have HO := Lib.hid hO; clear hO)
  go_ret2
  exact ⟨_, rfl, hS, hB, HO.out⟩
end codeW
end Go.Proofs.YtbopooanmpcepaaGreatDoor
