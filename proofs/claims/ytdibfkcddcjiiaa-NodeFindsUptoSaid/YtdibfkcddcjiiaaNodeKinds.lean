/- busbarref05.Kinds: the ranks of a database's nodes, in order. Condition: no list of more than 2^47 bytes. -/
import Derived.Test.YtdibfkcddcjiiaaNodeList
namespace Go.Proofs.Ytdibfkcddcjiiaa
open Go.RowKit Go.Bus Go.Bus.cellK Go.Bus.dbK
set_option linter.unusedVariables false
set_option linter.unusedSimpArgs false
theorem Try.infoIntN : (Try.prog.info? 3).map (fun i => (i.zero, i.size, i.bytes)) = some (some (.int .i64 0), 1, 8) := by kernel_rfl
namespace nodeT
open nodeC nodeK nodeL
def rv (x : Nd) : Value := .int .i64 (rank x)
def KindsP (w : World) (d : Db) (e : Ending) (w' : World) : Prop := ∃ v, e = .returned v ∧ w'.ownsRow w.heap.size 3 1 v (nodes d).length ((nodes d).map rv) ∧ Below w.heap.size w w'
structure Ks (w wr : World) (cs : Array Value) (v : Value) (xs : List Value) : Prop where
  box : Has wr w.heap.size 32 cs
  row : wr.ownsRow w.heap.size 3 1 v xs.length xs
  bel : Below w.heap.size w wr
theorem Ks.push {w wr w3 : World} {cs : Array Value} {v v3 u : Value} {xs : List Value} {O : Obj} (h : Ks w wr cs v xs) (ho : w3.ownsRow w.heap.size 3 1 v3 (xs.length + 1) (xs ++ [u])) (hg : (wr.alloc O).grownBy w3 v.ownBlock) : Ks w w3 cs v3 (xs ++ [u]) :=
  ⟨(h.box.alloc _).grown hg (fun e => own_has_ne h.row h.box (by decide) e.symm), by rw [List.length_append]; exact ho, (h.bel.alloc h.bel.size _).grown hg (by have := h.bel.size; simp; omega) fun r hr => (h.row.lt r hr).1⟩
theorem node_parts (d : Db) : (nodes d).map rv = (if d.hasV then [Value.int .i64 1] else []) ++ [.int .i64 2] ++ List.replicate d.msgs.length (.int .i64 3) ++ List.replicate d.tabs.length (.int .i64 4) := by
  have e1 : ∀ l : List Msg, (l.map Nd.msg).map rv = List.replicate l.length (Value.int .i64 3) := by
    intro l
    induction l with
    | nil => rfl
    | cons x t ih => rw [List.map_cons, List.map_cons, ih]; rfl
  have e2 : ∀ l : List Tab, (l.map Nd.tab).map rv = List.replicate l.length (Value.int .i64 4) := by
    intro l
    induction l with
    | nil => rfl
    | cons x t ih => rw [List.map_cons, List.map_cons, ih]; rfl
  unfold nodes
  rw [List.map_append, List.map_append, List.map_append, e1, e2]
  cases d.hasV <;> rfl
set_option maxRecDepth 100000 in
set_option maxHeartbeats 2000000 in
theorem kinds_any (d : Db) (sv mv tv : Value) (w : World) (hm : ∃ A c, mv = .slice A d.msgs.length c) (ht : ∃ A c, tv = .slice A d.tabs.length c) (b1 : d.msgs.length * 88 ≤ 140737488351232) (b2 : d.tabs.length * 64 ≤ 140737488351232) :
    Calls Try.prog 23 #[.agg (dbCells d sv mv tv).toArray] w (KindsP w d) := by
  obtain ⟨i0, hi, hz0, hz1, hz2⟩ := info_parts Try.infoIntN
  obtain ⟨Am, cm, rfl⟩ := hm
  obtain ⟨At, ct, rfl⟩ := ht
  have hnp := node_parts d
  have hnl : (nodes d).length = ((nodes d).map rv).length := by rw [List.length_map]
  unfold KindsP
  rw [hnl, hnp]
  clear hnp hnl
  obtain ⟨hasV, ver, sta, msgs, tabs⟩ := d
  dsimp only at b1 b2 ⊢
  have HK0 : Hid (Ks w (w.alloc (.cells (dbCells ⟨hasV, ver, sta, msgs, tabs⟩ sv (.slice Am msgs.length cm) (.slice At tabs.length ct)).toArray 32)) (dbCells ⟨hasV, ver, sta, msgs, tabs⟩ sv (.slice Am msgs.length cm) (.slice At tabs.length ct)).toArray (.slice none 0 0) []) := ⟨Has.new _ _ _, World.ownsRow_nil _ _ _ _, (Below.refl _ _).alloc (Nat.le_refl _) _⟩
  go_enter Try.func23, Try.ntmps23
  cases hasV
  case false =>
    simp only [dbCells] at HK0 ⊢
    go_wp2_with (first | (at_builtin; refine wpList_append_own _ rfl _ _ 81 rfl w.heap.size 3 i0 (.int .i64 0) 1 8 Try.underlying81 hi hz0 hz1 hz2 rfl (by decide) _ 0 [] rfl (by exact HK0.out.row.alloc _) ⟨w.heap.size + 1, 0, none⟩ 1 1 [.int .i64 2] rfl rfl (one_new1 w _ _ _) (by intro u hu; simp at hu; subst hu; rfl) (by unfold maxLen; omega) (by omega) (by have := HK0.out.bel.size; simp at this ⊢; omega) ?_; intro v3 w3 ho3 hg3 _; have HK2 := Lib.hid (HK0.out.push (u := .int .i64 2) (by exact ho3) hg3); clear ho3 hg3))
    clear HK0
    go_loopw [4, 3] (fun i v' wr => ∃ (k : Nat) (v : Value), v = v' ∧ i = .int .i64 k ∧ k ≤ msgs.length ∧ Hid (Ks w wr #[.bool false, .int .i64 ver.line, .int .i64 ver.col, .string ver.text, .int .i64 sta.line, .int .i64 sta.col, sv, .slice Am msgs.length cm, .slice At tabs.length ct] v ([Value.int .i64 2] ++ List.replicate k (.int .i64 3)))) (fun i _ _ => msgs.length - (intOf i).toNat)
    case atStart => exact ⟨0, _, rfl, rfl, Nat.zero_le _, HK2⟩
    case round =>
      clear HK2
      obtain ⟨k, v, rfl, rfl, hk, HK⟩ := hrel
      have c7 : wr.cell? ⟨w.heap.size, 7, none⟩ = some (.slice Am msgs.length cm) := (HK.out.box.cell 7).trans rfl
      by_cases hlt : k < msgs.length
      · have hwz := HK.out.bel.size
        have hxl : ([Value.int .i64 2] ++ List.replicate k (Value.int .i64 3)).length ≤ 10000000000000 := by simp; omega
        go_wp2_with (first | (at_builtin; refine wpList_append_own _ rfl _ _ 81 rfl w.heap.size 3 i0 (.int .i64 0) 1 8 Try.underlying81 hi hz0 hz1 hz2 rfl (by decide) _ ([Value.int .i64 2] ++ List.replicate k (Value.int .i64 3)).length ([Value.int .i64 2] ++ List.replicate k (.int .i64 3)) rfl (by exact HK.out.row.alloc _) ⟨wr.heap.size, 0, none⟩ 1 1 [.int .i64 3] rfl rfl (one_new wr _ _) (by intro u hu; simp at hu; subst hu; rfl) (by unfold maxLen; omega) (by omega) (by have := HK.out.bel.size; simp at this ⊢; omega) ?_; intro v3 w3 ho3 hg3 _; have HK3 := Lib.hid (HK.out.push (u := .int .i64 3) (by exact ho3) hg3); clear ho3 hg3))
        have HK4 : Hid (Ks w w3 #[.bool false, .int .i64 ver.line, .int .i64 ver.col, .string ver.text, .int .i64 sta.line, .int .i64 sta.col, sv, .slice Am msgs.length cm, .slice At tabs.length ct] v3 ([Value.int .i64 2] ++ List.replicate (k + 1) (.int .i64 3))) := by unfold Hid; rw [List.replicate_succ', ← List.append_assoc]; exact HK3.out
        exact ⟨⟨k + 1, _, rfl, by go_num, by omega, HK4⟩, by simp [intOf]; omega⟩
      · obtain rfl : k = msgs.length := by omega
        go_wp2
        go_loopw [5, 3] (fun i v' wr => ∃ (k : Nat) (v : Value), v = v' ∧ i = .int .i64 k ∧ k ≤ tabs.length ∧ Hid (Ks w wr #[.bool false, .int .i64 ver.line, .int .i64 ver.col, .string ver.text, .int .i64 sta.line, .int .i64 sta.col, sv, .slice Am msgs.length cm, .slice At tabs.length ct] v (([Value.int .i64 2] ++ List.replicate msgs.length (Value.int .i64 3)) ++ List.replicate k (.int .i64 4)))) (fun i _ _ => tabs.length - (intOf i).toNat)
        case atStart => exact ⟨0, _, rfl, rfl, Nat.zero_le _, by rw [List.replicate_zero, List.append_nil]; exact HK⟩
        case round =>
          clear HK c7
          obtain ⟨k, v, rfl, rfl, hk, HK⟩ := hrel
          have c8 : wr.cell? ⟨w.heap.size, 8, none⟩ = some (.slice At tabs.length ct) := (HK.out.box.cell 8).trans rfl
          by_cases hlt : k < tabs.length
          · have hwz := HK.out.bel.size
            have hxl : (([Value.int .i64 2] ++ List.replicate msgs.length (Value.int .i64 3)) ++ List.replicate k (Value.int .i64 4)).length ≤ 10000000000000 := by simp; omega
            go_wp2_with (first | (at_builtin; refine wpList_append_own _ rfl _ _ 81 rfl w.heap.size 3 i0 (.int .i64 0) 1 8 Try.underlying81 hi hz0 hz1 hz2 rfl (by decide) _ (([Value.int .i64 2] ++ List.replicate msgs.length (Value.int .i64 3)) ++ List.replicate k (Value.int .i64 4)).length (([Value.int .i64 2] ++ List.replicate msgs.length (Value.int .i64 3)) ++ List.replicate k (.int .i64 4)) rfl (by exact HK.out.row.alloc _) ⟨wr.heap.size, 0, none⟩ 1 1 [.int .i64 4] rfl rfl (one_new wr _ _) (by intro u hu; simp at hu; subst hu; rfl) (by unfold maxLen; omega) (by omega) (by have := HK.out.bel.size; simp at this ⊢; omega) ?_; intro v3 w3 ho3 hg3 _; have HK3 := Lib.hid (HK.out.push (u := .int .i64 4) (by exact ho3) hg3); clear ho3 hg3))
            have HK4 : Hid (Ks w w3 #[.bool false, .int .i64 ver.line, .int .i64 ver.col, .string ver.text, .int .i64 sta.line, .int .i64 sta.col, sv, .slice Am msgs.length cm, .slice At tabs.length ct] v3 (([Value.int .i64 2] ++ List.replicate msgs.length (Value.int .i64 3)) ++ List.replicate (k + 1) (.int .i64 4))) := by unfold Hid; rw [List.replicate_succ', ← List.append_assoc]; exact HK3.out
            exact ⟨⟨k + 1, _, rfl, by go_num, by omega, HK4⟩, by simp [intOf]; omega⟩
          · obtain rfl : k = tabs.length := by omega
            go_wp2
            go_ret
            exact ⟨v, rfl, by have h := HK.out.row; simpa using h, HK.out.bel⟩
  case true =>
    simp only [dbCells] at HK0 ⊢
    go_wp2_with (first | (at_builtin; refine wpList_append_own _ rfl _ _ 81 rfl w.heap.size 3 i0 (.int .i64 0) 1 8 Try.underlying81 hi hz0 hz1 hz2 rfl (by decide) _ 0 [] rfl (by exact HK0.out.row.alloc _) ⟨w.heap.size + 1, 0, none⟩ 1 1 [.int .i64 1] rfl rfl (one_new1 w _ _ _) (by intro u hu; simp at hu; subst hu; rfl) (by unfold maxLen; omega) (by omega) (by have := HK0.out.bel.size; simp at this ⊢; omega) ?_; intro v3 w3 ho3 hg3 _; have HK1 := Lib.hid (HK0.out.push (u := .int .i64 1) (by exact ho3) hg3); clear ho3 hg3) | (at_builtin; refine wpList_append_own _ rfl _ _ 81 rfl w.heap.size 3 i0 (.int .i64 0) 1 8 Try.underlying81 hi hz0 hz1 hz2 rfl (by decide) _ 1 [.int .i64 1] rfl (by exact HK1.out.row.alloc _) ⟨w3.heap.size, 0, none⟩ 1 1 [.int .i64 2] rfl rfl (one_new w3 _ _) (by intro u hu; simp at hu; subst hu; rfl) (by unfold maxLen; omega) (by omega) (by have := HK1.out.bel.size; simp at this ⊢; omega) ?_; intro v3 w3 ho3 hg3 _; have HK2 := Lib.hid (HK1.out.push (u := .int .i64 2) (by exact ho3) hg3); clear ho3 hg3))
    clear HK0
    go_loopw [4, 3] (fun i v' wr => ∃ (k : Nat) (v : Value), v = v' ∧ i = .int .i64 k ∧ k ≤ msgs.length ∧ Hid (Ks w wr #[.bool true, .int .i64 ver.line, .int .i64 ver.col, .string ver.text, .int .i64 sta.line, .int .i64 sta.col, sv, .slice Am msgs.length cm, .slice At tabs.length ct] v ([Value.int .i64 1, .int .i64 2] ++ List.replicate k (.int .i64 3)))) (fun i _ _ => msgs.length - (intOf i).toNat)
    case atStart => exact ⟨0, _, rfl, rfl, Nat.zero_le _, HK2⟩
    case round =>
      clear HK2
      obtain ⟨k, v, rfl, rfl, hk, HK⟩ := hrel
      have c7 : wr.cell? ⟨w.heap.size, 7, none⟩ = some (.slice Am msgs.length cm) := (HK.out.box.cell 7).trans rfl
      by_cases hlt : k < msgs.length
      · have hwz := HK.out.bel.size
        have hxl : ([Value.int .i64 1, .int .i64 2] ++ List.replicate k (Value.int .i64 3)).length ≤ 10000000000000 := by simp; omega
        go_wp2_with (first | (at_builtin; refine wpList_append_own _ rfl _ _ 81 rfl w.heap.size 3 i0 (.int .i64 0) 1 8 Try.underlying81 hi hz0 hz1 hz2 rfl (by decide) _ ([Value.int .i64 1, .int .i64 2] ++ List.replicate k (Value.int .i64 3)).length ([Value.int .i64 1, .int .i64 2] ++ List.replicate k (.int .i64 3)) rfl (by exact HK.out.row.alloc _) ⟨wr.heap.size, 0, none⟩ 1 1 [.int .i64 3] rfl rfl (one_new wr _ _) (by intro u hu; simp at hu; subst hu; rfl) (by unfold maxLen; omega) (by omega) (by have := HK.out.bel.size; simp at this ⊢; omega) ?_; intro v3 w3 ho3 hg3 _; have HK3 := Lib.hid (HK.out.push (u := .int .i64 3) (by exact ho3) hg3); clear ho3 hg3))
        have HK4 : Hid (Ks w w3 #[.bool true, .int .i64 ver.line, .int .i64 ver.col, .string ver.text, .int .i64 sta.line, .int .i64 sta.col, sv, .slice Am msgs.length cm, .slice At tabs.length ct] v3 ([Value.int .i64 1, .int .i64 2] ++ List.replicate (k + 1) (.int .i64 3))) := by unfold Hid; rw [List.replicate_succ', ← List.append_assoc]; exact HK3.out
        exact ⟨⟨k + 1, _, rfl, by go_num, by omega, HK4⟩, by simp [intOf]; omega⟩
      · obtain rfl : k = msgs.length := by omega
        go_wp2
        go_loopw [5, 3] (fun i v' wr => ∃ (k : Nat) (v : Value), v = v' ∧ i = .int .i64 k ∧ k ≤ tabs.length ∧ Hid (Ks w wr #[.bool true, .int .i64 ver.line, .int .i64 ver.col, .string ver.text, .int .i64 sta.line, .int .i64 sta.col, sv, .slice Am msgs.length cm, .slice At tabs.length ct] v (([Value.int .i64 1, .int .i64 2] ++ List.replicate msgs.length (Value.int .i64 3)) ++ List.replicate k (.int .i64 4)))) (fun i _ _ => tabs.length - (intOf i).toNat)
        case atStart => exact ⟨0, _, rfl, rfl, Nat.zero_le _, by rw [List.replicate_zero, List.append_nil]; exact HK⟩
        case round =>
          clear HK c7
          obtain ⟨k, v, rfl, rfl, hk, HK⟩ := hrel
          have c8 : wr.cell? ⟨w.heap.size, 8, none⟩ = some (.slice At tabs.length ct) := (HK.out.box.cell 8).trans rfl
          by_cases hlt : k < tabs.length
          · have hwz := HK.out.bel.size
            have hxl : (([Value.int .i64 1, .int .i64 2] ++ List.replicate msgs.length (Value.int .i64 3)) ++ List.replicate k (Value.int .i64 4)).length ≤ 10000000000000 := by simp; omega
            go_wp2_with (first | (at_builtin; refine wpList_append_own _ rfl _ _ 81 rfl w.heap.size 3 i0 (.int .i64 0) 1 8 Try.underlying81 hi hz0 hz1 hz2 rfl (by decide) _ (([Value.int .i64 1, .int .i64 2] ++ List.replicate msgs.length (Value.int .i64 3)) ++ List.replicate k (Value.int .i64 4)).length (([Value.int .i64 1, .int .i64 2] ++ List.replicate msgs.length (Value.int .i64 3)) ++ List.replicate k (.int .i64 4)) rfl (by exact HK.out.row.alloc _) ⟨wr.heap.size, 0, none⟩ 1 1 [.int .i64 4] rfl rfl (one_new wr _ _) (by intro u hu; simp at hu; subst hu; rfl) (by unfold maxLen; omega) (by omega) (by have := HK.out.bel.size; simp at this ⊢; omega) ?_; intro v3 w3 ho3 hg3 _; have HK3 := Lib.hid (HK.out.push (u := .int .i64 4) (by exact ho3) hg3); clear ho3 hg3))
            have HK4 : Hid (Ks w w3 #[.bool true, .int .i64 ver.line, .int .i64 ver.col, .string ver.text, .int .i64 sta.line, .int .i64 sta.col, sv, .slice Am msgs.length cm, .slice At tabs.length ct] v3 (([Value.int .i64 1, .int .i64 2] ++ List.replicate msgs.length (Value.int .i64 3)) ++ List.replicate (k + 1) (.int .i64 4))) := by unfold Hid; rw [List.replicate_succ', ← List.append_assoc]; exact HK3.out
            exact ⟨⟨k + 1, _, rfl, by go_num, by omega, HK4⟩, by simp [intOf]; omega⟩
          · obtain rfl : k = tabs.length := by omega
            go_wp2
            go_ret
            exact ⟨v, rfl, by have h := HK.out.row; simpa using h, HK.out.bel⟩
end nodeT
end Go.Proofs.Ytdibfkcddcjiiaa
