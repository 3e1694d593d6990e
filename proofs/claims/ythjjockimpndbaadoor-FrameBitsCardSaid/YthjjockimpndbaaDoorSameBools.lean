/- Are two lists of bools the same? (busbarref0) Both answers. -/
import Derived.Test.YthjjockimpndbaaDoorSame0
namespace Go.Proofs.YthjjockimpndbaaDoor
open Go.RowKit Go.Bus
set_option linter.unusedVariables false
namespace sameW
set_option maxRecDepth 100000 in
set_option maxHeartbeats 1000000 in
theorem bools_any (v u : Value) (l m : List Bool) (w : World) (B : Nat) (h : Sl w B Value.bool v l) (h' : Sl w B Value.bool u m) :
    Calls Tryd.prog 21 #[v, u] w fun e w' => e = .returned (.bool (decide (l = m))) ∧ ∃ n, w' = w.drewN n := by
  obtain ⟨A, cap, rfl, hcap, hmax⟩ := h.form
  obtain ⟨A', cap', rfl, hcap', hmax'⟩ := h'.form
  have HL := Lib.hid h; clear h
  have HL' := Lib.hid h'; clear h'
  unfold maxLen at hmax hmax'
  by_cases hne : l.length = m.length
  · have d0 : ((l.length : Int) != (m.length : Int)) = false := by simp; omega
    have hle : (l.length : Int) ≤ m.length := by omega
    have hge : (m.length : Int) ≤ l.length := by omega
    have HN := Lib.hid hne; clear hne
    go_enter Tryd.func21, Tryd.ntmps21
    go_wp2
    clear d0
    go_loopw [5] (fun i wr => ∃ k n : Nat, k ≤ l.length ∧ i = .int .i64 k ∧ Hid (l.take k = m.take k) ∧ wr = w.drewN n) (fun i _ => l.length - (intOf i).toNat)
    case atStart => exact ⟨0, 0, Nat.zero_le _, rfl, (show _ = _ by simp), rfl⟩
    case round =>
      obtain ⟨k, n, hk, rfl, ht, rfl⟩ := hrel
      by_cases hlt : k < l.length
      · have hlt2 : k < m.length := by omega
        obtain ⟨b, off, rfl, hb, hc⟩ := HL.out.at_ hlt
        obtain ⟨b', off', rfl, hb', hc'⟩ := HL'.out.at_ hlt2
        have HS : Hid (l[k] = m[k] → l.take (k + 1) = m.take (k + 1)) := take_eq_succ hlt hlt2 ht.out
        have HE : Hid (l[k] ≠ m[k] → ¬ l = m) := fun hne e => hne (by subst e; rfl)
        generalize l[k] = x1 at *
        generalize m[k] = y1 at *
        cases x1 <;> cases y1
        all_goals
          go_wp2
          go_quiet (fail)
          go_wp2
        all_goals first
          | (go_ret; exact ⟨ret_bool (Eq.symm (decide_eq_false (HE.out (by decide)))), _, by first | rfl | exact World.drewN_drewN _ _ _⟩)
          | go_roundw
        all_goals first
          | exact ⟨k + 1, _, by omega, by go_num, Lib.hid (HS.out (by first | rfl | trivial)), rfl⟩
          | (simp [intOf]; done)
          | (simp [intOf]; omega)
      · obtain rfl : k = l.length := by omega
        have ht2 := ht.out
        rw [List.take_of_length_le (Nat.le_refl _), HN.out, List.take_of_length_le (Nat.le_refl _)] at ht2
        have HT := Lib.hid ht2; clear ht2
        go_wp2
        go_ret
        exact ⟨ret_bool (Eq.symm (decide_eq_true HT.out)), _, rfl⟩
  · have d0 : ((l.length : Int) != (m.length : Int)) = true := by simp; omega
    have HN : Hid (¬ l.length = m.length) := hne
    clear hne
    go_enter Tryd.func21, Tryd.ntmps21
    go_wp2
    go_ret
    exact ⟨ret_bool (Eq.symm (decide_eq_false fun e => HN.out (by rw [e]))), 0, rfl⟩
end sameW
end Go.Proofs.YthjjockimpndbaaDoor
