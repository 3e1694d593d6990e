/- Are two lists of ints the same? (busbarref0) Both answers. -/
import Derived.Test.YthjjockimpndbaaDoorBase
import Derived.Test.YthjjockimpndbaaDoorProg
import Derived.Deep.QuietTactic
import Derived.BigQuiet
namespace Go.Proofs.YthjjockimpndbaaDoor
open Go.RowKit Go.Bus
set_option linter.unusedVariables false
namespace sameI
theorem take_eq_succ {α : Type} {l m : List α} {k : Nat} (h1 : k < l.length) (h2 : k < m.length) (h : l.take k = m.take k) (he : l[k] = m[k]) : l.take (k + 1) = m.take (k + 1) := by
  rw [List.take_succ_eq_append_getElem h1, List.take_succ_eq_append_getElem h2, h, he]

set_option maxRecDepth 100000 in
set_option maxHeartbeats 1000000 in
theorem ints_any (v u : Value) (l m : List Int) (w : World) (B : Nat) (h : Sl w B (Value.int .i64) v l) (h' : Sl w B (Value.int .i64) u m) :
    Calls Tryd.prog 42 #[v, u] w fun e w' => e = .returned (.bool (decide (l = m))) ∧ ∃ n, w' = w.drewN n := by
  obtain ⟨A, cap, rfl, hcap, hmax⟩ := h.form
  obtain ⟨A', cap', rfl, hcap', hmax'⟩ := h'.form
  have HL := Lib.hid h; clear h
  have HL' := Lib.hid h'; clear h'
  unfold maxLen at hmax hmax'
  by_cases hne : l.length = m.length
  · have d0 : ((l.length : Int) != (m.length : Int)) = false := by simp; omega
    have hle : (l.length : Int) ≤ m.length := by omega
    have hge : (m.length : Int) ≤ l.length := by omega
    have HN := Lib.hid hne; clear hne
    go_enter Tryd.func42, Tryd.ntmps42
    go_wp2
    clear d0
    go_loopw [5] (fun i wr => ∃ k n : Nat, k ≤ l.length ∧ i = .int .i64 k ∧ Hid (l.take k = m.take k) ∧ wr = w.drewN n) (fun i _ => l.length - (intOf i).toNat)
    case atStart => exact ⟨0, 0, Nat.zero_le _, rfl, (show _ = _ by simp), rfl⟩
    case round =>
      obtain ⟨k, n, hk, rfl, ht, rfl⟩ := hrel
      by_cases hlt : k < l.length
      · have hlt2 : k < m.length := by omega
        obtain ⟨b, off, rfl, hb, hc⟩ := HL.out.at_ hlt
        obtain ⟨b', off', rfl, hb', hc'⟩ := HL'.out.at_ hlt2
        by_cases he : l[k] = m[k]
        · have d1 : (l[k] != m[k]) = false := by simp [he]
          have H2 := Lib.hid (take_eq_succ hlt hlt2 ht.out he)
          clear he
          go_wp2
          go_quiet (fail)
          go_wp2
          go_roundw
          case rel => exact ⟨k + 1, _, by omega, by go_num, H2, rfl⟩
          case measure => first | (simp [intOf]; done) | (simp [intOf]; omega)
        · have d1 : (l[k] != m[k]) = true := by simp [he]
          have HE : Hid (¬ l[k] = m[k]) := he
          clear he
          go_wp2
          go_quiet (fail)
          go_wp2
          go_ret
          refine ⟨ret_bool (Eq.symm (decide_eq_false fun e => HE.out (by subst e; rfl))), _, by first | rfl | exact World.drewN_drewN _ _ _⟩
      · obtain rfl : k = l.length := by omega
        have ht2 := ht.out
        rw [List.take_of_length_le (Nat.le_refl _), HN.out, List.take_of_length_le (Nat.le_refl _)] at ht2
        have HT := Lib.hid ht2; clear ht2
        go_wp2
        go_ret
        exact ⟨ret_bool (Eq.symm (decide_eq_true HT.out)), _, rfl⟩
  · have d0 : ((l.length : Int) != (m.length : Int)) = true := by simp; omega
    have HN : Hid (¬ l.length = m.length) := hne
    clear hne
    go_enter Tryd.func42, Tryd.ntmps42
    go_wp2
    go_ret
    exact ⟨ret_bool (Eq.symm (decide_eq_false fun e => HN.out (by rw [e]))), 0, rfl⟩
end sameI
end Go.Proofs.YthjjockimpndbaaDoor
