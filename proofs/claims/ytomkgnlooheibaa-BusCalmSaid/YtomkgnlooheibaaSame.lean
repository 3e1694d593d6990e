/- Are two lists of bytes, two frames the same? (busbarref0) Both answers. -/
import Derived.Test.YtomkgnlooheibaaSame0
import Derived.Deep.QuietTactic
import Derived.BigQuiet
namespace Go.Proofs.Ytomkgnlooheibaa
open Go.RowKit Go.Bus
set_option linter.unusedVariables false
namespace sameW
set_option maxRecDepth 100000 in
set_option maxHeartbeats 1000000 in
theorem bytes_any (v u : Value) (l m : List Int) (w : World) (B : Nat) (h : Sl w B (Value.int .u8) v l) (h' : Sl w B (Value.int .u8) u m) :
    Calls Try.prog 38 #[v, u] w fun e w' => e = .returned (.bool (decide (l = m))) ∧ ∃ n, w' = w.drewN n := by
  obtain ⟨A, cap, rfl, hcap, hmax⟩ := h.form
  obtain ⟨A', cap', rfl, hcap', hmax'⟩ := h'.form
  have HL := Lib.hid h; clear h
  have HL' := Lib.hid h'; clear h'
  unfold maxLen at hmax hmax'
  by_cases hne : l.length = m.length
  · have d0 : ((l.length : Int) != (m.length : Int)) = false := by simp; omega
    have hle : (l.length : Int) ≤ m.length := by omega
    have hge : (m.length : Int) ≤ l.length := by omega
    have HN := Lib.hid hne; clear hne
    go_enter Try.func38, Try.ntmps38
    go_wp2
    clear d0
    go_loopw [5] (fun i wr => ∃ k n : Nat, k ≤ l.length ∧ i = .int .i64 k ∧ Hid (l.take k = m.take k) ∧ wr = w.drewN n) (fun i _ => l.length - (intOf i).toNat)
    case atStart => exact ⟨0, 0, Nat.zero_le _, rfl, (show _ = _ by simp), rfl⟩
    case round =>
      obtain ⟨k, n, hk, rfl, ht, rfl⟩ := hrel
      by_cases hlt : k < l.length
      · have hlt2 : k < m.length := by omega
        obtain ⟨b, off, rfl, hb, hc⟩ := HL.out.at_ hlt
        obtain ⟨b', off', rfl, hb', hc'⟩ := HL'.out.at_ hlt2
        by_cases he : l[k] = m[k]
        · have d1 : (l[k] != m[k]) = false := by simp [he]
          have H2 := Lib.hid (take_eq_succ hlt hlt2 ht.out he)
          clear he
          go_wp2
          go_quiet (fail)
          go_wp2
          go_roundw
          case rel => exact ⟨k + 1, _, by omega, by go_num, H2, rfl⟩
          case measure => first | (simp [intOf]; done) | (simp [intOf]; omega)
        · have d1 : (l[k] != m[k]) = true := by simp [he]
          have HE : Hid (¬ l[k] = m[k]) := he
          clear he
          go_wp2
          go_quiet (fail)
          go_wp2
          go_ret
          refine ⟨ret_bool (Eq.symm (decide_eq_false fun e => HE.out (by subst e; rfl))), _, by first | rfl | exact World.drewN_drewN _ _ _⟩
      · obtain rfl : k = l.length := by omega
        have ht2 := ht.out
        rw [List.take_of_length_le (Nat.le_refl _), HN.out, List.take_of_length_le (Nat.le_refl _)] at ht2
        have HT := Lib.hid ht2; clear ht2
        go_wp2
        go_ret
        exact ⟨ret_bool (Eq.symm (decide_eq_true HT.out)), _, rfl⟩
  · have d0 : ((l.length : Int) != (m.length : Int)) = true := by simp; omega
    have HN : Hid (¬ l.length = m.length) := hne
    clear hne
    go_enter Try.func38, Try.ntmps38
    go_wp2
    go_ret
    exact ⟨ret_bool (Eq.symm (decide_eq_false fun e => HN.out (by rw [e]))), 0, rfl⟩

set_option maxRecDepth 100000 in
set_option maxHeartbeats 1000000 in
theorem frame_any (i j : Int) (a b : Bool) (v u : Value) (l m : List Int) (w : World) (h : Sl w w.heap.size (Value.int .u8) v l) (h' : Sl w w.heap.size (Value.int .u8) u m) :
    Calls Try.prog 20 #[.agg #[.int .u32 i, .bool a, v], .agg #[.int .u32 j, .bool b, u]] w fun e w' => e = .returned (.bool (decide (i = j ∧ a = b ∧ l = m))) ∧ Below w.heap.size w w' := by
  obtain ⟨A, cap, rfl, hcap, hmax⟩ := h.form
  obtain ⟨A', cap', rfl, hcap', hmax'⟩ := h'.form
  have HL := Lib.hid h; clear h
  have HL' := Lib.hid h'; clear h'
  by_cases h1 : i = j
  · subst h1
    by_cases h2 : a = b
    · subst h2
      go_enter Try.func20, Try.ntmps20
      go_wp2_with fail
      refine (bytes_any _ _ l m _ _ (HL.out.at_below (by repeat' (first | (with_reducible assumption) | (with_reducible refine Below.setCell ?_ ?_ _) | (with_reducible refine Below.alloc ?_ ?_ _) | (with_reducible refine Below.drew ?_) | (with_reducible refine below_drewN ?_ _) | (with_reducible exact Below.refl _ _) | (show _ ≤ _; (try simp); (try omega); done) | exact Below.refl _ _ | assumption))) (HL'.out.at_below (by repeat' (first | (with_reducible assumption) | (with_reducible refine Below.setCell ?_ ?_ _) | (with_reducible refine Below.alloc ?_ ?_ _) | (with_reducible refine Below.drew ?_) | (with_reducible refine below_drewN ?_ _) | (with_reducible exact Below.refl _ _) | (show _ ≤ _; (try simp); (try omega); done) | exact Below.refl _ _ | assumption)))).mono ?_
      rintro e w1 ⟨rfl, n, rfl⟩
      go_wp2
      go_ret
      exact ⟨ret_bool (by simp), (by repeat' (first | (with_reducible assumption) | (with_reducible refine Below.setCell ?_ ?_ _) | (with_reducible refine Below.alloc ?_ ?_ _) | (with_reducible refine Below.drew ?_) | (with_reducible refine below_drewN ?_ _) | (with_reducible exact Below.refl _ _) | (show _ ≤ _; (try simp); (try omega); done) | exact Below.refl _ _ | assumption))⟩
    · have d1 : (a == b) = false := by simp [h2]
      have HE : Hid (¬ a = b) := h2
      clear h2
      go_enter Try.func20, Try.ntmps20
      go_wp2
      go_ret
      exact ⟨ret_bool (Eq.symm (decide_eq_false fun e => HE.out e.2.1)), (by repeat' (first | (with_reducible assumption) | (with_reducible refine Below.setCell ?_ ?_ _) | (with_reducible refine Below.alloc ?_ ?_ _) | (with_reducible refine Below.drew ?_) | (with_reducible refine below_drewN ?_ _) | (with_reducible exact Below.refl _ _) | (show _ ≤ _; (try simp); (try omega); done) | exact Below.refl _ _ | assumption))⟩
  · have d1 : (i == j) = false := by simp [h1]
    have HE : Hid (¬ i = j) := h1
    clear h1
    go_enter Try.func20, Try.ntmps20
    go_wp2
    go_ret
    exact ⟨ret_bool (Eq.symm (decide_eq_false fun e => HE.out e.1)), (by repeat' (first | (with_reducible assumption) | (with_reducible refine Below.setCell ?_ ?_ _) | (with_reducible refine Below.alloc ?_ ?_ _) | (with_reducible refine Below.drew ?_) | (with_reducible refine below_drewN ?_ _) | (with_reducible exact Below.refl _ _) | (show _ ≤ _; (try simp); (try omega); done) | exact Below.refl _ _ | assumption))⟩
end sameW
end Go.Proofs.Ytomkgnlooheibaa
