/- busbarref0.SameBytes of two rows. No condition. -/
import Derived.Test.YtbopooanmpcepaaGreatDoorCodeE
import Derived.Deep.QuietTactic
import Derived.BigQuiet
namespace Go.Proofs.YtbopooanmpcepaaGreatDoor
open Go.RowKit Go.Bus Go.Bus.cellK Go.Bus.codeK
set_option linter.unusedVariables false
set_option linter.unusedSimpArgs false
namespace codeW
theorem bytes_ne (x y : Int) : (x != y) = !decide (x = y) := by
  by_cases h : x = y <;> simp [h]
set_option maxRecDepth 100000 in
set_option maxHeartbeats 1000000 in
theorem samebytes_any {v u : Value} {l m : List Int} (w : World) (h : Sl w w.heap.size byteV v l) (h' : Sl w w.heap.size byteV u m) :
    Calls Tryz.prog 28 #[v, u] w fun e w' => e = .returned (.bool (decide (l = m))) ∧ Below w.heap.size w w' := by
  obtain ⟨A, cap, rfl, n1, n2⟩ := h.form
  obtain ⟨A', cap', rfl, m1, m2⟩ := h'.form
  have HA := Lib.hid h
  have HB := Lib.hid h'
  clear h h'
  unfold maxLen at n2 m2
  by_cases hlen : l.length = m.length
  · obtain ⟨N, hN⟩ : ∃ N, N = l.length := ⟨_, rfl⟩
    have hM : m.length = N := by omega
    have HL := Lib.hid (show l.length = N by omega)
    have HM := Lib.hid hM
    rw [← hN] at n1
    rw [hM] at m1 ⊢
    rw [← hN]
    clear hM hN hlen
    go_enter Tryz.func28, Tryz.ntmps28
    go_wp2
    go_loopw [5] (fun i wr => ∃ k : Nat, k ≤ N ∧ i = .int .i64 (k : Nat) ∧ Hid (l.take k = m.take k) ∧ ∃ q, wr = w.drewN q) (fun i _ => N - (intOf i).toNat)
    case atStart => exact ⟨0, Nat.zero_le _, rfl, Lib.hid (by simp), 0, rfl⟩
    case round =>
      obtain ⟨k, hk, rfl, HE, q, rfl⟩ := hrel
      by_cases hlt : k < N
      · have hl1 : k < l.length := by have := HL.out; omega
        have hm1 : k < m.length := by have := HM.out; omega
        obtain ⟨b, off, rfl, hb, hc⟩ := HA.out.at_ hl1
        obtain ⟨b', off', rfl, hb', hc'⟩ := HB.out.at_ hm1
        obtain ⟨x, hx⟩ : ∃ x, x = l[k] := ⟨_, rfl⟩
        obtain ⟨y, hy⟩ : ∃ y, y = m[k] := ⟨_, rfl⟩
        rw [← hx] at hc
        rw [← hy] at hc'
        unfold byteV at hc hc'
        have HX := Lib.hid hx
        have HY := Lib.hid hy
        clear hx hy
        by_cases hxy : x = y
        · subst hxy
          have HE2 : Hid (l.take (k + 1) = m.take (k + 1)) := Lib.hid (by
            have h1 := HL.out; have h2 := HM.out
            rw [List.take_succ_eq_append_getElem (by omega), List.take_succ_eq_append_getElem (by omega), HE.out, ← HX.out, ← HY.out])
          go_wp2
          go_quiet (fail)
          go_wp2
          go_roundw
          case rel => exact ⟨k + 1, by omega, by go_num, HE2, _, rfl⟩
          case measure => simp [intOf]; omega
        · have hne : (x != y) = true := by simpa using hxy
          have HNO : Hid (decide (l = m) = false) := Lib.hid (by
            rw [decide_eq_false_iff_not]; intro e
            have h1 := HX.out; have h2 := HY.out
            subst e
            exact hxy (h1.trans h2.symm))
          clear hxy
          go_wp2
          go_quiet (fail)
          go_wp2
          go_ret
          exact ⟨by rw [HNO.out]; rfl, Go.Bus.below_drewN (Go.Bus.below_drewN (Below.refl _ _) _) _⟩
      · obtain rfl : k = N := by omega
        have HYES : Hid (decide (l = m) = true) := Lib.hid (by
          rw [decide_eq_true_iff]
          have h1 := HE.out
          rw [List.take_of_length_le (by have := HL.out; omega), List.take_of_length_le (by have := HM.out; omega)] at h1
          exact h1)
        go_wp2
        go_ret
        exact ⟨by rw [HYES.out]; rfl, Go.Bus.below_drewN (Below.refl _ _) _⟩
  · have hne : ((l.length : Int) != (m.length : Int)) = true := by simp; omega
    have hne' : (l.length != m.length) = true := by simp; omega
    have HNO : Hid (decide (l = m) = false) := Lib.hid (by rw [decide_eq_false_iff_not]; intro e; subst e; exact hlen rfl)
    clear hlen
    go_enter Tryz.func28, Tryz.ntmps28
    go_wp2
    go_ret
    exact ⟨by rw [HNO.out]; rfl, Below.refl _ _⟩
end codeW
end Go.Proofs.YtbopooanmpcepaaGreatDoor
