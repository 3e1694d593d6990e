/- Texts of this claim, one behind the other. No condition but those that each states. -/
import Derived.Test.YtbbfpbmogklomaaGreatDoorZCodeE
import Derived.Deep.QuietTactic
import Derived.BigQuiet
import Derived.Laws.EntriesVeiled
import Derived.Outline
import Derived.Test.YtbbfpbmogklomaaGreatDoorZK0

namespace Go.Proofs.YtbbfpbmogklomaaGreatDoor
open Go.RowKit Go.Bus Go.Bus.cellK Go.Bus.codeK
set_option linter.unusedVariables false
set_option linter.unusedSimpArgs false
namespace codeW
theorem bytes_ne (x y : Int) : (x != y) = !decide (x = y) := by
  by_cases h : x = y <;> simp [h]
set_option maxRecDepth 100000 in
set_option maxHeartbeats 1000000 in
theorem samebytes_any {v u : Value} {l m : List Int} (w : World) (h : Sl w w.heap.size byteV v l) (h' : Sl w w.heap.size byteV u m) :
    Calls Tryz.prog 12 #[v, u] w fun e w' => e = .returned (.bool (decide (l = m))) ∧ Below w.heap.size w w' := by
  obtain ⟨A, cap, rfl, n1, n2⟩ := h.form
  obtain ⟨A', cap', rfl, m1, m2⟩ := h'.form
  have HA := Lib.hid h
  have HB := Lib.hid h'
  clear h h'
  unfold maxLen at n2 m2
  by_cases hlen : l.length = m.length
  · obtain ⟨N, hN⟩ : ∃ N, N = l.length := ⟨_, rfl⟩
    have hM : m.length = N := by omega
    have HL := Lib.hid (show l.length = N by omega)
    have HM := Lib.hid hM
    rw [← hN] at n1
    rw [hM] at m1 ⊢
    rw [← hN]
    clear hM hN hlen
    go_enter Tryz.func12, Tryz.ntmps12
    go_wp2
    go_loopw [5] (fun i wr => ∃ k : Nat, k ≤ N ∧ i = .int .i64 (k : Nat) ∧ Hid (l.take k = m.take k) ∧ ∃ q, wr = w.drewN q) (fun i _ => N - (intOf i).toNat)
    case atStart => exact ⟨0, Nat.zero_le _, rfl, Lib.hid (by simp), 0, rfl⟩
    case round =>
      obtain ⟨k, hk, rfl, HE, q, rfl⟩ := hrel
      by_cases hlt : k < N
      · have hl1 : k < l.length := by have := HL.out; omega
        have hm1 : k < m.length := by have := HM.out; omega
        obtain ⟨b, off, rfl, hb, hc⟩ := HA.out.at_ hl1
        obtain ⟨b', off', rfl, hb', hc'⟩ := HB.out.at_ hm1
        obtain ⟨x, hx⟩ : ∃ x, x = l[k] := ⟨_, rfl⟩
        obtain ⟨y, hy⟩ : ∃ y, y = m[k] := ⟨_, rfl⟩
        rw [← hx] at hc
        rw [← hy] at hc'
        unfold byteV at hc hc'
        have HX := Lib.hid hx
        have HY := Lib.hid hy
        clear hx hy
        by_cases hxy : x = y
        · subst hxy
          have HE2 : Hid (l.take (k + 1) = m.take (k + 1)) := Lib.hid (by
            have h1 := HL.out; have h2 := HM.out
            rw [List.take_succ_eq_append_getElem (by omega), List.take_succ_eq_append_getElem (by omega), HE.out, ← HX.out, ← HY.out])
          go_wp2
          go_quiet (fail)
          go_wp2
          go_roundw
          case rel => exact ⟨k + 1, by omega, by go_num, HE2, _, rfl⟩
          case measure => simp [intOf]; omega
        · have hne : (x != y) = true := by simpa using hxy
          have HNO : Hid (decide (l = m) = false) := Lib.hid (by
            rw [decide_eq_false_iff_not]; intro e
            have h1 := HX.out; have h2 := HY.out
            subst e
            exact hxy (h1.trans h2.symm))
          clear hxy
          go_wp2
          go_quiet (fail)
          go_wp2
          go_ret
          exact ⟨by rw [HNO.out]; rfl, Go.Bus.below_drewN (Go.Bus.below_drewN (Below.refl _ _) _) _⟩
      · obtain rfl : k = N := by omega
        have HYES : Hid (decide (l = m) = true) := Lib.hid (by
          rw [decide_eq_true_iff]
          have h1 := HE.out
          rw [List.take_of_length_le (by have := HL.out; omega), List.take_of_length_le (by have := HM.out; omega)] at h1
          exact h1)
        go_wp2
        go_ret
        exact ⟨by rw [HYES.out]; rfl, Go.Bus.below_drewN (Below.refl _ _) _⟩
  · have hne : ((l.length : Int) != (m.length : Int)) = true := by simp; omega
    have hne' : (l.length != m.length) = true := by simp; omega
    have HNO : Hid (decide (l = m) = false) := Lib.hid (by rw [decide_eq_false_iff_not]; intro e; subst e; exact hlen rfl)
    clear hlen
    go_enter Tryz.func12, Tryz.ntmps12
    go_wp2
    go_ret
    exact ⟨by rw [HNO.out]; rfl, Below.refl _ _⟩
end codeW
end Go.Proofs.YtbbfpbmogklomaaGreatDoor

namespace Go.Proofs.YtbbfpbmogklomaaGreatDoor
open Go.RowKit Go.Bus Go.Bus.cellK Go.Bus.codeK
set_option linter.unusedVariables false
set_option linter.unusedSimpArgs false
namespace codeW
set_option maxRecDepth 100000 in
set_option maxHeartbeats 1000000 in
theorem fault_any (no k : Int) (w : World) : Calls Tryz.prog 29 #[.int .i64 no, .int .i64 k] w fun e w' => e = .returned (faultV no k) ∧ w = w' := by
  go_enter Tryz.func29, Tryz.ntmps29
  go_wp2
  go_ret
  exact ⟨rfl, rfl⟩
theorem RdH.at_ {w : World} {g p q : Nat} {v ev : Value} {x : Ins} (h : RdH w g v p x ev) (c : Int) (hq : c = q) : RdH (w.setCell ⟨g, 1, none⟩ (.int .i64 c)) g v q x ev := by
  subst hq; exact Has.set h 1 _
theorem RdH.err {w : World} {g p : Nat} {v ev : Value} {x : Ins} (h : RdH w g v p x ev) (u : Value) : RdH (w.setCell ⟨g, 7, none⟩ u) g v p x u := Has.set h 7 _
theorem RdH.drewN {w : World} {g p : Nat} {v ev : Value} {x : Ins} (h : RdH w g v p x ev) (n : Nat) : RdH (w.drewN n) g v p x ev := h
set_option maxRecDepth 100000 in
set_option maxHeartbeats 1000000 in
theorem one_hit {g p : Nat} {v ev : Value} {bs : List Int} {x : Ins} {w : World} {c : Int} (hR : RdH w g v p x ev) (hs : Sl w g byteV v bs) (hc : bs[p]? = some c) (hb : Byte c) :
    Calls Tryz.prog 86 #[ptr g] w fun e w' => e = .returned (.int .i64 c) ∧ RdH w' g v (p + 1) x ev ∧ Only g w w' := by
  obtain ⟨A, cap, rfl, n1, n2⟩ := hs.form
  obtain ⟨hpl, hcv⟩ := List.getElem?_eq_some_iff.1 hc
  obtain ⟨b, off, rfl, hbg, hcell⟩ := hs.at_ hpl
  rw [hcv] at hcell
  unfold byteV at hcell
  obtain ⟨hb0, hb1⟩ := hb
  have e0 : w.cell? ⟨g, 0, none⟩ = some (.slice (some ⟨b, off, none⟩) bs.length cap) := Has.cell hR 0
  have e1 : w.cell? ⟨g, 1, none⟩ = some (.int .i64 p) := Has.cell hR 1
  have ef : w.frozen? ⟨g, 1, none⟩ = false := Has.frozen hR 1
  have zg : g < w.heap.size := Has.lt hR
  have hne : ¬ b = g := by omega
  have zb : b < w.heap.size := by omega
  have HR := Lib.hid hR
  unfold maxLen at n2
  clear hR hs hc hcv
  have d1 : decide (bs.length ≤ p) = false := by simp; omega
  go_enter Tryz.func86, Tryz.ntmps86
  go_wp2
  go_quiet (fail)
  go_wp2
  go_quiet (fail)
  go_wp2
  go_ret
  refine ⟨rfl, ?_, ?_⟩
  · first | exact ((HR.out.drewN _).at_ _ (by omega)).drewN _ | exact (HR.out.at_ _ (by omega))
  · exact ((((Only.refl (Nat.le_of_lt zg)).drewN _).set 1 _).drewN _)
set_option maxRecDepth 100000 in
set_option maxHeartbeats 1000000 in
theorem one_end {g p : Nat} {v ev : Value} {bs : List Int} {x : Ins} {w : World} (hR : RdH w g v p x ev) (hs : Sl w g byteV v bs) (hl : bs.length ≤ p) (hp : p ≤ 9223372036854775807) :
    Calls Tryz.prog 86 #[ptr g] w fun e w' => e = .returned (.int .i64 0) ∧ RdH w' g v p x (faultV 2 bs.length) ∧ Only g w w' := by
  obtain ⟨A, cap, rfl, n1, n2⟩ := hs.form
  have e0 : w.cell? ⟨g, 0, none⟩ = some (.slice A bs.length cap) := Has.cell hR 0
  have e1 : w.cell? ⟨g, 1, none⟩ = some (.int .i64 p) := Has.cell hR 1
  have e7 : w.cell? ⟨g, 7, none⟩ = some ev := Has.cell hR 7
  have ef : w.frozen? ⟨g, 7, none⟩ = false := Has.frozen hR 7
  have zg : g < w.heap.size := Has.lt hR
  have HR := Lib.hid hR
  unfold maxLen at n2
  clear hR hs
  have d1 : decide (bs.length ≤ p) = true := by simpa using hl
  clear hl
  go_enter Tryz.func86, Tryz.ntmps86
  go_wp2
  go_quiet (fail)
  go_wp2_with (go_at_call 29; refine (fault_any _ _ _).mono ?_; unfold faultV; rintro e w2 ⟨rfl, rfl⟩)
  go_ret
  refine ⟨rfl, ?_, ?_⟩
  · first | exact (HR.out.drewN _).err _ | exact HR.out.err _
  · exact ((((Only.refl (Nat.le_of_lt zg)).drewN _).set 7 _))
end codeW
end Go.Proofs.YtbbfpbmogklomaaGreatDoor

namespace Go.Proofs.YtbbfpbmogklomaaGreatDoor
open Go.RowKit Go.Bus Go.Bus.cellK Go.Bus.codeK
set_option linter.unusedVariables false
set_option linter.unusedSimpArgs false
namespace codeW
theorem Tryz.infoIm : (Tryz.prog.info? 25).map (fun i => (i.zero, i.size, i.bytes)) = some (some (.agg #[.int .i64 0, .int .i64 0, .int .i64 0, .int .i64 0, .int .u64 0]), 5, 40) := by kernel_rfl
/-- The mark of place i in the list k. -/
def markK (k i : Int) : Ins := ⟨-7 - k, 0, 0, 0, IntKind.u64.wrap i⟩
set_option maxRecDepth 100000 in
set_option maxHeartbeats 1000000 in
theorem markk_any (k i : Int) (w : World) (hk : 0 ≤ k) (hk' : k ≤ 1000000) (h1 : -4611686018427387904 ≤ i) (h2 : i ≤ 4611686018427387904) :
    Calls Tryz.prog 74 #[.int .i64 k, .int .i64 i] w fun e w' => e = .returned (.agg #[.int .i64 (-7 - k), .int .i64 0, .int .i64 0, .int .i64 0, .int .u64 (IntKind.u64.wrap i)]) ∧ Below w.heap.size w w' := by
  go_enter Tryz.func74, Tryz.ntmps74
  go_wp2
  refine bodyPost_ret (results_block (g := w.heap.size) (T := 25) rfl rfl (by exact Has.new w _ _) rfl Tryz.underlying25 rfl (by kernel_rfl)) rfl ?_
  exact ⟨rfl, (by repeat' (first | (with_reducible assumption) | (with_reducible refine Below.setCell ?_ ?_ _) | (with_reducible refine Below.alloc ?_ ?_ _) | (with_reducible refine Below.drew ?_) | (with_reducible refine below_drewN ?_ _) | (with_reducible exact Below.refl _ _) | (show _ ≤ _; (try simp); (try omega); done) | exact Below.refl _ _ | assumption))⟩
def markI (i : Int) : Ins := ⟨-97, 0, 0, 0, IntKind.u64.wrap i⟩
theorem marki_any (i : Int) (w : World) (h1 : -4611686018427387904 ≤ i) (h2 : i ≤ 4611686018427387904) :
    Calls Tryz.prog 74 #[.int .i64 90, .int .i64 i] w fun e w' => e = .returned (.agg #[.int .i64 (-97), .int .i64 0, .int .i64 0, .int .i64 0, .int .u64 (IntKind.u64.wrap i)]) ∧ Below w.heap.size w w' :=
  markk_any 90 i w (by decide) (by decide) h1 h2
end codeW
end Go.Proofs.YtbbfpbmogklomaaGreatDoor
