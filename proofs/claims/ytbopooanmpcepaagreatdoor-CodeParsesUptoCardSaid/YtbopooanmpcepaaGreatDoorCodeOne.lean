/- The reader of an instruction: fault, one. No condition. -/
import Derived.Test.YtbopooanmpcepaaGreatDoorCodeE
import Derived.Deep.QuietTactic
import Derived.BigQuiet
import Derived.Laws.EntriesVeiled
import Derived.Outline
namespace Go.Proofs.YtbopooanmpcepaaGreatDoor
open Go.RowKit Go.Bus Go.Bus.cellK Go.Bus.codeK
set_option linter.unusedVariables false
set_option linter.unusedSimpArgs false
namespace codeW
set_option maxRecDepth 100000 in
set_option maxHeartbeats 1000000 in
theorem fault_any (no k : Int) (w : World) : Calls Tryz.prog 27 #[.int .i64 no, .int .i64 k] w fun e w' => e = .returned (faultV no k) ∧ w = w' := by
  go_enter Tryz.func27, Tryz.ntmps27
  go_wp2
  go_ret
  exact ⟨rfl, rfl⟩
theorem RdH.at_ {w : World} {g p q : Nat} {v ev : Value} {x : Ins} (h : RdH w g v p x ev) (c : Int) (hq : c = q) : RdH (w.setCell ⟨g, 1, none⟩ (.int .i64 c)) g v q x ev := by
  subst hq; exact Has.set h 1 _
theorem RdH.err {w : World} {g p : Nat} {v ev : Value} {x : Ins} (h : RdH w g v p x ev) (u : Value) : RdH (w.setCell ⟨g, 7, none⟩ u) g v p x u := Has.set h 7 _
theorem RdH.drewN {w : World} {g p : Nat} {v ev : Value} {x : Ins} (h : RdH w g v p x ev) (n : Nat) : RdH (w.drewN n) g v p x ev := h
set_option maxRecDepth 100000 in
set_option maxHeartbeats 1000000 in
theorem one_hit {g p : Nat} {v ev : Value} {bs : List Int} {x : Ins} {w : World} {c : Int} (hR : RdH w g v p x ev) (hs : Sl w g byteV v bs) (hc : bs[p]? = some c) (hb : Byte c) :
    Calls Tryz.prog 59 #[ptr g] w fun e w' => e = .returned (.int .i64 c) ∧ RdH w' g v (p + 1) x ev ∧ Only g w w' := by
  obtain ⟨A, cap, rfl, n1, n2⟩ := hs.form
  obtain ⟨hpl, hcv⟩ := List.getElem?_eq_some_iff.1 hc
  obtain ⟨b, off, rfl, hbg, hcell⟩ := hs.at_ hpl
  rw [hcv] at hcell
  unfold byteV at hcell
  obtain ⟨hb0, hb1⟩ := hb
  have e0 : w.cell? ⟨g, 0, none⟩ = some (.slice (some ⟨b, off, none⟩) bs.length cap) := Has.cell hR 0
  have e1 : w.cell? ⟨g, 1, none⟩ = some (.int .i64 p) := Has.cell hR 1
  have ef : w.frozen? ⟨g, 1, none⟩ = false := Has.frozen hR 1
  have zg : g < w.heap.size := Has.lt hR
  have hne : ¬ b = g := by omega
  have zb : b < w.heap.size := by omega
  have HR := Lib.hid hR
  unfold maxLen at n2
  clear hR hs hc hcv
  have d1 : decide (bs.length ≤ p) = false := by simp; omega
  go_enter Tryz.func59, Tryz.ntmps59
  go_wp2
  go_quiet (fail)
  go_wp2
  go_quiet (fail)
  go_wp2
  go_ret
  refine ⟨rfl, ?_, ?_⟩
  · first | exact ((HR.out.drewN _).at_ _ (by omega)).drewN _ | exact (HR.out.at_ _ (by omega))
  · exact ((((Only.refl (Nat.le_of_lt zg)).drewN _).set 1 _).drewN _)
set_option maxRecDepth 100000 in
set_option maxHeartbeats 1000000 in
theorem one_end {g p : Nat} {v ev : Value} {bs : List Int} {x : Ins} {w : World} (hR : RdH w g v p x ev) (hs : Sl w g byteV v bs) (hl : bs.length ≤ p) (hp : p ≤ 9223372036854775807) :
    Calls Tryz.prog 59 #[ptr g] w fun e w' => e = .returned (.int .i64 0) ∧ RdH w' g v p x (faultV 2 bs.length) ∧ Only g w w' := by
  obtain ⟨A, cap, rfl, n1, n2⟩ := hs.form
  have e0 : w.cell? ⟨g, 0, none⟩ = some (.slice A bs.length cap) := Has.cell hR 0
  have e1 : w.cell? ⟨g, 1, none⟩ = some (.int .i64 p) := Has.cell hR 1
  have e7 : w.cell? ⟨g, 7, none⟩ = some ev := Has.cell hR 7
  have ef : w.frozen? ⟨g, 7, none⟩ = false := Has.frozen hR 7
  have zg : g < w.heap.size := Has.lt hR
  have HR := Lib.hid hR
  unfold maxLen at n2
  clear hR hs
  have d1 : decide (bs.length ≤ p) = true := by simpa using hl
  clear hl
  go_enter Tryz.func59, Tryz.ntmps59
  go_wp2
  go_quiet (fail)
  go_wp2_with (go_at_call 27; refine (fault_any _ _ _).mono ?_; unfold faultV; rintro e w2 ⟨rfl, rfl⟩)
  go_ret
  refine ⟨rfl, ?_, ?_⟩
  · first | exact (HR.out.drewN _).err _ | exact HR.out.err _
  · exact ((((Only.refl (Nat.le_of_lt zg)).drewN _).set 7 _))
end codeW
end Go.Proofs.YtbopooanmpcepaaGreatDoor
