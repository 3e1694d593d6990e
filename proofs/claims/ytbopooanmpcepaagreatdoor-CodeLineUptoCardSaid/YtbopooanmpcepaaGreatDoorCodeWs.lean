/- works: a move has three bytes. No condition. -/
import Derived.Test.YtbopooanmpcepaaGreatDoorCodeEw
import Derived.Test.YtbopooanmpcepaaGreatDoorCodeBy
namespace Go.Proofs.YtbopooanmpcepaaGreatDoor
open Go.RowKit Go.Bus Go.Bus.cellK Go.Bus.codeK
set_option linter.unusedVariables false
set_option linter.unusedSimpArgs false
namespace codeW
theorem EncPost.yes {p : List Ins} {w : World} {e : Ending} {w' : World} (h : EncPost p w e w') (hb : firstBad p = none) : ∃ u, e = .returned (.tuple #[u, .nilIface]) ∧ w'.ownsRow w.heap.size 5 1 u (encP p).length ((encP p).map byteV) ∧ Below w.heap.size w w' := by
  unfold EncPost at h; rw [hb] at h; exact h
def mv3 : Ins := ⟨2, 1, 15, 0, 0⟩
theorem mv3_right : rightB mv3 = true := by decide
theorem mv3_enc : encP [mv3] = [2, 1, 15] := by decide
theorem mv3_ok : mv3.Ok := ⟨by decide, by decide, by decide, by decide, by decide⟩
set_option maxRecDepth 100000 in
set_option maxHeartbeats 1000000 in
theorem works_any (w : World) : Calls Tryz.prog 13 #[] w fun e w' => e = .returned (.bool true) ∧ Below w.heap.size w w' := by
  have hS : SlK 5 insE (w.alloc (.cells #[.int .i64 2, .int .i64 1, .int .i64 15, .int .i64 0, .int .u64 0] 24)) (Old (w.alloc (.cells #[.int .i64 2, .int .i64 1, .int .i64 15, .int .i64 0, .int .u64 0] 24)).heap.size) (.slice (some ⟨w.heap.size, 0, none⟩) 1 1) [mv3] :=
    SlK.whole (l := [mv3]) (cs := insC mv3) (Has.new w _ _) rfl (by simp) (by simp [maxLen]) fun i x hi => by
      match i, hi with
      | 0, hi => cases hi; rfl
      | n + 1, hi => simp at hi
  have HE := Lib.hid (encode_any _ hS (fun x hx => by simp at hx; subst hx; exact mv3_ok) (by simp))
  clear hS
  go_enter Tryz.func13, Tryz.ntmps13
  go_wp2_with (first
    | (go_at_call 12; refine HE.out.mono ?_; intro e w1 h; obtain ⟨u, rfl, ho, hB⟩ := h.yes (bad_none (fun x hx => by simp at hx; subst hx; exact mv3_right)); rw [mv3_enc] at ho; have HO := Lib.hid ho; have HB : Hid (Below w.heap.size w w1) := Lib.hid (Below.trans (by repeat' (first | (with_reducible assumption) | (with_reducible refine Below.setCell ?_ ?_ _) | (with_reducible refine Below.alloc ?_ ?_ _) | (with_reducible refine Below.drew ?_) | (with_reducible refine below_drewN ?_ _) | (with_reducible exact Below.refl _ _) | (show _ ≤ _; (try simp); (try omega); done) | exact Below.refl _ _ | assumption)) (hB.mono (by (try simp); (try omega)))); clear h ho hB)
    | (go_at_call 28; refine (samebytes_any (l := [2, 1, 15]) (m := [2, 1, 15]) _ (by exact (Sl.of_own HO.out).alloc (Nat.le_refl _) _ |>.more (by simp)) (by exact Sl.of_own (f := byteV) (l := [2, 1, 15]) (own_of_has (base := 0) (size := 1) (n := 3) (Has.new w1 _ _) rfl (Nat.zero_le _) (by simp [maxLen])))).mono ?_; rintro e w3 ⟨rfl, hB3⟩; have HB3 := Lib.hid hB3; clear hB3))
  go_ret
  exact ⟨rfl, HB.out.trans ((((Below.refl _ _).alloc (Nat.le_refl _) _).trans (HB3.out.mono (by simp))).mono HB.out.size)⟩
end codeW
end Go.Proofs.YtbopooanmpcepaaGreatDoor
