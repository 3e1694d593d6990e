/- The makers of an instruction's fields: small, skip, bytes, number, sign; where a number stands. No condition. -/
import Derived.Test.YtbbfpbmogklomaaGreatDoorZCodeE
import Derived.Laws.EntriesVeiled
namespace Go.Proofs.YtbbfpbmogklomaaGreatDoor
open Go.RowKit Go.Bus Go.Bus.cellK Go.Bus.codeK
set_option linter.unusedVariables false
set_option linter.unusedSimpArgs false
namespace codeW
/-- A field was made. -/
def Makes (x : Fk) (w : World) (e : Ending) (w' : World) : Prop :=
  ∃ c0 c1 c2 c3 c4, e = .returned (.agg #[c0, c1, c2, c3, c4]) ∧ FieldE w' (Iv w.heap.size w'.heap.size) [c0, c1, c2, c3, c4] x ∧ Below w.heap.size w w'
set_option maxRecDepth 100000 in
set_option maxHeartbeats 1000000 in
theorem fieldA_any (b o : Nat) (w : World) : Calls Tryz.prog 47 #[.pointer (some ⟨b, o, none⟩)] w fun e w' => e = .returned (.pointer (some ⟨b, o + 1, none⟩)) ∧ w = w' := by
  go_enter Tryz.func47, Tryz.ntmps47
  go_wp2
  go_ret
  exact ⟨rfl, rfl⟩
set_option maxRecDepth 100000 in
set_option maxHeartbeats 1000000 in
theorem fieldB_any (b o : Nat) (w : World) : Calls Tryz.prog 48 #[.pointer (some ⟨b, o, none⟩)] w fun e w' => e = .returned (.pointer (some ⟨b, o + 2, none⟩)) ∧ w = w' := by
  go_enter Tryz.func48, Tryz.ntmps48
  go_wp2
  go_ret
  exact ⟨rfl, rfl⟩
set_option maxRecDepth 100000 in
set_option maxHeartbeats 1000000 in
theorem fieldN_any (b o : Nat) (w : World) : Calls Tryz.prog 101 #[.pointer (some ⟨b, o, none⟩)] w fun e w' => e = .returned (.pointer (some ⟨b, o + 3, none⟩)) ∧ w = w' := by
  go_enter Tryz.func101, Tryz.ntmps101
  go_wp2
  go_ret
  exact ⟨rfl, rfl⟩
set_option maxRecDepth 100000 in
set_option maxHeartbeats 1000000 in
theorem small_any (h : Wh) (lo hi : Int) (s : ByteArray) (w : World) :
    Calls Tryz.prog 46 #[.func (.func (whF h)) #[] #[], .int .i64 lo, .int .i64 hi, .string s] w (Makes (.small h lo hi s) w) := by
  have hm := hmf
  go_enter Tryz.func46, Tryz.ntmps46
  go_wp2
  refine bodyPost_ret (v := .agg #[clos 83 #[ptr w.heap.size, ptr (w.heap.size + 1), ptr (w.heap.size + 1 + 1)], clos 84 #[ptr w.heap.size], clos 85 #[ptr w.heap.size], clos 87 #[ptr (w.heap.size + 1 + 1 + 1), ptr w.heap.size], clos 89 #[ptr (w.heap.size + 1 + 1 + 1), ptr w.heap.size]])
    (by simp [results, Tryz.results46, go_sem]) rfl ⟨_, _, _, _, _, rfl, ⟨w.heap.size, w.heap.size + 1, w.heap.size + 1 + 1, w.heap.size + 1 + 1 + 1, rfl, ?_⟩, (by repeat' (first | (with_reducible assumption) | (with_reducible refine Below.setCell ?_ ?_ _) | (with_reducible refine Below.alloc ?_ ?_ _) | (with_reducible refine Below.drew ?_) | (with_reducible refine below_drewN ?_ _) | (with_reducible exact Below.refl _ _) | (show _ ≤ _; (try simp); (try omega); done) | exact Below.refl _ _ | assumption))⟩
  intro h' lo' hi' s' e
  cases e
  exact ⟨⟨by omega, by simp; omega⟩, ⟨by omega, by simp⟩, ⟨by omega, by simp⟩, ⟨by omega, by simp⟩,
    ((((Has.new w _ _).alloc _).alloc _).alloc _).alloc _, (((has_new _ _ _ _ (by simp)).alloc _).alloc _).alloc _, ((has_new _ _ _ _ (by simp)).alloc _).alloc _, (has_new _ _ _ _ (by simp)).alloc _⟩
set_option maxRecDepth 100000 in
set_option maxHeartbeats 1000000 in
theorem number_any (w : World) : Calls Tryz.prog 49 #[] w (Makes .number w) := by
  go_enter Tryz.func49, Tryz.ntmps49
  go_wp2
  exact bodyPost_ret (v := .agg (fieldC .number 0 0 0 0).toArray) (by simp [results, Tryz.results49, go_sem, fieldC, cOk, cWr, cRd, cTx, cPa]) rfl ⟨_, _, _, _, _, rfl, ⟨0, 0, 0, 0, rfl, fun _ _ _ _ e => by cases e⟩, (by repeat' (first | (with_reducible assumption) | (with_reducible refine Below.setCell ?_ ?_ _) | (with_reducible refine Below.alloc ?_ ?_ _) | (with_reducible refine Below.drew ?_) | (with_reducible refine below_drewN ?_ _) | (with_reducible exact Below.refl _ _) | (show _ ≤ _; (try simp); (try omega); done) | exact Below.refl _ _ | assumption))⟩
theorem set5 (W : World) (g : Nat) (v0 v1 v2 v3 v4 : Value) (b : Nat) (h : g ≠ b) : (((((W.setCell ⟨g, 0, none⟩ v0).setCell ⟨g, 1, none⟩ v1).setCell ⟨g, 2, none⟩ v2).setCell ⟨g, 3, none⟩ v3).setCell ⟨g, 4, none⟩ v4).heap[b]? = W.heap[b]? :=
  (heap_setCell_other _ ⟨g, 4, none⟩ _ _ (Ne.symm h)).trans ((heap_setCell_other _ ⟨g, 3, none⟩ _ _ (Ne.symm h)).trans ((heap_setCell_other _ ⟨g, 2, none⟩ _ _ (Ne.symm h)).trans ((heap_setCell_other _ ⟨g, 1, none⟩ _ _ (Ne.symm h)).trans (heap_setCell_other _ ⟨g, 0, none⟩ _ _ (Ne.symm h)))))
set_option maxRecDepth 100000 in
set_option maxHeartbeats 1000000 in
theorem skip_any (w : World) : Calls Tryz.prog 104 #[] w (Makes .skip w) := by
  go_enter Tryz.func104, Tryz.ntmps104
  go_wp2_with fail
  refine (small_any .N 0 16384 eS _).mono ?_
  rintro e w1 ⟨c0, c1, c2, c3, c4, rfl, ⟨b0, b1, b2, b3, hcs, hB⟩, hb⟩
  have HB := Lib.hid hB; clear hB
  simp only [fieldC, cOk, cWr, cRd, cTx, cPa, List.cons.injEq, and_true] at hcs
  obtain ⟨rfl, rfl, rfl, rfl, rfl⟩ := hcs
  have hH : Has w1 w.heap.size 60 #[.nilFunc, .nilFunc, .nilFunc, .nilFunc, .nilFunc] := (Has.new w _ _).below hb (by simp)
  have k0 : w1.cell? ⟨w.heap.size, 0, none⟩ = some .nilFunc := hH.cell 0
  have k1 : w1.cell? ⟨w.heap.size, 1, none⟩ = some .nilFunc := hH.cell 1
  have k2 : w1.cell? ⟨w.heap.size, 2, none⟩ = some .nilFunc := hH.cell 2
  have k3 : w1.cell? ⟨w.heap.size, 3, none⟩ = some .nilFunc := hH.cell 3
  have k4 : w1.cell? ⟨w.heap.size, 4, none⟩ = some .nilFunc := hH.cell 4
  have m0 : w1.frozen? ⟨w.heap.size, 0, none⟩ = false := hH.frozen 0
  have m1 : w1.frozen? ⟨w.heap.size, 1, none⟩ = false := hH.frozen 1
  have m2 : w1.frozen? ⟨w.heap.size, 2, none⟩ = false := hH.frozen 2
  have m3 : w1.frozen? ⟨w.heap.size, 3, none⟩ = false := hH.frozen 3
  have m4 : w1.frozen? ⟨w.heap.size, 4, none⟩ = false := hH.frozen 4
  have hz : w.heap.size < w1.heap.size := hH.lt
  clear hH
  have hB1 : Below w.heap.size w w1 := Below.trans (by repeat' (first | (with_reducible assumption) | (with_reducible refine Below.setCell ?_ ?_ _) | (with_reducible refine Below.alloc ?_ ?_ _) | (with_reducible refine Below.drew ?_) | (with_reducible refine below_drewN ?_ _) | (with_reducible exact Below.refl _ _) | (show _ ≤ _; (try simp); (try omega); done) | exact Below.refl _ _ | assumption)) (hb.mono (by (try simp); (try omega)))
  have HB1 := Lib.hid hB1; clear hB1
  go_wp2
  refine bodyPost_ret (v := .agg (fieldC .skip b0 b1 b2 b3).toArray) (by simp [results, Tryz.results104, go_sem, fieldC, cOk, cWr, cRd, cTx, cPa, k0, k1, k2, k3, k4, hz]) rfl ⟨_, _, _, _, _, rfl, ⟨b0, b1, b2, b3, rfl, ?_⟩, ?_⟩
  · intro h lo hi s e
    cases e
    refine (HB.out _ _ _ _ rfl).keep (fun b hb => ⟨by have := hb.1; simp at this; omega, by have := hb.2; simp; omega⟩) (fun b hb => ?_)
    have h1 := hb.1
    have h2 := hb.2
    simp at h1
    exact (heap_alloc_old _ _ (by simp; exact h2)).trans (set5 _ _ _ _ _ _ _ _ (by omega))
  · have hB1 := HB1.out
    exact (by repeat' (first | (with_reducible assumption) | (with_reducible refine Below.setCell ?_ ?_ _) | (with_reducible refine Below.alloc ?_ ?_ _) | (with_reducible refine Below.drew ?_) | (with_reducible refine below_drewN ?_ _) | (with_reducible exact Below.refl _ _) | (show _ ≤ _; (try simp); (try omega); done) | exact Below.refl _ _ | assumption))
set_option maxRecDepth 100000 in
set_option maxHeartbeats 1000000 in
theorem bytes_any (w : World) : Calls Tryz.prog 102 #[] w (Makes .bytes w) := by
  go_enter Tryz.func102, Tryz.ntmps102
  go_wp2_with fail
  refine (small_any .N 1 8 eS _).mono ?_
  rintro e w1 ⟨c0, c1, c2, c3, c4, rfl, ⟨b0, b1, b2, b3, hcs, hB⟩, hb⟩
  have HB := Lib.hid hB; clear hB
  simp only [fieldC, cOk, cWr, cRd, cTx, cPa, List.cons.injEq, and_true] at hcs
  obtain ⟨rfl, rfl, rfl, rfl, rfl⟩ := hcs
  have hH : Has w1 w.heap.size 60 #[.nilFunc, .nilFunc, .nilFunc, .nilFunc, .nilFunc] := (Has.new w _ _).below hb (by simp)
  have k0 : w1.cell? ⟨w.heap.size, 0, none⟩ = some .nilFunc := hH.cell 0
  have k1 : w1.cell? ⟨w.heap.size, 1, none⟩ = some .nilFunc := hH.cell 1
  have k2 : w1.cell? ⟨w.heap.size, 2, none⟩ = some .nilFunc := hH.cell 2
  have k3 : w1.cell? ⟨w.heap.size, 3, none⟩ = some .nilFunc := hH.cell 3
  have k4 : w1.cell? ⟨w.heap.size, 4, none⟩ = some .nilFunc := hH.cell 4
  have m0 : w1.frozen? ⟨w.heap.size, 0, none⟩ = false := hH.frozen 0
  have m1 : w1.frozen? ⟨w.heap.size, 1, none⟩ = false := hH.frozen 1
  have m2 : w1.frozen? ⟨w.heap.size, 2, none⟩ = false := hH.frozen 2
  have m3 : w1.frozen? ⟨w.heap.size, 3, none⟩ = false := hH.frozen 3
  have m4 : w1.frozen? ⟨w.heap.size, 4, none⟩ = false := hH.frozen 4
  have hz : w.heap.size < w1.heap.size := hH.lt
  clear hH
  have hB1 : Below w.heap.size w w1 := Below.trans (by repeat' (first | (with_reducible assumption) | (with_reducible refine Below.setCell ?_ ?_ _) | (with_reducible refine Below.alloc ?_ ?_ _) | (with_reducible refine Below.drew ?_) | (with_reducible refine below_drewN ?_ _) | (with_reducible exact Below.refl _ _) | (show _ ≤ _; (try simp); (try omega); done) | exact Below.refl _ _ | assumption)) (hb.mono (by (try simp); (try omega)))
  have HB1 := Lib.hid hB1; clear hB1
  go_wp2
  refine bodyPost_ret (v := .agg (fieldC .bytes b0 b1 b2 b3).toArray) (by simp [results, Tryz.results102, go_sem, fieldC, cOk, cWr, cRd, cTx, cPa, k0, k1, k2, k3, k4, hz]) rfl ⟨_, _, _, _, _, rfl, ⟨b0, b1, b2, b3, rfl, ?_⟩, ?_⟩
  · intro h lo hi s e
    cases e
    refine (HB.out _ _ _ _ rfl).keep (fun b hb => ⟨by have := hb.1; simp at this; omega, by have := hb.2; simp; omega⟩) (fun b hb => ?_)
    have h1 := hb.1
    have h2 := hb.2
    simp at h1
    exact (heap_alloc_old _ _ (by simp; exact h2)).trans (set5 _ _ _ _ _ _ _ _ (by omega))
  · have hB1 := HB1.out
    exact (by repeat' (first | (with_reducible assumption) | (with_reducible refine Below.setCell ?_ ?_ _) | (with_reducible refine Below.alloc ?_ ?_ _) | (with_reducible refine Below.drew ?_) | (with_reducible refine below_drewN ?_ _) | (with_reducible exact Below.refl _ _) | (show _ ≤ _; (try simp); (try omega); done) | exact Below.refl _ _ | assumption))
set_option maxRecDepth 100000 in
set_option maxHeartbeats 1000000 in
theorem sign_any (w : World) : Calls Tryz.prog 103 #[] w (Makes .sign w) := by
  go_enter Tryz.func103, Tryz.ntmps103
  go_wp2_with fail
  refine (number_any _).mono ?_
  rintro e w1 ⟨c0, c1, c2, c3, c4, rfl, ⟨b0, b1, b2, b3, hcs, hB⟩, hb⟩
  have HB := Lib.hid hB; clear hB
  simp only [fieldC, cOk, cWr, cRd, cTx, cPa, List.cons.injEq, and_true] at hcs
  obtain ⟨rfl, rfl, rfl, rfl, rfl⟩ := hcs
  have hH : Has w1 w.heap.size 60 #[.nilFunc, .nilFunc, .nilFunc, .nilFunc, .nilFunc] := (Has.new w _ _).below hb (by simp)
  have k0 : w1.cell? ⟨w.heap.size, 0, none⟩ = some .nilFunc := hH.cell 0
  have k1 : w1.cell? ⟨w.heap.size, 1, none⟩ = some .nilFunc := hH.cell 1
  have k2 : w1.cell? ⟨w.heap.size, 2, none⟩ = some .nilFunc := hH.cell 2
  have k3 : w1.cell? ⟨w.heap.size, 3, none⟩ = some .nilFunc := hH.cell 3
  have k4 : w1.cell? ⟨w.heap.size, 4, none⟩ = some .nilFunc := hH.cell 4
  have m0 : w1.frozen? ⟨w.heap.size, 0, none⟩ = false := hH.frozen 0
  have m1 : w1.frozen? ⟨w.heap.size, 1, none⟩ = false := hH.frozen 1
  have m2 : w1.frozen? ⟨w.heap.size, 2, none⟩ = false := hH.frozen 2
  have m3 : w1.frozen? ⟨w.heap.size, 3, none⟩ = false := hH.frozen 3
  have m4 : w1.frozen? ⟨w.heap.size, 4, none⟩ = false := hH.frozen 4
  have hz : w.heap.size < w1.heap.size := hH.lt
  clear hH
  have hB1 : Below w.heap.size w w1 := Below.trans (by repeat' (first | (with_reducible assumption) | (with_reducible refine Below.setCell ?_ ?_ _) | (with_reducible refine Below.alloc ?_ ?_ _) | (with_reducible refine Below.drew ?_) | (with_reducible refine below_drewN ?_ _) | (with_reducible exact Below.refl _ _) | (show _ ≤ _; (try simp); (try omega); done) | exact Below.refl _ _ | assumption)) (hb.mono (by (try simp); (try omega)))
  have HB1 := Lib.hid hB1; clear hB1
  go_wp2
  refine bodyPost_ret (v := .agg (fieldC .sign b0 b1 b2 b3).toArray) (by simp [results, Tryz.results103, go_sem, fieldC, cOk, cWr, cRd, cTx, cPa, k0, k1, k2, k3, k4, hz]) rfl ⟨_, _, _, _, _, rfl, ⟨b0, b1, b2, b3, rfl, ?_⟩, ?_⟩
  · intro h lo hi s e
    cases e
  · have hB1 := HB1.out
    exact (by repeat' (first | (with_reducible assumption) | (with_reducible refine Below.setCell ?_ ?_ _) | (with_reducible refine Below.alloc ?_ ?_ _) | (with_reducible refine Below.drew ?_) | (with_reducible refine below_drewN ?_ _) | (with_reducible exact Below.refl _ _) | (show _ ≤ _; (try simp); (try omega); done) | exact Below.refl _ _ | assumption))
end codeW
end Go.Proofs.YtbbfpbmogklomaaGreatDoor
