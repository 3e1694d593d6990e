/- A trace's line lent and kept (busbarkit). Condition: lengths. -/
import Derived.Test.YtpeeonfpmgddoaaDoorDumpPr
import Derived.Test.YtpeeonfpmgddoaaDoorFrameArg
import Derived.Test.YtpeeonfpmgddoaaDoorRes
namespace Go.Proofs.YtpeeonfpmgddoaaDoor
open Go.RowKit Go.Bus Go.Bus.dumpK
set_option linter.unusedVariables false
set_option linter.unusedSimpArgs false
namespace dumpW
set_option maxRecDepth 100000 in
set_option maxHeartbeats 2000000 in
theorem lentline_any (l : Ln) (v : Value) (w : World) (h : Sl w w.heap.size (Value.int .u8) v l.data) (hlen : l.data.length ≤ 140737488351232) : Calls Tryd.prog 8 #[.agg (lnC l v).toArray] w fun e w' => ∃ u, e = .returned (.agg (lnC l u).toArray) ∧ Lent w' w.heap.size 5 (Value.int .u8) u l.data.length (l.data ++ bytesK.marks) ∧ Below w.heap.size w w' := by
  obtain ⟨A, cap, rfl, hcap, hmax⟩ := h.form
  have HL := Lib.hid h; clear h
  obtain ⟨P, hP⟩ : ∃ P : ByteArray, P = ⟨l.port.toArray⟩ := ⟨_, rfl⟩
  unfold lnC
  rw [← hP]
  clear hP hcap hmax
  go_enter Tryd.func8, Tryd.ntmps8
  go_wp2_with fail
  refine (frameA.lentframe_any (l.id : Nat) l.wide _ l.data _ (HL.out.at_below (by repeat' (first | (with_reducible assumption) | (with_reducible refine Below.setCell ?_ ?_ _) | (with_reducible refine Below.alloc ?_ ?_ _) | (with_reducible refine Below.drew ?_) | (with_reducible refine below_drewN ?_ _) | (with_reducible exact Below.refl _ _) | (show _ ≤ _; (try simp); (try omega); done) | exact Below.refl _ _ | assumption))) hlen).mono ?_
  rintro e w1 ⟨u, rfl, hlent, hb⟩
  obtain ⟨g, c, rfl, hr1, hr2⟩ := hlent
  have hz := hb.size
  simp at hz
  have hB : Below w.heap.size w w1 := Below.trans (by repeat' (first | (with_reducible assumption) | (with_reducible refine Below.setCell ?_ ?_ _) | (with_reducible refine Below.alloc ?_ ?_ _) | (with_reducible refine Below.drew ?_) | (with_reducible refine below_drewN ?_ _) | (with_reducible exact Below.refl _ _) | (show _ ≤ _; (try simp); (try omega); done) | exact Below.refl _ _ | assumption)) (hb.mono (by (try simp); (try omega)))
  have HH : Hid (Lent w1 (w.heap.size + 3) 5 (Value.int .u8) (.slice (some ⟨g, 0, none⟩) l.data.length c) l.data.length (l.data ++ bytesK.marks)) := ⟨g, c, rfl, hr1, own_base hr2 (by simp)⟩
  have hx : Has w1 (w.heap.size + 1 + 1) 28 #[.int .u64 (l.time : Nat), .string P, .int .u32 (l.id : Nat), .bool l.wide, .slice A l.data.length cap] := Has.below (by exact Has.new2 w _ _ _ _) hb (by simp)
  have hr : Has w1 (w.heap.size + 1) 28 #[.int .u64 0, .string ⟨#[]⟩, .int .u32 0, .bool false, .slice none 0 0] := Has.below (by exact (Has.new1 w _ _ _).alloc _) hb (by simp)
  have x0 : w1.cell? ⟨w.heap.size + 1 + 1, 0, none⟩ = some (.int .u64 (l.time : Nat)) := hx.cell 0
  have g0 : w1.frozen? ⟨w.heap.size + 1 + 1, 0, none⟩ = false := hx.frozen 0
  have x1 : w1.cell? ⟨w.heap.size + 1 + 1, 1, none⟩ = some (.string P) := hx.cell 1
  have g1 : w1.frozen? ⟨w.heap.size + 1 + 1, 1, none⟩ = false := hx.frozen 1
  have x2 : w1.cell? ⟨w.heap.size + 1 + 1, 2, none⟩ = some (.int .u32 (l.id : Nat)) := hx.cell 2
  have g2 : w1.frozen? ⟨w.heap.size + 1 + 1, 2, none⟩ = false := hx.frozen 2
  have x3 : w1.cell? ⟨w.heap.size + 1 + 1, 3, none⟩ = some (.bool l.wide) := hx.cell 3
  have g3 : w1.frozen? ⟨w.heap.size + 1 + 1, 3, none⟩ = false := hx.frozen 3
  have x4 : w1.cell? ⟨w.heap.size + 1 + 1, 4, none⟩ = some (.slice A l.data.length cap) := hx.cell 4
  have g4 : w1.frozen? ⟨w.heap.size + 1 + 1, 4, none⟩ = false := hx.frozen 4
  have r0 : w1.cell? ⟨w.heap.size + 1, 0, none⟩ = some (.int .u64 0) := hr.cell 0
  have f0 : w1.frozen? ⟨w.heap.size + 1, 0, none⟩ = false := hr.frozen 0
  have r1 : w1.cell? ⟨w.heap.size + 1, 1, none⟩ = some (.string ⟨#[]⟩) := hr.cell 1
  have f1 : w1.frozen? ⟨w.heap.size + 1, 1, none⟩ = false := hr.frozen 1
  have r2 : w1.cell? ⟨w.heap.size + 1, 2, none⟩ = some (.int .u32 0) := hr.cell 2
  have f2 : w1.frozen? ⟨w.heap.size + 1, 2, none⟩ = false := hr.frozen 2
  have r3 : w1.cell? ⟨w.heap.size + 1, 3, none⟩ = some (.bool false) := hr.cell 3
  have f3 : w1.frozen? ⟨w.heap.size + 1, 3, none⟩ = false := hr.frozen 3
  have r4 : w1.cell? ⟨w.heap.size + 1, 4, none⟩ = some (.slice none 0 0) := hr.cell 4
  have f4 : w1.frozen? ⟨w.heap.size + 1, 4, none⟩ = false := hr.frozen 4
  have HR := Lib.hid hr
  have HB := Lib.hid hB
  clear hr1 hr2 hb hx hr hB
  go_wp2
  refine bodyPost_ret (results_block (g := w.heap.size + 1) (T := 28) rfl rfl (by exact ((((((((HR.out.far (p := ⟨w.heap.size + 1 + 1, 2, none⟩) (by simp) _).far (p := ⟨w.heap.size + 1 + 1, 3, none⟩) (by simp) _).far (p := ⟨w.heap.size + 1 + 1, 4, none⟩) (by simp) _).set 0 _).set 1 _).set 2 _).set 3 _).set 4 _)) rfl Tryd.underlying28 rfl (by kernel_rfl)) rfl ?_
  refine ⟨.slice (some ⟨g, 0, none⟩) l.data.length c, rfl, ?_, by have hB := HB.out; exact (by repeat' (first | (with_reducible assumption) | (with_reducible refine Below.setCell ?_ ?_ _) | (with_reducible refine Below.alloc ?_ ?_ _) | (with_reducible refine Below.drew ?_) | (with_reducible refine below_drewN ?_ _) | (with_reducible exact Below.refl _ _) | (show _ ≤ _; (try simp); (try omega); done) | exact Below.refl _ _ | assumption))⟩
  refine Lent.base (base := w.heap.size + 3) ?_ (by omega)
  refine Lent.setCell (Lent.setCell (Lent.setCell (Lent.setCell (Lent.setCell (Lent.setCell (Lent.setCell (Lent.setCell HH.out ?_ _) ?_ _) ?_ _) ?_ _) ?_ _) ?_ _) ?_ _) ?_ _
  all_goals (dsimp only; omega)
set_option maxRecDepth 100000 in
set_option maxHeartbeats 2000000 in
theorem keptline_yes (l : Ln) (sv tv : Value) (w : World) (base : Nat) (h : Lent w base 5 (Value.int .u8) sv l.data.length (l.data ++ bytesK.marks)) (h' : Sl w w.heap.size (Value.int .u8) tv l.data) (hlen : l.data.length ≤ 140737488351232) :
    Calls Tryd.prog 11 #[.agg (lnC l sv).toArray, .agg (lnC l tv).toArray] w fun e w' => e = .returned (.bool true) ∧ Below w.heap.size w w' := by
  obtain ⟨g, c, rfl, hr1, hr2⟩ := h
  obtain ⟨A', cap', rfl, hcap', hmax'⟩ := h'.form
  have HL : Hid (Lent w base 5 (Value.int .u8) (.slice (some ⟨g, 0, none⟩) l.data.length c) l.data.length (l.data ++ bytesK.marks)) := ⟨g, c, rfl, hr1, hr2⟩
  have HL' := Lib.hid h'; clear h'
  obtain ⟨P, hP⟩ : ∃ P : ByteArray, P = ⟨l.port.toArray⟩ := ⟨_, rfl⟩
  unfold lnC
  rw [← hP]
  clear hP
  have hpp : (P.toList == P.toList) = true := by simp
  have htt : ((l.time : Int) == (l.time : Int)) = true := by simp
  have HF : Hid (∀ W, Below w.heap.size w W → Calls Tryd.prog 28 #[.agg #[.int .u32 (l.id : Nat), .bool l.wide, .slice (some ⟨g, 0, none⟩) l.data.length c], .agg #[.int .u32 (l.id : Nat), .bool l.wide, .slice A' l.data.length cap']] W fun e w' => e = .returned (.bool true) ∧ Below W.heap.size W w') := Lib.hid (fun W hb => frameA.keptframe_yes _ _ _ _ l.data W base (HL.out.below hb) (HL'.out.at_below hb) hlen)
  clear hcap' hmax' hr1 hr2
  go_enter Tryd.func11, Tryd.ntmps11
  go_wp2_with (go_at_call 28; refine (HF.out _ (by repeat' (first | (with_reducible assumption) | (with_reducible refine Below.setCell ?_ ?_ _) | (with_reducible refine Below.alloc ?_ ?_ _) | (with_reducible refine Below.drew ?_) | (with_reducible refine below_drewN ?_ _) | (with_reducible exact Below.refl _ _) | (show _ ≤ _; (try simp); (try omega); done) | exact Below.refl _ _ | assumption))).mono ?_; rintro e w1 ⟨rfl, hb⟩; have HB : Hid (Below w.heap.size w w1) := Lib.hid (Below.trans (by repeat' (first | (with_reducible assumption) | (with_reducible refine Below.setCell ?_ ?_ _) | (with_reducible refine Below.alloc ?_ ?_ _) | (with_reducible refine Below.drew ?_) | (with_reducible refine below_drewN ?_ _) | (with_reducible exact Below.refl _ _) | (show _ ≤ _; (try simp); (try omega); done) | exact Below.refl _ _ | assumption)) (hb.mono (by (try simp); (try omega)))); clear hb)
  go_ret
  exact ⟨rfl, HB.out⟩
end dumpW
end Go.Proofs.YtpeeonfpmgddoaaDoor
