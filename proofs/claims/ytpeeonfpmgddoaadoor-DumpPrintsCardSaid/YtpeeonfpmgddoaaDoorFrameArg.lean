/- A frame that came in (an identifier, a width, bytes), opened; lent and found as it was. No condition. -/
import Derived.Test.YtpeeonfpmgddoaaDoorBytes
import Derived.Test.YtpeeonfpmgddoaaDoorFrameOpen
namespace Go.Proofs.YtpeeonfpmgddoaaDoor
open Go.RowKit Go.Bus Go.Joins Go.ChangeShapes Go.WideShapes
set_option linter.unusedVariables false

namespace frameA
/-- A call that lent a frame. -/
def LendsF (w : World) (id : Int) (wide : Bool) (l : List Int) (e : Ending) (w' : World) : Prop :=
  ∃ v, e = .returned (.agg #[.int .u32 id, .bool wide, v]) ∧ Lent w' w.heap.size 5 (Value.int .u8) v l.length (l ++ bytesK.marks) ∧ Below w.heap.size w w'

set_option maxRecDepth 100000 in
set_option maxHeartbeats 1000000 in
theorem lentframe_any (id : Int) (wide : Bool) (sv : Value) (l : List Int) (w : World) (h : Sl w w.heap.size (Value.int .u8) sv l) (hlen : l.length ≤ 140737488351232) :
    Calls Tryd.prog 21 #[.agg #[.int .u32 id, .bool wide, sv]] w (LendsF w id wide l) := by
  obtain ⟨A, cap, rfl, hcap, hmax⟩ := h.form
  have HL := Lib.hid h; clear h
  go_enter Tryd.func21, Tryd.ntmps21
  go_wp2_with fail
  refine (bytesK.lent_any _ l _ (HL.out.at_below (by repeat' (first | (with_reducible assumption) | (with_reducible refine Below.setCell ?_ ?_ _) | (with_reducible refine Below.alloc ?_ ?_ _) | (with_reducible refine Below.drew ?_) | (with_reducible refine below_drewN ?_ _) | (with_reducible exact Below.refl _ _) | (show _ ≤ _; (try simp); (try omega); done) | exact Below.refl _ _ | assumption))) hlen).mono ?_
  rintro e w1 ⟨v, rfl, hlent, hb⟩
  obtain ⟨g, c, rfl, hr⟩ := hlent
  obtain ⟨hc, hf⟩ := bcell hb
  have hz := hb.size
  simp at hz
  have hB : Below w.heap.size w w1 := Below.trans (by repeat' (first | (with_reducible assumption) | (with_reducible refine Below.setCell ?_ ?_ _) | (with_reducible refine Below.alloc ?_ ?_ _) | (with_reducible refine Below.drew ?_) | (with_reducible refine below_drewN ?_ _) | (with_reducible exact Below.refl _ _) | (show _ ≤ _; (try simp); (try omega); done) | exact Below.refl _ _ | assumption)) (hb.mono (by (try simp); (try omega)))
  have HH : Hid (Lent w1 (w.heap.size + 3) 5 (Value.int .u8) (.slice (some ⟨g, 0, none⟩) l.length c) l.length (l ++ bytesK.marks)) := ⟨g, c, rfl, hr.1, own_base hr.2 (by simp)⟩
  clear hr
  go_wp2
  refine bodyPost_ret (v := .agg #[.int .u32 id, .bool wide, .slice (some ⟨g, 0, none⟩) l.length c]) (by simp [results, Tryd.results21, go_sem, hc]) rfl ⟨_, rfl, ?_, ?_⟩
  · refine Lent.base (base := w.heap.size + 3) ?_ (by omega)
    repeat (first | exact HH.out | refine Lent.setCell ?_ (by dsimp only; omega) _)
  · exact (by repeat' (first | (with_reducible assumption) | (with_reducible refine Below.setCell ?_ ?_ _) | (with_reducible refine Below.alloc ?_ ?_ _) | (with_reducible refine Below.drew ?_) | (with_reducible refine below_drewN ?_ _) | (with_reducible exact Below.refl _ _) | (show _ ≤ _; (try simp); (try omega); done) | exact Below.refl _ _ | assumption))

set_option maxRecDepth 100000 in
set_option maxHeartbeats 1000000 in
theorem keptframe_yes (id : Int) (wide : Bool) (sv tv : Value) (l : List Int) (w : World) (base : Nat) (h : Lent w base 5 (Value.int .u8) sv l.length (l ++ bytesK.marks)) (h' : Sl w w.heap.size (Value.int .u8) tv l) (hlen : l.length ≤ 140737488351232) :
    Calls Tryd.prog 28 #[.agg #[.int .u32 id, .bool wide, sv], .agg #[.int .u32 id, .bool wide, tv]] w fun e w' => e = .returned (.bool true) ∧ Below w.heap.size w w' := by
  have HL := Lib.hid h; clear h
  have HL' := Lib.hid h'; clear h'
  go_enter Tryd.func28, Tryd.ntmps28
  go_wp2_with fail
  refine (bytesK.kept_yes _ _ l _ _ base (HL.out.below (by repeat' (first | (with_reducible assumption) | (with_reducible refine Below.setCell ?_ ?_ _) | (with_reducible refine Below.alloc ?_ ?_ _) | (with_reducible refine Below.drew ?_) | (with_reducible refine below_drewN ?_ _) | (with_reducible exact Below.refl _ _) | (show _ ≤ _; (try simp); (try omega); done) | exact Below.refl _ _ | assumption))) (HL'.out.at_below (by repeat' (first | (with_reducible assumption) | (with_reducible refine Below.setCell ?_ ?_ _) | (with_reducible refine Below.alloc ?_ ?_ _) | (with_reducible refine Below.drew ?_) | (with_reducible refine below_drewN ?_ _) | (with_reducible exact Below.refl _ _) | (show _ ≤ _; (try simp); (try omega); done) | exact Below.refl _ _ | assumption))) hlen (Nat.le_refl _)).mono ?_
  rintro e w1 ⟨rfl, rfl⟩
  go_wp2
  go_ret
  exact ⟨rfl, (by repeat' (first | (with_reducible assumption) | (with_reducible refine Below.setCell ?_ ?_ _) | (with_reducible refine Below.alloc ?_ ?_ _) | (with_reducible refine Below.drew ?_) | (with_reducible refine below_drewN ?_ _) | (with_reducible exact Below.refl _ _) | (show _ ≤ _; (try simp); (try omega); done) | exact Below.refl _ _ | assumption))⟩
end frameA
end Go.Proofs.YtpeeonfpmgddoaaDoor
