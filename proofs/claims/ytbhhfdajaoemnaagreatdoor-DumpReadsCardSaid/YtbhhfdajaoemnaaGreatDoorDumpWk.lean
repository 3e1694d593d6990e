/- busbarlaw27's works; two lines that are the same. Conditions: two tables of the library are laid. -/
import Derived.Test.YtbhhfdajaoemnaaGreatDoorDumpPr
import Derived.Test.YtbhhfdajaoemnaaGreatDoorSame
namespace Go.Proofs.YtbhhfdajaoemnaaGreatDoor
open Go.RowKit Go.Bus Go.Bus.dumpK Go.Bus.textK
set_option linter.unusedVariables false
set_option linter.unusedSimpArgs false
namespace dumpW
def lnW : Ln := ⟨1500000, [99, 97, 110, 48], 291, false, [222, 173]⟩
theorem lnW_line : lineD lnW = [40, 49, 46, 53, 48, 48, 48, 48, 48, 41, 32, 99, 97, 110, 48, 32, 49, 50, 51, 35, 68, 69, 65, 68] := by
  have h1 : secs 1500000 = [49] := by unfold secs; rw [show 1500000 / 1000000 = 1 from rfl, dec_small (by decide)]; rfl
  unfold lineD lnW
  simp only [h1]
  decide
theorem lnW_ok : lnW.Ok := ⟨by decide, by decide, by decide⟩
theorem lnW_right : wrong lnW = 0 := by decide
theorem sl_two (w : World) : Sl (w.alloc (.cells #[.int .u8 222, .int .u8 173] 5)) (w.alloc (.cells #[.int .u8 222, .int .u8 173] 5)).heap.size (Value.int .u8) (.slice (some ⟨w.heap.size, 0, none⟩) 2 2) [222, 173] := by
  refine ⟨_, 2, rfl, Nat.le_refl _, by decide, fun _ => ⟨w.heap.size, 0, rfl, by simp, ?_⟩⟩
  intro i x hi
  have hh := Has.new w 5 #[.int .u8 222, .int .u8 173]
  match i, hi with
  | 0, hi => cases hi; exact hh.cell 0
  | 1, hi => cases hi; exact hh.cell 1
  | n + 2, hi => simp at hi
set_option maxRecDepth 100000 in
set_option maxHeartbeats 2000000 in
theorem works_any (w : World) (hT : fmtK.Tab w) (hZ : hexW.Tz w) : Calls Tryz.prog 7 #[] w fun e w' => e = .returned (.bool true) ∧ Below w.heap.size w w' := by
  have hB : Below w.heap.size w (w.alloc (.cells #[.int .u8 222, .int .u8 173] 5)) := (Below.refl _ _).alloc (Nat.le_refl _) _
  have HP : Hid (Calls Tryz.prog 14 #[.agg #[.int .u64 1500000, .string ⟨#[99, 97, 110, 48]⟩, .int .u32 291, .bool false, .slice (some ⟨w.heap.size, 0, none⟩) 2 2]] (w.alloc (.cells #[.int .u8 222, .int .u8 173] 5)) fun e w' => e = .returned (.tuple #[.string ⟨#[40, 49, 46, 53, 48, 48, 48, 48, 48, 41, 32, 99, 97, 110, 48, 32, 49, 50, 51, 35, 68, 69, 65, 68]⟩, .nilIface]) ∧ Below w.heap.size w w') := Lib.hid ((dprint_any lnW lnW_ok _ _ (sl_two w) (by decide) (hT.at_below hB) (hZ.at_below hB)).mono (by
    rintro e w' ⟨hb, ⟨-, rfl⟩ | ⟨hw, -⟩⟩
    · rw [lnW_line]
      exact ⟨rfl, hB.trans (hb.mono (by simp))⟩
    · exact absurd lnW_right hw))
  clear hB hT hZ
  go_enter Tryz.func7, Tryz.ntmps7
  go_wp2_with (go_at_call 14; refine (HP.out).mono ?_; rintro e w1 ⟨rfl, hb⟩; have HB := Lib.hid hb; clear hb)
  go_ret
  exact ⟨rfl, HB.out⟩
set_option maxRecDepth 100000 in
set_option maxHeartbeats 2000000 in
theorem same_line (l : Ln) (v u : Value) (w : World) (h : Sl w w.heap.size (Value.int .u8) v l.data) (h' : Sl w w.heap.size (Value.int .u8) u l.data) :
    Calls Tryz.prog 20 #[.agg (lnC l v).toArray, .agg (lnC l u).toArray] w fun e w' => e = .returned (.bool true) ∧ Below w.heap.size w w' := by
  obtain ⟨A, cap, rfl, hcap, hmax⟩ := h.form
  obtain ⟨A', cap', rfl, hcap', hmax'⟩ := h'.form
  have HL := Lib.hid h; clear h
  have HL' := Lib.hid h'; clear h'
  obtain ⟨P, hP⟩ : ∃ P : ByteArray, P = ⟨l.port.toArray⟩ := ⟨_, rfl⟩
  unfold lnC
  rw [← hP]
  clear hP
  have hpp : (P.toList == P.toList) = true := by simp
  have htt : ((l.time : Int) == (l.time : Int)) = true := by simp
  have HF : Hid (∀ W, Below w.heap.size w W → Calls Tryz.prog 40 #[.agg #[.int .u32 (l.id : Nat), .bool l.wide, .slice A l.data.length cap], .agg #[.int .u32 (l.id : Nat), .bool l.wide, .slice A' l.data.length cap']] W fun e w' => e = .returned (.bool true) ∧ Below W.heap.size W w') := Lib.hid (fun W hb => (sameW.frame_any _ _ _ _ _ _ l.data l.data W (HL.out.at_below hb) (HL'.out.at_below hb)).mono (fun e w' hh => ⟨by rw [hh.1, decide_eq_true ⟨rfl, rfl, rfl⟩], hh.2⟩))
  clear hcap hcap' hmax hmax'
  go_enter Tryz.func20, Tryz.ntmps20
  go_wp2_with (go_at_call 40; refine (HF.out _ (by repeat' (first | (with_reducible assumption) | (with_reducible refine Below.setCell ?_ ?_ _) | (with_reducible refine Below.alloc ?_ ?_ _) | (with_reducible refine Below.drew ?_) | (with_reducible refine below_drewN ?_ _) | (with_reducible exact Below.refl _ _) | (show _ ≤ _; (try simp); (try omega); done) | exact Below.refl _ _ | assumption))).mono ?_; rintro e w1 ⟨rfl, hb⟩; have HB : Hid (Below w.heap.size w w1) := Lib.hid (Below.trans (by repeat' (first | (with_reducible assumption) | (with_reducible refine Below.setCell ?_ ?_ _) | (with_reducible refine Below.alloc ?_ ?_ _) | (with_reducible refine Below.drew ?_) | (with_reducible refine below_drewN ?_ _) | (with_reducible exact Below.refl _ _) | (show _ ≤ _; (try simp); (try omega); done) | exact Below.refl _ _ | assumption)) (hb.mono (by (try simp); (try omega)))); clear hb)
  go_ret
  exact ⟨rfl, HB.out⟩
end dumpW
end Go.Proofs.YtbhhfdajaoemnaaGreatDoor
