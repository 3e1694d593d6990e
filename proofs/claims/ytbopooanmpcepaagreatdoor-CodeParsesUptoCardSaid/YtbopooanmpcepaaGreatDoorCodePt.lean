/- code.Print where the instruction is not right. No condition. -/
import Derived.Test.YtbopooanmpcepaaGreatDoorCodeEn
namespace Go.Proofs.YtbopooanmpcepaaGreatDoor
open Go.RowKit Go.Bus Go.Bus.cellK Go.Bus.codeK
set_option linter.unusedVariables false
set_option linter.unusedSimpArgs false
namespace codeW
set_option maxRecDepth 100000 in
set_option maxHeartbeats 1000000 in
theorem print_bad {x : Ins} (w : World) (hx : x.Ok) (hr : rightB x = false) : Calls Tryz.prog 7 #[.agg (insC x).toArray] w fun e w' => e = .returned (.tuple #[.string ⟨#[]⟩, .iface 46 (.int .i64 20)]) ∧ Below w.heap.size w w' := by
  have HRT := Lib.hid (fun (W : World) (mv : Value) (hM : MadeE W (Old W.heap.size) mv) => (right_any W hM hx).mono (R' := fun e w' => e = .returned (.bool false) ∧ Below W.heap.size W w') (fun e w' h => ⟨h.1.trans (by rw [hr]), h.2⟩))
  clear hx hr
  obtain ⟨op, a, b, n, imm⟩ := x
  show Calls Tryz.prog 7 #[.agg #[.int .i64 op, .int .i64 a, .int .i64 b, .int .i64 n, .int .u64 imm]] w _
  go_enter Tryz.func7, Tryz.ntmps7
  go_wp2_with (first
    | (go_at_call 14; refine (made_any _).mono ?_; rintro e w1 ⟨mv, rfl, hM, hB⟩; have HM := Lib.hid (hM.keep (F' := Old w1.heap.size) (fun b hb => hb.2) (fun _ _ => rfl)); have HB := Lib.hid hB; have HX : Hid (Has w1 w.heap.size 24 #[.int .i64 op, .int .i64 a, .int .i64 b, .int .i64 n, .int .u64 imm]) := Lib.hid ((Has.new w _ _).below hB (by simp)); have x0 : w1.cell? ⟨w.heap.size, 0, none⟩ = some (.int .i64 op) := HX.out.cell 0; have x1 : w1.cell? ⟨w.heap.size, 1, none⟩ = some (.int .i64 a) := HX.out.cell 1; have x2 : w1.cell? ⟨w.heap.size, 2, none⟩ = some (.int .i64 b) := HX.out.cell 2; have x3 : w1.cell? ⟨w.heap.size, 3, none⟩ = some (.int .i64 n) := HX.out.cell 3; have x4 : w1.cell? ⟨w.heap.size, 4, none⟩ = some (.int .u64 imm) := HX.out.cell 4; have zw := hB.size; clear hM hB)
    | (go_at_call 15; refine (HRT.out _ _ HM.out).mono ?_; rintro e w2 ⟨rfl, hB2⟩; have HB2 := Lib.hid hB2; clear hB2))
  go_ret2
  exact ⟨rfl, (((Below.refl _ _).alloc (Nat.le_refl _) _).trans (HB.out.mono (by simp))).trans (HB2.out.mono (by simp at zw; omega))⟩
end codeW
end Go.Proofs.YtbopooanmpcepaaGreatDoor
