/- The second closures of the fields: a field of one byte is written. Condition: at most 1000000 bytes. -/
import Derived.Test.YtbopooanmpcepaaGreatDoorCodeWr
namespace Go.Proofs.YtbopooanmpcepaaGreatDoor
open Go.RowKit Go.Bus Go.Bus.cellK Go.Bus.codeK
set_option linter.unusedVariables false
set_option linter.unusedSimpArgs false
namespace codeW
set_option maxRecDepth 100000 in
set_option maxHeartbeats 1000000 in
theorem wrN_any {b0 g base : Nat} {v : Value} {bs : List Int} {x : Ins} {w : World} (hW : Wr w g base v bs x) (hg : g < base) (hb : base ≤ w.heap.size) (c0 : w.cell? ⟨b0, 0, none⟩ = some (.func (.func 74) #[] #[])) (z0 : b0 < w.heap.size) (hx : 0 ≤ x.n ∧ x.n < 256) (hl : bs.length ≤ 1000000) :
    Calls Tryz.prog 57 #[ptr g, ptr b0] w (WrPost w g base v (bs ++ [x.n]) x) := by
  obtain ⟨i0, hi, hz0, hz1, hz2⟩ := info_parts Tryz.infoB
  obtain ⟨op, a, b, n, imm⟩ := x
  simp only at hx
  obtain ⟨hx0, hx1⟩ := hx
  have hwx : IntKind.u8.wrap n = n := by rw [IntKind.wrap_u8]; omega
  have HWx := Lib.hid hwx; clear hwx
  have e0 := hW.1.cell 0
  have e3 := hW.1.cell (3 + 1)
  have ef := hW.1.frozen 0
  have zg : g < w.heap.size := hW.1.lt
  simp only [List.getElem?_toArray, List.getElem?_cons_zero, List.getElem?_cons_succ] at e0 e3
  have HO := Lib.hid hW.2
  have HW := Lib.hid hW; clear hW
  go_enter Tryz.func57, Tryz.ntmps57
  go_wp2_with fail
  go_region_law (first
    | (go_simp; go_at_call 74; refine (fieldN_any _ _ _).mono ?_; rintro e w2 ⟨rfl, rfl⟩)
    | (refine step_append_lies _ (by rfl) (.tmp 7) (.tmp 16) 38 (by rfl) base 5 i0 (.int .u8 0) 1 1 Tryz.underlying38 hi hz0 hz1 hz2 (by rfl) (by decide) v bs.length (bs.map byteV) (by rfl) (by exact HO.out.alloc _) ⟨w.heap.size, 0, none⟩ 1 1 [.int .u8 (IntKind.u8.wrap n)] (by rfl) (by rfl) (by exact one_new _ _ _) (by intro u hu; simp at hu; subst hu; rfl) (by omega) (by unfold maxLen; omega) (by omega) (by simp; omega) _ (by rfl) ?_; intro gg c w1 hown1 hg1 hgg hlt1
       rw [HWx.out] at hown1
       have hp := Wr.push (W0 := (w.alloc (.cells #[.int .u8 (IntKind.u8.wrap n)] 5)).drew) HW.out rfl hg hb (by exact (by repeat' (first | (with_reducible assumption) | (with_reducible refine Below.setCell ?_ ?_ _) | (with_reducible refine Below.alloc ?_ ?_ _) | (with_reducible refine Below.drew ?_) | (with_reducible refine below_drewN ?_ _) | (with_reducible exact Below.refl _ _) | (show _ ≤ _; (try simp); (try omega); done) | exact Below.refl _ _ | assumption))) hown1 (by exact hg1) (by exact hgg)
       have q0 := hp.1.cell 0
       have qf := hp.1.frozen 0
       simp only [List.getElem?_toArray, List.getElem?_cons_zero] at q0
       have HP := Lib.hid hp; clear hp
       clear hown1 hg1 hgg))
  all_goals
    go_wp2
    refine bodyPost_end (results_none rfl _ _ _) rfl ?_
    exact ⟨⟨_, rfl⟩, _, HP.out.2.1, HP.out.2.2⟩
end codeW
end Go.Proofs.YtbopooanmpcepaaGreatDoor
