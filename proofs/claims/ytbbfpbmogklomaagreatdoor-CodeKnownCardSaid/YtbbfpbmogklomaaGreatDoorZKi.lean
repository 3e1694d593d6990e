/- Texts of this claim, one behind the other. No condition but those that each states. -/
import Derived.Test.YtbbfpbmogklomaaGreatDoorZCodeF
import Derived.Deep.RegionLaw
import Derived.Deep.AppendLies
import Derived.Outline

namespace Go.Proofs.YtbbfpbmogklomaaGreatDoor
open Go.RowKit Go.Bus Go.Bus.cellK Go.Bus.codeK
set_option linter.unusedVariables false
set_option linter.unusedSimpArgs false
namespace codeW
def WrPost (w : World) (g base : Nat) (v : Value) (bs : List Int) (x : Ins) (e : Ending) (w' : World) : Prop :=
  (∃ u, e = .returned u) ∧ ∃ v', Wr w' g base v' bs x ∧ Wro w w' g v v'
/-- A byte was appended (W0: where the append began) and the row put back into the writer. -/
theorem Wr.push {w W0 w1 : World} {g base gg cap n : Nat} {v : Value} {bs : List Int} {x : Ins} {c : Int} (h : Wr w g base v bs x) (hn : n = bs.length) (hg : g < base) (hb : base ≤ w.heap.size) (h0 : Below w.heap.size w W0)
    (ho : w1.ownsRow base 5 1 (.slice (some ⟨gg, 0, none⟩) (n + 1) cap) (n + 1) (bs.map byteV ++ [.int .u8 c])) (hg1 : W0.grownBy w1 v.ownBlock) (hgg : v.ownBlock = some gg ∨ gg = W0.heap.size) :
    Has w1 g 63 #[v, .int .i64 x.op, .int .i64 x.a, .int .i64 x.b, .int .i64 x.n, .int .u64 x.imm] ∧
    Wr (w1.setCell ⟨g, 0, none⟩ (.slice (some ⟨gg, 0, none⟩) (n + 1) cap)) g base (.slice (some ⟨gg, 0, none⟩) (n + 1) cap) (bs ++ [c]) x ∧ Wro w (w1.setCell ⟨g, 0, none⟩ (.slice (some ⟨gg, 0, none⟩) (n + 1) cap)) g v (.slice (some ⟨gg, 0, none⟩) (n + 1) cap) := by
  subst hn
  have hne := own_has_ne h.2 h.1 (by decide)
  have hgl := h.1.lt
  have h1 : Has w1 g 63 #[v, .int .i64 x.op, .int .i64 x.a, .int .i64 x.b, .int .i64 x.n, .int .u64 x.imm] := (h.1.below h0 hgl).grown hg1 (fun e => hne e.symm)
  refine ⟨h1, ⟨h1.set 0 _, ?_⟩, ?_⟩
  · rw [List.length_append, List.map_append]
    exact ownsRow_setCell_below ho (by exact hg) _
  · refine ⟨hg1.os.trans h0.os, hg1.tape.trans h0.tape, hg1.output.trans h0.output, by simpa using Nat.le_trans h0.size hg1.size, fun k hk hkg hv => ?_, ?_⟩
    · rw [heap_setCell_other _ _ _ _ (by exact hkg), hg1.block k (Nat.lt_of_lt_of_le hk h0.size) (fun e => hv e.symm), h0.block k hk]
    · rcases hgg with e | e
      · exact .inl e.symm
      · exact .inr fun k hk => by
          have : gg = k := by simpa [Value.ownBlock] using hk
          have := h0.size
          omega
end codeW
end Go.Proofs.YtbbfpbmogklomaaGreatDoor

namespace Go.Proofs.YtbbfpbmogklomaaGreatDoor
open Go.RowKit Go.Bus Go.Bus.cellK Go.Bus.codeK
set_option linter.unusedVariables false
set_option linter.unusedSimpArgs false
namespace codeW
set_option maxRecDepth 100000 in
set_option maxHeartbeats 1000000 in
theorem wrA_any {b0 g base : Nat} {v : Value} {bs : List Int} {x : Ins} {w : World} (hW : Wr w g base v bs x) (hg : g < base) (hb : base ≤ w.heap.size) (c0 : w.cell? ⟨b0, 0, none⟩ = some (.func (.func 47) #[] #[])) (z0 : b0 < w.heap.size) (hx : 0 ≤ x.a ∧ x.a < 256) (hl : bs.length ≤ 1000000) :
    Calls Tryz.prog 84 #[ptr g, ptr b0] w (WrPost w g base v (bs ++ [x.a]) x) := by
  obtain ⟨i0, hi, hz0, hz1, hz2⟩ := info_parts Tryz.infoB
  obtain ⟨op, a, b, n, imm⟩ := x
  simp only at hx
  obtain ⟨hx0, hx1⟩ := hx
  have hwx : IntKind.u8.wrap a = a := by rw [IntKind.wrap_u8]; omega
  have HWx := Lib.hid hwx; clear hwx
  have e0 := hW.1.cell 0
  have e1 := hW.1.cell (1 + 1)
  have ef := hW.1.frozen 0
  have zg : g < w.heap.size := hW.1.lt
  simp only [List.getElem?_toArray, List.getElem?_cons_zero, List.getElem?_cons_succ] at e0 e1
  have HO := Lib.hid hW.2
  have HW := Lib.hid hW; clear hW
  go_enter Tryz.func84, Tryz.ntmps84
  go_wp2_with fail
  go_region_law (first
    | (go_simp; go_at_call 47; refine (fieldA_any _ _ _).mono ?_; rintro e w2 ⟨rfl, rfl⟩)
    | (refine step_append_lies _ (by rfl) (.tmp 7) (.tmp 16) 28 (by rfl) base 5 i0 (.int .u8 0) 1 1 Tryz.underlying28 hi hz0 hz1 hz2 (by rfl) (by decide) v bs.length (bs.map byteV) (by rfl) (by exact HO.out.alloc _) ⟨w.heap.size, 0, none⟩ 1 1 [.int .u8 (IntKind.u8.wrap a)] (by rfl) (by rfl) (by exact one_new _ _ _) (by intro u hu; simp at hu; subst hu; rfl) (by omega) (by unfold maxLen; omega) (by omega) (by simp; omega) _ (by rfl) ?_; intro gg c w1 hown1 hg1 hgg hlt1
       rw [HWx.out] at hown1
       have hp := Wr.push (W0 := (w.alloc (.cells #[.int .u8 (IntKind.u8.wrap a)] 5)).drew) HW.out rfl hg hb (by exact (by repeat' (first | (with_reducible assumption) | (with_reducible refine Below.setCell ?_ ?_ _) | (with_reducible refine Below.alloc ?_ ?_ _) | (with_reducible refine Below.drew ?_) | (with_reducible refine below_drewN ?_ _) | (with_reducible exact Below.refl _ _) | (show _ ≤ _; (try simp); (try omega); done) | exact Below.refl _ _ | assumption))) hown1 (by exact hg1) (by exact hgg)
       have q0 := hp.1.cell 0
       have qf := hp.1.frozen 0
       simp only [List.getElem?_toArray, List.getElem?_cons_zero] at q0
       have HP := Lib.hid hp; clear hp
       clear hown1 hg1 hgg))
  all_goals
    go_wp2
    refine bodyPost_end (results_none rfl _ _ _) rfl ?_
    exact ⟨⟨_, rfl⟩, _, HP.out.2.1, HP.out.2.2⟩
end codeW
end Go.Proofs.YtbbfpbmogklomaaGreatDoor

namespace Go.Proofs.YtbbfpbmogklomaaGreatDoor
open Go.RowKit Go.Bus Go.Bus.cellK Go.Bus.codeK
set_option linter.unusedVariables false
set_option linter.unusedSimpArgs false
namespace codeW
set_option maxRecDepth 100000 in
set_option maxHeartbeats 1000000 in
theorem wrB_any {b0 g base : Nat} {v : Value} {bs : List Int} {x : Ins} {w : World} (hW : Wr w g base v bs x) (hg : g < base) (hb : base ≤ w.heap.size) (c0 : w.cell? ⟨b0, 0, none⟩ = some (.func (.func 48) #[] #[])) (z0 : b0 < w.heap.size) (hx : 0 ≤ x.b ∧ x.b < 256) (hl : bs.length ≤ 1000000) :
    Calls Tryz.prog 84 #[ptr g, ptr b0] w (WrPost w g base v (bs ++ [x.b]) x) := by
  obtain ⟨i0, hi, hz0, hz1, hz2⟩ := info_parts Tryz.infoB
  obtain ⟨op, a, b, n, imm⟩ := x
  simp only at hx
  obtain ⟨hx0, hx1⟩ := hx
  have hwx : IntKind.u8.wrap b = b := by rw [IntKind.wrap_u8]; omega
  have HWx := Lib.hid hwx; clear hwx
  have e0 := hW.1.cell 0
  have e2 := hW.1.cell (2 + 1)
  have ef := hW.1.frozen 0
  have zg : g < w.heap.size := hW.1.lt
  simp only [List.getElem?_toArray, List.getElem?_cons_zero, List.getElem?_cons_succ] at e0 e2
  have HO := Lib.hid hW.2
  have HW := Lib.hid hW; clear hW
  go_enter Tryz.func84, Tryz.ntmps84
  go_wp2_with fail
  go_region_law (first
    | (go_simp; go_at_call 48; refine (fieldB_any _ _ _).mono ?_; rintro e w2 ⟨rfl, rfl⟩)
    | (refine step_append_lies _ (by rfl) (.tmp 7) (.tmp 16) 28 (by rfl) base 5 i0 (.int .u8 0) 1 1 Tryz.underlying28 hi hz0 hz1 hz2 (by rfl) (by decide) v bs.length (bs.map byteV) (by rfl) (by exact HO.out.alloc _) ⟨w.heap.size, 0, none⟩ 1 1 [.int .u8 (IntKind.u8.wrap b)] (by rfl) (by rfl) (by exact one_new _ _ _) (by intro u hu; simp at hu; subst hu; rfl) (by omega) (by unfold maxLen; omega) (by omega) (by simp; omega) _ (by rfl) ?_; intro gg c w1 hown1 hg1 hgg hlt1
       rw [HWx.out] at hown1
       have hp := Wr.push (W0 := (w.alloc (.cells #[.int .u8 (IntKind.u8.wrap b)] 5)).drew) HW.out rfl hg hb (by exact (by repeat' (first | (with_reducible assumption) | (with_reducible refine Below.setCell ?_ ?_ _) | (with_reducible refine Below.alloc ?_ ?_ _) | (with_reducible refine Below.drew ?_) | (with_reducible refine below_drewN ?_ _) | (with_reducible exact Below.refl _ _) | (show _ ≤ _; (try simp); (try omega); done) | exact Below.refl _ _ | assumption))) hown1 (by exact hg1) (by exact hgg)
       have q0 := hp.1.cell 0
       have qf := hp.1.frozen 0
       simp only [List.getElem?_toArray, List.getElem?_cons_zero] at q0
       have HP := Lib.hid hp; clear hp
       clear hown1 hg1 hgg))
  all_goals
    go_wp2
    refine bodyPost_end (results_none rfl _ _ _) rfl ?_
    exact ⟨⟨_, rfl⟩, _, HP.out.2.1, HP.out.2.2⟩
end codeW
end Go.Proofs.YtbbfpbmogklomaaGreatDoor

namespace Go.Proofs.YtbbfpbmogklomaaGreatDoor
open Go.RowKit Go.Bus Go.Bus.cellK Go.Bus.codeK
set_option linter.unusedVariables false
set_option linter.unusedSimpArgs false
namespace codeW
set_option maxRecDepth 100000 in
set_option maxHeartbeats 1000000 in
theorem wrN_any {b0 g base : Nat} {v : Value} {bs : List Int} {x : Ins} {w : World} (hW : Wr w g base v bs x) (hg : g < base) (hb : base ≤ w.heap.size) (c0 : w.cell? ⟨b0, 0, none⟩ = some (.func (.func 101) #[] #[])) (z0 : b0 < w.heap.size) (hx : 0 ≤ x.n ∧ x.n < 256) (hl : bs.length ≤ 1000000) :
    Calls Tryz.prog 84 #[ptr g, ptr b0] w (WrPost w g base v (bs ++ [x.n]) x) := by
  obtain ⟨i0, hi, hz0, hz1, hz2⟩ := info_parts Tryz.infoB
  obtain ⟨op, a, b, n, imm⟩ := x
  simp only at hx
  obtain ⟨hx0, hx1⟩ := hx
  have hwx : IntKind.u8.wrap n = n := by rw [IntKind.wrap_u8]; omega
  have HWx := Lib.hid hwx; clear hwx
  have e0 := hW.1.cell 0
  have e3 := hW.1.cell (3 + 1)
  have ef := hW.1.frozen 0
  have zg : g < w.heap.size := hW.1.lt
  simp only [List.getElem?_toArray, List.getElem?_cons_zero, List.getElem?_cons_succ] at e0 e3
  have HO := Lib.hid hW.2
  have HW := Lib.hid hW; clear hW
  go_enter Tryz.func84, Tryz.ntmps84
  go_wp2_with fail
  go_region_law (first
    | (go_simp; go_at_call 101; refine (fieldN_any _ _ _).mono ?_; rintro e w2 ⟨rfl, rfl⟩)
    | (refine step_append_lies _ (by rfl) (.tmp 7) (.tmp 16) 28 (by rfl) base 5 i0 (.int .u8 0) 1 1 Tryz.underlying28 hi hz0 hz1 hz2 (by rfl) (by decide) v bs.length (bs.map byteV) (by rfl) (by exact HO.out.alloc _) ⟨w.heap.size, 0, none⟩ 1 1 [.int .u8 (IntKind.u8.wrap n)] (by rfl) (by rfl) (by exact one_new _ _ _) (by intro u hu; simp at hu; subst hu; rfl) (by omega) (by unfold maxLen; omega) (by omega) (by simp; omega) _ (by rfl) ?_; intro gg c w1 hown1 hg1 hgg hlt1
       rw [HWx.out] at hown1
       have hp := Wr.push (W0 := (w.alloc (.cells #[.int .u8 (IntKind.u8.wrap n)] 5)).drew) HW.out rfl hg hb (by exact (by repeat' (first | (with_reducible assumption) | (with_reducible refine Below.setCell ?_ ?_ _) | (with_reducible refine Below.alloc ?_ ?_ _) | (with_reducible refine Below.drew ?_) | (with_reducible refine below_drewN ?_ _) | (with_reducible exact Below.refl _ _) | (show _ ≤ _; (try simp); (try omega); done) | exact Below.refl _ _ | assumption))) hown1 (by exact hg1) (by exact hgg)
       have q0 := hp.1.cell 0
       have qf := hp.1.frozen 0
       simp only [List.getElem?_toArray, List.getElem?_cons_zero] at q0
       have HP := Lib.hid hp; clear hp
       clear hown1 hg1 hgg))
  all_goals
    go_wp2
    refine bodyPost_end (results_none rfl _ _ _) rfl ?_
    exact ⟨⟨_, rfl⟩, _, HP.out.2.1, HP.out.2.2⟩
end codeW
end Go.Proofs.YtbbfpbmogklomaaGreatDoor

namespace Go.Proofs.YtbbfpbmogklomaaGreatDoor
open Go.RowKit Go.Bus Go.Bus.cellK Go.Bus.codeK
set_option linter.unusedVariables false
set_option linter.unusedSimpArgs false
namespace codeW
theorem or128 (k : Nat) : bits BinOp.or IntKind.u8 ((k : Int) % 256) 128 = ((k % 128 + 128 : Nat) : Int) := by
  have h : ∀ d : Fin 256, bits BinOp.or IntKind.u8 ((d.val : Nat) : Int) 128 = ((d.val % 128 + 128 : Nat) : Int) := by decide +kernel
  have h1 := h ⟨k % 256, by omega⟩
  simp only at h1
  rw [show ((k : Int) % 256) = ((k % 256 : Nat) : Int) from by omega, h1]
  congr 1; omega
set_option maxRecDepth 100000 in
set_option maxHeartbeats 1000000 in
theorem sevens_any {g base m : Nat} {v : Value} {bs : List Int} {x : Ins} {w : World} (hW : Wr w g base v bs x) (hg : g < base) (hb : base ≤ w.heap.size) (hm : m < 18446744073709551616) (hl : (bs ++ sev m).length ≤ 1000000) :
    Calls Tryz.prog 94 #[ptr g, .int .u64 (m : Nat)] w (WrPost w g base v (bs ++ sev m) x) := by
  obtain ⟨i0, hi, hz0, hz1, hz2⟩ := info_parts Tryz.infoB
  obtain ⟨op, a, b, n, imm⟩ := x
  have HM := Lib.hid hm; clear hm
  have HW0 := Lib.hid hW; clear hW
  obtain ⟨N, hN⟩ : ∃ N, N = (bs ++ sev m).length := ⟨_, rfl⟩
  rw [← hN] at hl
  have HN := Lib.hid hN; clear hN
  go_enter Tryz.func94, Tryz.ntmps94
  go_wp2
  go_loopw [1] (fun i wr => ∃ (k : Nat) (bs' : List Int) (v' : Value), i = .int .u64 (k : Nat) ∧ k < 18446744073709551616 ∧ Hid (bs' ++ sev k = bs ++ sev m) ∧ bs'.length + 1 ≤ N ∧ Hid (Wr wr g base v' bs' ⟨op, a, b, n, imm⟩) ∧ Hid (Wro w wr g v v')) (fun i _ => (intOf i).toNat)
  case atStart =>
    refine ⟨m, bs, v, rfl, HM.out, Lib.hid rfl, ?_, HW0, Lib.hid (Wro.refl _ _ _)⟩
    rw [HN.out, List.length_append]
    have := sev_pos m
    omega
  case round =>
    obtain ⟨k, bs', v', rfl, hk, HE, hlen, HW, HR⟩ := hrel
    have hbr : base ≤ wr.heap.size := Nat.le_trans hb HR.out.size
    have e0 := HW.out.1.cell 0
    have ef := HW.out.1.frozen 0
    have zg : g < wr.heap.size := HW.out.1.lt
    simp only [List.getElem?_toArray, List.getElem?_cons_zero, List.getElem?_cons_succ] at e0
    have HO := Lib.hid HW.out.2
    by_cases hlt : 127 < k
    · have hor : bits BinOp.or IntKind.u8 ((k : Int) % 256) 128 = ((k % 128 + 128 : Nat) : Int) := or128 k
      have HOR := Lib.hid hor; clear hor
      have HEs : Hid ((bs' ++ [((k % 128 + 128 : Nat) : Int)]) ++ sev (k / 128) = bs ++ sev m) := Lib.hid (by rw [List.append_assoc, ← HE.out, sev_ge (v := k) (by omega)]; rfl)
      go_wp2_with (at_builtin; refine wpList_append_lies _ rfl (.tmp 12) (.tmp 16) 28 (by rfl) base 5 i0 (.int .u8 0) 1 1 Tryz.underlying28 hi hz0 hz1 hz2 (by rfl) (by decide) v' bs'.length (bs'.map byteV) (by rfl) (by exact HO.out.alloc _) ⟨wr.heap.size, 0, none⟩ 1 1 [.int .u8 (bits BinOp.or IntKind.u8 ((k : Int) % 256) 128)] (by rfl) (by rfl) (by exact one_new _ _ _) (by intro u hu; simp at hu; subst hu; rfl) (by omega) (by unfold maxLen; omega) (by omega) (by simp; omega) _ (by rfl) ?_; intro gg c w1 hown1 hg1 hgg hlt1
                   rw [HOR.out] at hown1
                   have hp := Wr.push (W0 := wr.alloc (.cells #[.int .u8 (bits BinOp.or IntKind.u8 ((k : Int) % 256) 128)] 5)) HW.out rfl hg hbr (by exact (by repeat' (first | (with_reducible assumption) | (with_reducible refine Below.setCell ?_ ?_ _) | (with_reducible refine Below.alloc ?_ ?_ _) | (with_reducible refine Below.drew ?_) | (with_reducible refine below_drewN ?_ _) | (with_reducible exact Below.refl _ _) | (show _ ≤ _; (try simp); (try omega); done) | exact Below.refl _ _ | assumption))) hown1 (by exact hg1) (by exact hgg)
                   have q0 := hp.1.cell 0
                   have qf := hp.1.frozen 0
                   simp only [List.getElem?_toArray, List.getElem?_cons_zero] at q0
                   have HP := Lib.hid hp; clear hp
                   clear hown1 hg1 hgg)
      go_roundw
      case rel => exact ⟨k / 128, _, _, by first | rfl | go_num | (simp; omega), by omega, HEs, by have := congrArg List.length HEs.out; rw [List.length_append, ← HN.out] at this; have := sev_pos (k / 128); omega, Lib.hid HP.out.2.1, Lib.hid (HR.out.trans HP.out.2.2)⟩
      case measure => first | (simp [intOf]; omega) | (simp [intOf]; done)
    · have hk2 : (k : Int) % 256 = k := by omega
      have HEs : Hid (bs' ++ [(k : Int)] = bs ++ sev m) := Lib.hid (by rw [← HE.out, sev_lt (v := k) (by omega)])
      go_wp2_with (at_builtin; refine wpList_append_lies _ rfl (.tmp 24) (.tmp 27) 28 (by rfl) base 5 i0 (.int .u8 0) 1 1 Tryz.underlying28 hi hz0 hz1 hz2 (by rfl) (by decide) v' bs'.length (bs'.map byteV) (by rfl) (by exact HO.out.alloc _) ⟨wr.heap.size, 0, none⟩ 1 1 [.int .u8 ((k : Int))] (by rfl) (by rfl) (by exact one_new _ _ _) (by intro u hu; simp at hu; subst hu; rfl) (by omega) (by unfold maxLen; omega) (by omega) (by simp; omega) _ (by rfl) ?_; intro gg c w1 hown1 hg1 hgg hlt1
                   have hp := Wr.push (W0 := wr.alloc (.cells #[.int .u8 (k : Int)] 5)) HW.out rfl hg hbr (by exact (by repeat' (first | (with_reducible assumption) | (with_reducible refine Below.setCell ?_ ?_ _) | (with_reducible refine Below.alloc ?_ ?_ _) | (with_reducible refine Below.drew ?_) | (with_reducible refine below_drewN ?_ _) | (with_reducible exact Below.refl _ _) | (show _ ≤ _; (try simp); (try omega); done) | exact Below.refl _ _ | assumption))) hown1 (by exact hg1) (by exact hgg)
                   have q0 := hp.1.cell 0
                   have qf := hp.1.frozen 0
                   simp only [List.getElem?_toArray, List.getElem?_cons_zero] at q0
                   have HP := Lib.hid hp; clear hp
                   clear hown1 hg1 hgg)
      refine bodyPost_end (results_none rfl _ _ _) rfl ?_
      exact ⟨⟨_, rfl⟩, _, by rw [← HEs.out]; exact HP.out.2.1, HR.out.trans HP.out.2.2⟩
end codeW
end Go.Proofs.YtbbfpbmogklomaaGreatDoor
