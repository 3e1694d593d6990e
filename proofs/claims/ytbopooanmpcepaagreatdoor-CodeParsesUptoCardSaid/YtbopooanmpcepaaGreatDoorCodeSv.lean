/- writer.sevens. Condition: at most 1000000 bytes. -/
import Derived.Test.YtbopooanmpcepaaGreatDoorCodeWr
namespace Go.Proofs.YtbopooanmpcepaaGreatDoor
open Go.RowKit Go.Bus Go.Bus.cellK Go.Bus.codeK
set_option linter.unusedVariables false
set_option linter.unusedSimpArgs false
namespace codeW
theorem or128 (k : Nat) : bits BinOp.or IntKind.u8 ((k : Int) % 256) 128 = ((k % 128 + 128 : Nat) : Int) := by
  have h : ∀ d : Fin 256, bits BinOp.or IntKind.u8 ((d.val : Nat) : Int) 128 = ((d.val % 128 + 128 : Nat) : Int) := by decide +kernel
  have h1 := h ⟨k % 256, by omega⟩
  simp only at h1
  rw [show ((k : Int) % 256) = ((k % 256 : Nat) : Int) from by omega, h1]
  congr 1; omega
set_option maxRecDepth 100000 in
set_option maxHeartbeats 1000000 in
theorem sevens_any {g base m : Nat} {v : Value} {bs : List Int} {x : Ins} {w : World} (hW : Wr w g base v bs x) (hg : g < base) (hb : base ≤ w.heap.size) (hm : m < 18446744073709551616) (hl : (bs ++ sev m).length ≤ 1000000) :
    Calls Tryz.prog 67 #[ptr g, .int .u64 (m : Nat)] w (WrPost w g base v (bs ++ sev m) x) := by
  obtain ⟨i0, hi, hz0, hz1, hz2⟩ := info_parts Tryz.infoB
  obtain ⟨op, a, b, n, imm⟩ := x
  have HM := Lib.hid hm; clear hm
  have HW0 := Lib.hid hW; clear hW
  obtain ⟨N, hN⟩ : ∃ N, N = (bs ++ sev m).length := ⟨_, rfl⟩
  rw [← hN] at hl
  have HN := Lib.hid hN; clear hN
  go_enter Tryz.func67, Tryz.ntmps67
  go_wp2
  go_loopw [1] (fun i wr => ∃ (k : Nat) (bs' : List Int) (v' : Value), i = .int .u64 (k : Nat) ∧ k < 18446744073709551616 ∧ Hid (bs' ++ sev k = bs ++ sev m) ∧ bs'.length + 1 ≤ N ∧ Hid (Wr wr g base v' bs' ⟨op, a, b, n, imm⟩) ∧ Hid (Wro w wr g v v')) (fun i _ => (intOf i).toNat)
  case atStart =>
    refine ⟨m, bs, v, rfl, HM.out, Lib.hid rfl, ?_, HW0, Lib.hid (Wro.refl _ _ _)⟩
    rw [HN.out, List.length_append]
    have := sev_pos m
    omega
  case round =>
    obtain ⟨k, bs', v', rfl, hk, HE, hlen, HW, HR⟩ := hrel
    have hbr : base ≤ wr.heap.size := Nat.le_trans hb HR.out.size
    have e0 := HW.out.1.cell 0
    have ef := HW.out.1.frozen 0
    have zg : g < wr.heap.size := HW.out.1.lt
    simp only [List.getElem?_toArray, List.getElem?_cons_zero, List.getElem?_cons_succ] at e0
    have HO := Lib.hid HW.out.2
    by_cases hlt : 127 < k
    · have hor : bits BinOp.or IntKind.u8 ((k : Int) % 256) 128 = ((k % 128 + 128 : Nat) : Int) := or128 k
      have HOR := Lib.hid hor; clear hor
      have HEs : Hid ((bs' ++ [((k % 128 + 128 : Nat) : Int)]) ++ sev (k / 128) = bs ++ sev m) := Lib.hid (by rw [List.append_assoc, ← HE.out, sev_ge (v := k) (by omega)]; rfl)
      go_wp2_with (at_builtin; refine wpList_append_lies _ rfl (.tmp 12) (.tmp 16) 38 (by rfl) base 5 i0 (.int .u8 0) 1 1 Tryz.underlying38 hi hz0 hz1 hz2 (by rfl) (by decide) v' bs'.length (bs'.map byteV) (by rfl) (by exact HO.out.alloc _) ⟨wr.heap.size, 0, none⟩ 1 1 [.int .u8 (bits BinOp.or IntKind.u8 ((k : Int) % 256) 128)] (by rfl) (by rfl) (by exact one_new _ _ _) (by intro u hu; simp at hu; subst hu; rfl) (by omega) (by unfold maxLen; omega) (by omega) (by simp; omega) _ (by rfl) ?_; intro gg c w1 hown1 hg1 hgg hlt1
                   rw [HOR.out] at hown1
                   have hp := Wr.push (W0 := wr.alloc (.cells #[.int .u8 (bits BinOp.or IntKind.u8 ((k : Int) % 256) 128)] 5)) HW.out rfl hg hbr (by exact (by repeat' (first | (with_reducible assumption) | (with_reducible refine Below.setCell ?_ ?_ _) | (with_reducible refine Below.alloc ?_ ?_ _) | (with_reducible refine Below.drew ?_) | (with_reducible refine below_drewN ?_ _) | (with_reducible exact Below.refl _ _) | (show _ ≤ _; (try simp); (try omega); done) | exact Below.refl _ _ | assumption))) hown1 (by exact hg1) (by exact hgg)
                   have q0 := hp.1.cell 0
                   have qf := hp.1.frozen 0
                   simp only [List.getElem?_toArray, List.getElem?_cons_zero] at q0
                   have HP := Lib.hid hp; clear hp
                   clear hown1 hg1 hgg)
      go_roundw
      case rel => exact ⟨k / 128, _, _, by first | rfl | go_num | (simp; omega), by omega, HEs, by have := congrArg List.length HEs.out; rw [List.length_append, ← HN.out] at this; have := sev_pos (k / 128); omega, Lib.hid HP.out.2.1, Lib.hid (HR.out.trans HP.out.2.2)⟩
      case measure => first | (simp [intOf]; omega) | (simp [intOf]; done)
    · have hk2 : (k : Int) % 256 = k := by omega
      have HEs : Hid (bs' ++ [(k : Int)] = bs ++ sev m) := Lib.hid (by rw [← HE.out, sev_lt (v := k) (by omega)])
      go_wp2_with (at_builtin; refine wpList_append_lies _ rfl (.tmp 24) (.tmp 27) 38 (by rfl) base 5 i0 (.int .u8 0) 1 1 Tryz.underlying38 hi hz0 hz1 hz2 (by rfl) (by decide) v' bs'.length (bs'.map byteV) (by rfl) (by exact HO.out.alloc _) ⟨wr.heap.size, 0, none⟩ 1 1 [.int .u8 ((k : Int))] (by rfl) (by rfl) (by exact one_new _ _ _) (by intro u hu; simp at hu; subst hu; rfl) (by omega) (by unfold maxLen; omega) (by omega) (by simp; omega) _ (by rfl) ?_; intro gg c w1 hown1 hg1 hgg hlt1
                   have hp := Wr.push (W0 := wr.alloc (.cells #[.int .u8 (k : Int)] 5)) HW.out rfl hg hbr (by exact (by repeat' (first | (with_reducible assumption) | (with_reducible refine Below.setCell ?_ ?_ _) | (with_reducible refine Below.alloc ?_ ?_ _) | (with_reducible refine Below.drew ?_) | (with_reducible refine below_drewN ?_ _) | (with_reducible exact Below.refl _ _) | (show _ ≤ _; (try simp); (try omega); done) | exact Below.refl _ _ | assumption))) hown1 (by exact hg1) (by exact hgg)
                   have q0 := hp.1.cell 0
                   have qf := hp.1.frozen 0
                   simp only [List.getElem?_toArray, List.getElem?_cons_zero] at q0
                   have HP := Lib.hid hp; clear hp
                   clear hown1 hg1 hgg)
      refine bodyPost_end (results_none rfl _ _ _) rfl ?_
      exact ⟨⟨_, rfl⟩, _, by rw [← HEs.out]; exact HP.out.2.1, HR.out.trans HP.out.2.2⟩
end codeW
end Go.Proofs.YtbopooanmpcepaaGreatDoor
