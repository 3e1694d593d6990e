/- The second closure of any field: it is written. Condition: at most 1000000 bytes. -/
import Derived.Test.YtbbfpbmogklomaaGreatDoorZKi
import Derived.Test.YtbbfpbmogklomaaGreatDoorZCodeK
namespace Go.Proofs.YtbbfpbmogklomaaGreatDoor
open Go.RowKit Go.Bus Go.Bus.cellK Go.Bus.codeK
set_option linter.unusedVariables false
set_option linter.unusedSimpArgs false
namespace codeW
set_option maxRecDepth 100000 in
set_option maxHeartbeats 1000000 in
theorem wrImm_any {g base : Nat} {v : Value} {bs : List Int} {x : Ins} {w : World} (hW : Wr w g base v bs x) (hg : g < base) (hb : base ≤ w.heap.size) (hx : x.Ok) (hl : (bs ++ sev x.imm.toNat).length ≤ 1000000) :
    Calls Tryz.prog 93 #[ptr g] w (WrPost w g base v (bs ++ sev x.imm.toNat) x) := by
  obtain ⟨m, hm⟩ : ∃ m : Nat, x.imm = m := ⟨x.imm.toNat, by have := hx.imm; omega⟩
  have hm2 : x.imm.toNat = m := by omega
  rw [hm2] at hl ⊢
  have hmb : m < 18446744073709551616 := by have := hx.imm; omega
  have e5 := hW.1.cell 5
  have ef := hW.1.frozen 5
  have zg : g < w.heap.size := hW.1.lt
  simp only [List.getElem?_toArray, List.getElem?_cons_zero, List.getElem?_cons_succ] at e5
  rw [hm] at e5
  have HW := Lib.hid hW; clear hW
  clear hm hm2 hx
  go_enter Tryz.func93, Tryz.ntmps93
  go_wp2_with (go_at_call 94; refine (sevens_any (m := m) HW.out hg hb hmb hl).mono ?_; rintro e w' ⟨⟨u, rfl⟩, v', h1, h2⟩)
  refine bodyPost_end (results_none rfl _ _ _) rfl ?_
  exact ⟨⟨_, rfl⟩, v', h1, h2⟩
set_option maxRecDepth 100000 in
set_option maxHeartbeats 1000000 in
theorem wrSkip_any {g base : Nat} {v : Value} {bs : List Int} {x : Ins} {w : World} (hW : Wr w g base v bs x) (hg : g < base) (hb : base ≤ w.heap.size) (hx : 0 ≤ x.n ∧ x.n ≤ 16384) (hl : (bs ++ sev x.n.toNat).length ≤ 1000000) :
    Calls Tryz.prog 128 #[ptr g] w (WrPost w g base v (bs ++ sev x.n.toNat) x) := by
  obtain ⟨m, hm⟩ : ∃ m : Nat, x.n = m := ⟨x.n.toNat, by omega⟩
  have hm2 : x.n.toNat = m := by omega
  rw [hm2] at hl ⊢
  have hmb : m < 18446744073709551616 := by omega
  have hwu : IntKind.u64.wrap (m : Int) = (m : Int) := by rw [IntKind.wrap_u64]; omega
  have hwu2 : (m : Int) % 18446744073709551616 = m := by omega
  have e4 := hW.1.cell 4
  have ef := hW.1.frozen 4
  have zg : g < w.heap.size := hW.1.lt
  simp only [List.getElem?_toArray, List.getElem?_cons_zero, List.getElem?_cons_succ] at e4
  rw [hm] at e4
  have HW := Lib.hid hW; clear hW
  clear hm hm2 hx
  go_enter Tryz.func128, Tryz.ntmps128
  go_wp2_with (go_at_call 94; refine (sevens_any (m := m) HW.out hg hb hmb hl).mono ?_; rintro e w' ⟨⟨u, rfl⟩, v', h1, h2⟩)
  refine bodyPost_end (results_none rfl _ _ _) rfl ?_
  exact ⟨⟨_, rfl⟩, v', h1, h2⟩
theorem wrSmall_any (h : Wh) (hh : h ≠ .I) {b0 g base : Nat} {v : Value} {bs : List Int} {x : Ins} {w : World} (hW : Wr w g base v bs x) (hg : g < base) (hb : base ≤ w.heap.size) (h0 : Has w b0 126 #[clos (whF h) #[]]) (hx : 0 ≤ x.at_ h ∧ x.at_ h < 256) (hl : bs.length ≤ 1000000) :
    Calls Tryz.prog 84 #[ptr g, ptr b0] w (WrPost w g base v (bs ++ [x.at_ h]) x) := by
  have c0 : w.cell? ⟨b0, 0, none⟩ = some (clos (whF h) #[]) := h0.cell 0
  cases h with
  | A => exact wrA_any hW hg hb c0 h0.lt hx hl
  | B => exact wrB_any hW hg hb c0 h0.lt hx hl
  | N => exact wrN_any hW hg hb c0 h0.lt hx hl
  | I => exact absurd rfl hh
/-- The second closure of any field. -/
theorem wr_does (f : Fk) (hf : f.ok) (cs : List Value) (F : Foot) {g base : Nat} {v : Value} {bs : List Int} {x : Ins} {w : World} (hE : FieldE w F cs f) (ho : okF f x = true) (hx : x.Ok) (hW : Wr w g base v bs x) (hg : g < base) (hb : base ≤ w.heap.size) (hl : (bs ++ wrF f x).length ≤ 1000000) :
    ∃ c0 c1 c2 c3 c4, cs = [c0, c1, c2, c3, c4] ∧ Does Tryz.prog c1 #[ptr g] w (WrPost w g base v (bs ++ wrF f x) x) := by
  obtain ⟨b0, b1, b2, b3, rfl, hB⟩ := hE
  refine ⟨_, _, _, _, _, rfl, ?_⟩
  have hby := wr_byte hf ho
  cases f with
  | small h lo hi s =>
    have := hby (x.at_ h) (by simp [wrF])
    exact callFunc_of _ (fun _ _ => by kernel_rfl) _ _ _ _ (wrSmall_any h hf.1 hW hg hb (hB _ _ _ _ rfl).h0 this (by simp at hl; omega))
  | skip =>
    simp only [okF, Bool.and_eq_true, decide_eq_true_eq] at ho
    exact callFunc_of _ (fun _ _ => by kernel_rfl) _ _ _ _ (wrSkip_any hW hg hb ho hl)
  | bytes =>
    have := hby x.n (by simp [wrF])
    exact callFunc_of _ (fun _ _ => by kernel_rfl) _ _ _ _ (wrSmall_any .N (by decide) hW hg hb (hB _ _ _ _ rfl).h0 this (by simp at hl; omega))
  | number => exact callFunc_of _ (fun _ _ => by kernel_rfl) _ _ _ _ (wrImm_any hW hg hb hx hl)
  | sign => exact callFunc_of _ (fun _ _ => by kernel_rfl) _ _ _ _ (wrImm_any hW hg hb hx hl)
end codeW
end Go.Proofs.YtbbfpbmogklomaaGreatDoor
