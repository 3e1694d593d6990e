/- Texts of this claim, one behind the other. No condition but those that each states. -/
import Derived.Test.YtbbfpbmogklomaaGreatDoorZKl
import Derived.Test.YtbbfpbmogklomaaGreatDoorZKe
import Derived.Deep.DeepCutAuto

namespace Go.Proofs.YtbbfpbmogklomaaGreatDoor
open Go.RowKit Go.Bus Go.Bus.cellK Go.Bus.codeK
set_option linter.unusedVariables false
set_option linter.unusedSimpArgs false
namespace codeW
set_option maxRecDepth 100000 in
set_option maxHeartbeats 1000000 in
theorem print_bad {x : Ins} (w : World) (hx : x.Ok) (hr : rightB x = false) : Calls Tryz.prog 9 #[.agg (insC x).toArray] w fun e w' => e = .returned (.tuple #[.string ⟨#[]⟩, .iface 50 (.int .i64 20)]) ∧ Below w.heap.size w w' := by
  have HRT := Lib.hid (fun (W : World) (mv : Value) (hM : MadeE W (Old W.heap.size) mv) => (right_any W hM hx).mono (R' := fun e w' => e = .returned (.bool false) ∧ Below W.heap.size W w') (fun e w' h => ⟨h.1.trans (by rw [hr]), h.2⟩))
  clear hx hr
  obtain ⟨op, a, b, n, imm⟩ := x
  show Calls Tryz.prog 9 #[.agg #[.int .i64 op, .int .i64 a, .int .i64 b, .int .i64 n, .int .u64 imm]] w _
  go_enter Tryz.func9, Tryz.ntmps9
  go_wp2_with (first
    | (go_at_call 25; refine (made_any _).mono ?_; rintro e w1 ⟨mv, rfl, hM, hB⟩; have HM := Lib.hid (hM.keep (F' := Old w1.heap.size) (fun b hb => hb.2) (fun _ _ => rfl)); have HB := Lib.hid hB; have HX : Hid (Has w1 w.heap.size 25 #[.int .i64 op, .int .i64 a, .int .i64 b, .int .i64 n, .int .u64 imm]) := Lib.hid ((Has.new w _ _).below hB (by simp)); have x0 : w1.cell? ⟨w.heap.size, 0, none⟩ = some (.int .i64 op) := HX.out.cell 0; have x1 : w1.cell? ⟨w.heap.size, 1, none⟩ = some (.int .i64 a) := HX.out.cell 1; have x2 : w1.cell? ⟨w.heap.size, 2, none⟩ = some (.int .i64 b) := HX.out.cell 2; have x3 : w1.cell? ⟨w.heap.size, 3, none⟩ = some (.int .i64 n) := HX.out.cell 3; have x4 : w1.cell? ⟨w.heap.size, 4, none⟩ = some (.int .u64 imm) := HX.out.cell 4; have zw := hB.size; clear hM hB)
    | (go_at_call 26; refine (HRT.out _ _ HM.out).mono ?_; rintro e w2 ⟨rfl, hB2⟩; have HB2 := Lib.hid hB2; clear hB2))
  go_ret2
  exact ⟨rfl, (((Below.refl _ _).alloc (Nat.le_refl _) _).trans (HB.out.mono (by simp))).trans (HB2.out.mono (by simp at zw; omega))⟩
end codeW
end Go.Proofs.YtbbfpbmogklomaaGreatDoor

namespace Go.Proofs.YtbbfpbmogklomaaGreatDoor
open Go.RowKit Go.Bus Go.Bus.cellK Go.Bus.codeK
set_option linter.unusedVariables false
set_option linter.unusedSimpArgs false
namespace codeW
def EncPost (p : List Ins) (w : World) (e : Ending) (w' : World) : Prop :=
  match firstBad p with
  | none => ∃ u, e = .returned (.tuple #[u, .nilIface]) ∧ w'.ownsRow w.heap.size 5 1 u (encP p).length ((encP p).map byteV) ∧ Below w.heap.size w w'
  | some i => e = .returned (.tuple #[.slice none 0 0, faultV 20 i]) ∧ Below w.heap.size w w'
theorem bad_at {p : List Ins} {k : Nat} (hk : k < p.length) (h : ∀ x ∈ p.take k, rightB x = true) (hb : rightB p[k] = false) : firstBad p = some k := by
  unfold firstBad
  rw [List.findIdx?_eq_some_iff_getElem]
  refine ⟨hk, by rw [hb]; rfl, fun j hj => ?_⟩
  have := h p[j] (List.mem_iff_getElem.2 ⟨j, by simp; omega, by rw [List.getElem_take]⟩)
  rw [this]; simp
theorem bad_none {p : List Ins} (h : ∀ x ∈ p, rightB x = true) : firstBad p = none := by
  unfold firstBad
  rw [List.findIdx?_eq_none_iff]
  intro x hx
  rw [h x hx]; rfl
/-- Element k of a program's slice. -/
theorem ins_get {w : World} {F : Foot} {A : Option Addr} {n cap k : Nat} {p : List Ins} (h : SlK 5 insE w F (.slice A n cap) p) (hk : k < p.length) :
    ∃ b off, A = some ⟨b, off, none⟩ ∧ F b ∧ w.cell? ⟨b, off + k * 5, none⟩ = some (.int .i64 p[k].op) ∧ w.cell? ⟨b, off + k * 5 + 1, none⟩ = some (.int .i64 p[k].a) ∧ w.cell? ⟨b, off + k * 5 + 2, none⟩ = some (.int .i64 p[k].b) ∧ w.cell? ⟨b, off + k * 5 + 3, none⟩ = some (.int .i64 p[k].n) ∧ w.cell? ⟨b, off + k * 5 + 4, none⟩ = some (.int .u64 p[k].imm) := by
  obtain ⟨b, off, cs, hA, hb, hl, hr, hE⟩ := h.at_ hk
  unfold insE insC at hE
  subst hE
  exact ⟨b, off, hA, hb, hr 0 _ rfl, hr 1 _ rfl, hr 2 _ rfl, hr 3 _ rfl, hr 4 _ rfl⟩
theorem enc_close {w2 W3 : World} {G base R T : Nat} {bv u : Value} {bs : List Int} {y : Ins} {op a b n imm : Int} {cs : Array Value} (hG : G < base) (h : Wr (W3.setCell ⟨G, 0, none⟩ u) G base u bs y ∧ Wro w2 (W3.setCell ⟨G, 0, none⟩ u) G bv u) (hx : Has W3 R T cs) (hne : R ≠ G) :
    Wr ((((((W3.setCell ⟨G, 0, none⟩ u).setCell ⟨G, 1, none⟩ (.int .i64 op)).setCell ⟨G, 2, none⟩ (.int .i64 a)).setCell ⟨G, 3, none⟩ (.int .i64 b)).setCell ⟨G, 4, none⟩ (.int .i64 n)).setCell ⟨G, 5, none⟩ (.int .u64 imm)) G base u bs ⟨op, a, b, n, imm⟩ ∧
    Wro w2 ((((((W3.setCell ⟨G, 0, none⟩ u).setCell ⟨G, 1, none⟩ (.int .i64 op)).setCell ⟨G, 2, none⟩ (.int .i64 a)).setCell ⟨G, 3, none⟩ (.int .i64 b)).setCell ⟨G, 4, none⟩ (.int .i64 n)).setCell ⟨G, 5, none⟩ (.int .u64 imm)) G bv u ∧
    Has ((((((W3.setCell ⟨G, 0, none⟩ u).setCell ⟨G, 1, none⟩ (.int .i64 op)).setCell ⟨G, 2, none⟩ (.int .i64 a)).setCell ⟨G, 3, none⟩ (.int .i64 b)).setCell ⟨G, 4, none⟩ (.int .i64 n)).setCell ⟨G, 5, none⟩ (.int .u64 imm)) R T cs := by
  refine ⟨Wr.setx (x := ⟨op, a, b, n, imm⟩) h.1 hG, Wro.set (Wro.set (Wro.set (Wro.set (Wro.set h.2 1 _) 2 _) 3 _) 4 _) 5 _, ?_⟩
  exact Has.far (Has.far (Has.far (Has.far (Has.far (Has.far hx (p := ⟨G, 0, none⟩) hne _) (p := ⟨G, 1, none⟩) hne _) (p := ⟨G, 2, none⟩) hne _) (p := ⟨G, 3, none⟩) hne _) (p := ⟨G, 4, none⟩) hne _) (p := ⟨G, 5, none⟩) hne _
set_option maxRecDepth 100000 in
set_option maxHeartbeats 12000000 in
theorem encode_any {p : List Ins} {v : Value} (w : World) (h : SlK 5 insE w (Old w.heap.size) v p) (hp : ∀ x ∈ p, x.Ok) (hl : p.length ≤ 16384) : Calls Tryz.prog 10 #[v] w (EncPost p w) := by
  obtain ⟨i0, hi, hz0, hz1, hz2⟩ := info_parts Tryz.infoB
  obtain ⟨A, cap, rfl, hcap, hmax⟩ := h.form
  have HS := Lib.hid h; clear h
  have HP := Lib.hid hp; clear hp
  unfold maxLen at hmax
  have d1 : decide (16384 < (p.length : Int)) = false := by simp; omega
  go_enter Tryz.func10, Tryz.ntmps10
  go_wp2_with (go_at_call 25; refine (made_any _).mono ?_; rintro e w1 ⟨mv, rfl, hM, hB⟩; have HM := Lib.hid (hM.keep (F' := Old w1.heap.size) (fun b hb => hb.2) (fun _ _ => rfl)); have HB := Lib.hid hB; have zw := hB.size; clear hM hB)
  have HW0 : Hid (Wr (w1.alloc (.cells #[.slice none 0 0, .int .i64 0, .int .i64 0, .int .i64 0, .int .i64 0, .int .u64 0] 63)) w1.heap.size (w1.heap.size + 1) (.slice none 0 0) [] (zero 0)) := Lib.hid ⟨Has.new w1 _ _, World.ownsRow_nil _ _ _ _⟩
  have HB0 : Hid (Below w1.heap.size w1 (w1.alloc (.cells #[.slice none 0 0, .int .i64 0, .int .i64 0, .int .i64 0, .int .i64 0, .int .u64 0] 63))) := Lib.hid ((Below.refl _ _).alloc (Nat.le_refl _) _)
  go_loopw [21] (fun i wr => ∃ (k : Nat) (bv : Value) (y : Ins), k ≤ p.length ∧ i = .int .i64 (k : Nat) ∧ Hid (Wr wr w1.heap.size (w1.heap.size + 1) bv (encP (p.take k)) y) ∧ Hid (∀ x ∈ p.take k, rightB x = true) ∧ Hid (Below w1.heap.size w1 wr)) (fun i _ => p.length - (intOf i).toNat)
  case atStart => exact ⟨0, _, _, Nat.zero_le _, rfl, HW0, Lib.hid (by simp), HB0⟩
  case round =>
    obtain ⟨k, bv, y, hk, rfl, HW, HOK, HBr⟩ := hrel
    clear HW0 HB0
    have hzw : w1.heap.size < wr.heap.size := HW.out.1.lt
    have HBw := Lib.hid (HB.out.trans (HBr.out.mono zw))
    by_cases hlt : k < p.length
    · have HSr := Lib.hid (HS.out.below insE_mono HBw.out)
      obtain ⟨xb, off, rfl, hxb, c0, c1, c2, c3, c4⟩ := ins_get HSr.out hlt
      have zx : xb < wr.heap.size := by have : xb < w.heap.size := hxb; omega
      obtain ⟨x, hx⟩ : ∃ x, x = p[k] := ⟨_, rfl⟩
      rw [← hx] at c0 c1 c2 c3 c4
      have HXK : Hid (x.Ok) := Lib.hid (by rw [hx]; exact HP.out _ (List.getElem_mem hlt))
      have HXE := Lib.hid hx; clear hx
      have HMr := Lib.hid (HM.out.keep (w' := wr) (F' := Old wr.heap.size) (fun b hb => Nat.lt_trans hb hzw) (fun b hb => HBr.out.block b hb))
      cases hr : rightB x with
      | false =>
        have HBAD : Hid (firstBad p = some k) := Lib.hid (bad_at hlt HOK.out (by rw [← HXE.out, hr]))
        have HRT := Lib.hid (fun (W : World) (hb : Below wr.heap.size wr W) => (right_any W (HMr.out.old hb) HXK.out).mono (R' := fun e w' => e = .returned (.bool false) ∧ Below W.heap.size W w') (fun e w' h => ⟨h.1.trans (by rw [hr]), h.2⟩))
        clear hr
        obtain ⟨op, a, b, n, imm⟩ := x
        go_wp2_with (first
          | (go_at_call 26; refine (HRT.out _ (by repeat' (first | (with_reducible assumption) | (with_reducible refine Below.setCell ?_ ?_ _) | (with_reducible refine Below.alloc ?_ ?_ _) | (with_reducible refine Below.drew ?_) | (with_reducible refine below_drewN ?_ _) | (with_reducible exact Below.refl _ _) | (show _ ≤ _; (try simp); (try omega); done) | exact Below.refl _ _ | assumption))).mono ?_; rintro e w2 ⟨rfl, hB2⟩; have HB2 := Lib.hid hB2; clear hB2)
          | (go_at_call 29; refine (fault_any _ _ _).mono ?_; rintro e w3 ⟨rfl, rfl⟩))
        go_ret2
        unfold EncPost
        rw [HBAD.out]
        refine ⟨rfl, HBw.out.trans (Below.trans ((Below.refl _ _).alloc (by omega) _) (HB2.out.mono (by simp; omega)))⟩
      | true =>
        have HRT := Lib.hid (fun (W : World) (hb : Below wr.heap.size wr W) => (right_any W (HMr.out.old hb) HXK.out).mono (R' := fun e w' => e = .returned (.bool true) ∧ Below W.heap.size W w') (fun e w' h => ⟨h.1.trans (by rw [hr]), h.2⟩))
        obtain ⟨fs, hfs, hok, _⟩ := right_some hr
        have HFS := Lib.hid hfs
        have HOKF := Lib.hid hok
        have HRB := Lib.hid hr
        have hxop : 0 ≤ x.op ∧ x.op < 20 := by obtain ⟨j, hj, hj2, _⟩ := fields_cases hfs; omega
        have HLN : Hid ((encP (p.take k)).length ≤ 700000) := Lib.hid (by
          have := encP_len (p.take k) (fun z hz => ⟨HP.out z (List.mem_of_mem_take hz), HOK.out z hz⟩)
          rw [List.length_take] at this
          omega)
        clear hr hfs hok
        obtain ⟨op, a, b, n, imm⟩ := x
        obtain ⟨ho0, ho1⟩ := hxop
        simp only at ho0 ho1
        have hwo : IntKind.u8.wrap op = op := by rw [IntKind.wrap_u8]; omega
        have HWO := Lib.hid hwo; clear hwo
        go_upto_region 9 with (go_at_call 26; refine (HRT.out _ (by repeat' (first | (with_reducible assumption) | (with_reducible refine Below.setCell ?_ ?_ _) | (with_reducible refine Below.alloc ?_ ?_ _) | (with_reducible refine Below.drew ?_) | (with_reducible refine below_drewN ?_ _) | (with_reducible exact Below.refl _ _) | (show _ ≤ _; (try simp); (try omega); done) | exact Below.refl _ _ | assumption))).mono ?_; rintro e w2 ⟨rfl, hB2⟩; have hb2 : Below wr.heap.size wr w2 := Below.trans ((Below.refl _ _).alloc (Nat.le_refl _) _) (hB2.mono (by simp)); have hjx : Has w2 wr.heap.size 25 #[.int .i64 op, .int .i64 a, .int .i64 b, .int .i64 n, .int .u64 imm] := (Has.new wr _ _).below hB2 (by simp); have X0 : w2.cell? ⟨wr.heap.size, 0, none⟩ = some (.int .i64 op) := hjx.cell 0; have X1 : w2.cell? ⟨wr.heap.size, 1, none⟩ = some (.int .i64 a) := hjx.cell 1; have X2 : w2.cell? ⟨wr.heap.size, 2, none⟩ = some (.int .i64 b) := hjx.cell 2; have X3 : w2.cell? ⟨wr.heap.size, 3, none⟩ = some (.int .i64 n) := hjx.cell 3; have X4 : w2.cell? ⟨wr.heap.size, 4, none⟩ = some (.int .u64 imm) := hjx.cell 4; have zr : wr.heap.size < w2.heap.size := hjx.lt; have hW2 := HW.out.below hb2; have e0 : w2.cell? ⟨w1.heap.size, 0, none⟩ = some bv := hW2.1.cell 0; have z2 : w1.heap.size < w2.heap.size := Nat.lt_trans hzw zr; have HW2 := Lib.hid hW2; have HJX := Lib.hid hjx; have HB2 := Lib.hid hb2; have HO2 := Lib.hid hW2.2; clear hB2 hb2 hjx hW2)
        go_cut [6] (fun s6 wx => ∃ bv' : Value, s6 = .int .i64 (k : Nat) ∧ Hid (Wr wx w1.heap.size (w1.heap.size + 1) bv' (encP (p.take k) ++ [op]) ⟨op, a, b, n, imm⟩) ∧ Hid (Wro w2 wx w1.heap.size bv bv') ∧ Hid (Has wx wr.heap.size 25 #[.int .i64 op, .int .i64 a, .int .i64 b, .int .i64 n, .int .u64 imm]))
        case first =>
          go_region_law (refine step_append_lies _ (by rfl) (.tmp 37) (.tmp 41) 28 (by rfl) (w1.heap.size + 1) 5 i0 (.int .u8 0) 1 1 Tryz.underlying28 hi hz0 hz1 hz2 (by rfl) (by decide) bv (encP (p.take k)).length ((encP (p.take k)).map byteV) (by rfl) (by exact HO2.out.alloc _) ⟨w2.heap.size, 0, none⟩ 1 1 [.int .u8 (IntKind.u8.wrap op)] (by rfl) (by rfl) (by exact one_new _ _ _) (by intro u hu; simp at hu; subst hu; rfl) (by omega) (by have := HLN.out; unfold maxLen; omega) (by have := HLN.out; omega) (by simp; omega) _ (by rfl) ?_; intro gg c W3 hown1 hg1 hgg hlt1; rw [HWO.out] at hown1; have hp := Wr.push (W0 := (w2.alloc (.cells #[.int .u8 (IntKind.u8.wrap op)] 5)).drew) HW2.out rfl (Nat.lt_succ_self _) (by omega) (by exact (by repeat' (first | (with_reducible assumption) | (with_reducible refine Below.setCell ?_ ?_ _) | (with_reducible refine Below.alloc ?_ ?_ _) | (with_reducible refine Below.drew ?_) | (with_reducible refine below_drewN ?_ _) | (with_reducible exact Below.refl _ _) | (show _ ≤ _; (try simp); (try omega); done) | exact Below.refl _ _ | assumption))) hown1 (by exact hg1) (by exact hgg); have hxx : Has W3 wr.heap.size 25 #[.int .i64 op, .int .i64 a, .int .i64 b, .int .i64 n, .int .u64 imm] := Has.grown (by exact HJX.out.alloc _) hg1 (fun e => own_has_ne HO2.out HJX.out (by decide) e.symm); have q0 : W3.cell? ⟨w1.heap.size, 0, none⟩ = some bv := hp.1.cell 0; have q1 : W3.cell? ⟨w1.heap.size, 1, none⟩ = some (.int .i64 y.op) := hp.1.cell 1; have q2 : W3.cell? ⟨w1.heap.size, 2, none⟩ = some (.int .i64 y.a) := hp.1.cell 2; have q3 : W3.cell? ⟨w1.heap.size, 3, none⟩ = some (.int .i64 y.b) := hp.1.cell 3; have q4 : W3.cell? ⟨w1.heap.size, 4, none⟩ = some (.int .i64 y.n) := hp.1.cell 4; have q5 : W3.cell? ⟨w1.heap.size, 5, none⟩ = some (.int .u64 y.imm) := hp.1.cell 5; have f0 : W3.frozen? ⟨w1.heap.size, 0, none⟩ = false := hp.1.frozen 0; have f1 : W3.frozen? ⟨w1.heap.size, 1, none⟩ = false := hp.1.frozen 1; have f2 : W3.frozen? ⟨w1.heap.size, 2, none⟩ = false := hp.1.frozen 2; have f3 : W3.frozen? ⟨w1.heap.size, 3, none⟩ = false := hp.1.frozen 3; have f4 : W3.frozen? ⟨w1.heap.size, 4, none⟩ = false := hp.1.frozen 4; have f5 : W3.frozen? ⟨w1.heap.size, 5, none⟩ = false := hp.1.frozen 5; have Y0 : W3.cell? ⟨wr.heap.size, 0, none⟩ = some (.int .i64 op) := hxx.cell 0; have Y1 : W3.cell? ⟨wr.heap.size, 1, none⟩ = some (.int .i64 a) := hxx.cell 1; have Y2 : W3.cell? ⟨wr.heap.size, 2, none⟩ = some (.int .i64 b) := hxx.cell 2; have Y3 : W3.cell? ⟨wr.heap.size, 3, none⟩ = some (.int .i64 n) := hxx.cell 3; have Y4 : W3.cell? ⟨wr.heap.size, 4, none⟩ = some (.int .u64 imm) := hxx.cell 4; have HP3 := Lib.hid hp; have HXX := Lib.hid hxx; clear hp hxx hown1 hg1 hgg)
          all_goals
            go_wp2_with fail
            go_meet
            have hz := enc_close (op := op) (a := a) (b := b) (n := n) (imm := imm) (Nat.lt_succ_self _) HP3.out.2 HXX.out (show wr.heap.size ≠ w1.heap.size by omega)
            exact ⟨_, rfl, Lib.hid hz.1, Lib.hid hz.2.1, Lib.hid hz.2.2⟩
        case rest =>
          obtain ⟨bv', rfl, HW3, HR3, HX3⟩ := hcut
          obtain ⟨wo, rfl⟩ : ∃ wo : World, wo = wr := ⟨_, rfl⟩
          have hfl := fields_len HFS.out
          have hsz := HR3.out.size
          have zc : w1.heap.size < wc.heap.size := HW3.out.1.lt
          have zo : wo.heap.size < wc.heap.size := HX3.out.lt
          have hbc : Below w1.heap.size w1 wc := HBr.out.trans ((HB2.out.mono (Nat.le_of_lt hzw)).trans (HR3.out.below (Nat.le_refl _) (by omega) (fun j hj => by have := (HO2.out.lt j hj).1; omega)))
          have HBc := Lib.hid hbc
          have HMc := Lib.hid (HM.out.keep (w' := wc) (F' := Old wc.heap.size) (fun b hb => Nat.lt_trans hb zc) (fun b hb => hbc.block b hb))
          have HOWN : Hid (∀ j, bv'.ownBlock = some j → j < wc.heap.size) := Lib.hid (fun j hj => (HW3.out.2.lt j hj).2)
          have V0 : wc.cell? ⟨wo.heap.size, 0, none⟩ = some (.int .i64 op) := HX3.out.cell 0
          clear hbc X0 X1 X2 X3 X4 e0 c0 c1 c2 c3 c4
          go_wp2_with (go_at_call 27; refine (of_yes _ HMc.out HFS.out).mono ?_; rintro e w4 ⟨v4, rfl, hS4, hB4, hO4⟩; obtain ⟨A4, cap4, rfl, hc4, hm4⟩ := hS4.form; have hW4 := HW3.out.below hB4; have HS4 := Lib.hid (slk_far hS4 hO4 hW4 zc HOWN.out); have z4 : wc.heap.size ≤ w4.heap.size := hB4.size; have HW4 := Lib.hid hW4; have HB4 := Lib.hid hB4; clear hS4 hB4 hO4 hW4 hm4)
          go_loopw [57] (fun i wr => ∃ (j : Nat) (bv2 : Value), j ≤ fs.length ∧ i = .int .i64 (j : Nat) ∧ Hid (Wr wr w1.heap.size (w1.heap.size + 1) bv2 ((encP (p.take k) ++ [op]) ++ (fs.take j).flatMap (wrF · ⟨op, a, b, n, imm⟩)) ⟨op, a, b, n, imm⟩) ∧ Hid (Wro w4 wr w1.heap.size bv' bv2)) (fun i _ => fs.length - (intOf i).toNat)
          case atStart => exact ⟨0, _, Nat.zero_le _, rfl, Lib.hid (by simpa using HW4.out), Lib.hid (Wro.refl _ _ _)⟩
          case round =>
            obtain ⟨j, bv2, hj, rfl, HWj, HRj⟩ := hrel
            have zj : w4.heap.size ≤ wr.heap.size := HRj.out.size
            have HSj := Lib.hid (HS4.out.keep FieldE_mono (fun _ h => h) (far_keep HRj.out))
            by_cases hlt2 : j < fs.length
            · obtain ⟨fb, foff, c0, c1, c2, c3, c4, rfl, hbG, hE, e0, e1, e2, e3, e4⟩ := slk_get HSj.out hlt2
              obtain ⟨f, hfk⟩ : ∃ f, f = fs[j] := ⟨_, rfl⟩
              rw [← hfk] at hE
              have hfm : f ∈ fs := by rw [hfk]; exact List.getElem_mem hlt2
              obtain ⟨fn0, cap0, fn1, cap1, fn2, cap2, fn3, cap3, fn4, cap4', rfl, rfl, rfl, rfl, rfl, hcf0, hcf1, hcf2⟩ := field_shape hE
              have zb : fb < wr.heap.size := Nat.lt_of_lt_of_le hbG.1 zj
              have hbl : Below wr.heap.size wr (wr.alloc (.cells #[.func (.func fn0) #[] cap0, .func (.func fn1) #[] cap1, .func (.func fn2) #[] cap2, .func (.func fn3) #[] cap3, .func (.func fn4) #[] cap4'] 60)) := (Below.refl _ _).alloc (Nat.le_refl _) _
              have hlen : (((encP (p.take k) ++ [op]) ++ (fs.take j).flatMap (wrF · ⟨op, a, b, n, imm⟩)) ++ wrF f ⟨op, a, b, n, imm⟩).length ≤ 1000000 := by
                have h1 := flat_len _ HXK.out (fs.take j) (fun g hg => HOKF.out g (List.mem_of_mem_take hg))
                have h2 := wr_len f _ HXK.out (HOKF.out f hfm)
                have h3 := HLN.out
                have h4 := fields_len HFS.out
                rw [List.length_take] at h1
                rw [List.length_append, List.length_append, List.length_append]
                simp only [List.length_singleton]
                omega
              have HC1 := Lib.hid (Do.calls (wr_do (FieldE_mono _ _ _ _ _ _ (fun _ h => h) (fun b hb => hbl.block b (Nat.lt_of_lt_of_le hb.1 zj)) hE) (fields_ok HFS.out f hfm) (HOKF.out f hfm) HXK.out (HWj.out.below hbl) (Nat.lt_succ_self _) (by have := hbl.size; omega) hlen))
              have HFK := Lib.hid hfk
              have HBL := Lib.hid hbl
              clear hE hfk hfm hbl hbG hlen
              go_wp2_with (refine HC1.out.mono ?_; rintro e w5 ⟨⟨u, rfl⟩, bv3, hW5, hR5⟩; have HW5 := Lib.hid hW5; have HR5 := Lib.hid hR5; clear hW5 hR5)
              go_roundw
              case rel =>
                refine ⟨j + 1, bv3, by omega, by go_num, Lib.hid ?_, Lib.hid (HRj.out.trans ((Wro.of_below HBL.out).trans HR5.out))⟩
                rw [take_flat fs _ hlt2, ← HFK.out, ← List.append_assoc]
                exact HW5.out
              case measure => simp [intOf]; omega
            · obtain rfl : j = fs.length := by omega
              rw [List.take_length] at HWj
              go_wp2
              go_roundw
              case rel =>
                refine ⟨k + 1, bv2, ⟨op, a, b, n, imm⟩, by omega, by go_num, Lib.hid ?_, Lib.hid ?_, Lib.hid ?_⟩
                · rw [encP_take p hlt, ← HXE.out]
                  have e : encI ⟨op, a, b, n, imm⟩ = op :: fs.flatMap (wrF · ⟨op, a, b, n, imm⟩) := by
                    have h1 : fieldsOf op = some fs := HFS.out
                    unfold encI bodyI
                    rw [show (fieldsOf (Ins.op ⟨op, a, b, n, imm⟩)) = some fs from h1]; rfl
                  rw [e, List.append_cons]
                  exact HWj.out
                · intro z hz
                  rw [List.take_succ_eq_append_getElem hlt] at hz
                  rcases List.mem_append.1 hz with h1 | h1
                  · exact HOK.out _ h1
                  · simp at h1; rw [h1, ← HXE.out]; exact HRB.out
                · exact HBc.out.trans ((HB4.out.mono (Nat.le_of_lt zc)).trans (HRj.out.below (Nat.le_refl _) (by omega) (fun i hi => by have := (HW3.out.2.lt i hi).1; omega)))
              case measure => simp [intOf]; omega
    · obtain rfl : k = p.length := by omega
      rw [List.take_length] at HW HOK
      have e0 : wr.cell? ⟨w1.heap.size, 0, none⟩ = some bv := HW.out.1.cell 0
      go_wp2
      go_ret2
      unfold EncPost
      rw [bad_none HOK.out]
      exact ⟨_, rfl, own_base HW.out.2 (by omega), HBw.out⟩
end codeW
end Go.Proofs.YtbbfpbmogklomaaGreatDoor

namespace Go.Proofs.YtbbfpbmogklomaaGreatDoor
open Go.RowKit Go.Bus Go.Bus.cellK Go.Bus.codeK
set_option linter.unusedVariables false
set_option linter.unusedSimpArgs false
namespace codeW
theorem EncPost.yes {p : List Ins} {w : World} {e : Ending} {w' : World} (h : EncPost p w e w') (hb : firstBad p = none) : ∃ u, e = .returned (.tuple #[u, .nilIface]) ∧ w'.ownsRow w.heap.size 5 1 u (encP p).length ((encP p).map byteV) ∧ Below w.heap.size w w' := by
  unfold EncPost at h; rw [hb] at h; exact h
def mv3 : Ins := ⟨2, 1, 15, 0, 0⟩
theorem mv3_right : rightB mv3 = true := by decide
theorem mv3_enc : encP [mv3] = [2, 1, 15] := by decide
theorem mv3_ok : mv3.Ok := ⟨by decide, by decide, by decide, by decide, by decide⟩
set_option maxRecDepth 100000 in
set_option maxHeartbeats 1000000 in
theorem works_any (w : World) : Calls Tryz.prog 11 #[] w fun e w' => e = .returned (.bool true) ∧ Below w.heap.size w w' := by
  have hS : SlK 5 insE (w.alloc (.cells #[.int .i64 2, .int .i64 1, .int .i64 15, .int .i64 0, .int .u64 0] 25)) (Old (w.alloc (.cells #[.int .i64 2, .int .i64 1, .int .i64 15, .int .i64 0, .int .u64 0] 25)).heap.size) (.slice (some ⟨w.heap.size, 0, none⟩) 1 1) [mv3] :=
    SlK.whole (l := [mv3]) (cs := insC mv3) (Has.new w _ _) rfl (by simp) (by simp [maxLen]) fun i x hi => by
      match i, hi with
      | 0, hi => cases hi; rfl
      | n + 1, hi => simp at hi
  have HE := Lib.hid (encode_any _ hS (fun x hx => by simp at hx; subst hx; exact mv3_ok) (by simp))
  clear hS
  go_enter Tryz.func11, Tryz.ntmps11
  go_wp2_with (first
    | (go_at_call 10; refine HE.out.mono ?_; intro e w1 h; obtain ⟨u, rfl, ho, hB⟩ := h.yes (bad_none (fun x hx => by simp at hx; subst hx; exact mv3_right)); rw [mv3_enc] at ho; have HO := Lib.hid ho; have HB : Hid (Below w.heap.size w w1) := Lib.hid (Below.trans (by repeat' (first | (with_reducible assumption) | (with_reducible refine Below.setCell ?_ ?_ _) | (with_reducible refine Below.alloc ?_ ?_ _) | (with_reducible refine Below.drew ?_) | (with_reducible refine below_drewN ?_ _) | (with_reducible exact Below.refl _ _) | (show _ ≤ _; (try simp); (try omega); done) | exact Below.refl _ _ | assumption)) (hB.mono (by (try simp); (try omega)))); clear h ho hB)
    | (go_at_call 12; refine (samebytes_any (l := [2, 1, 15]) (m := [2, 1, 15]) _ (by exact (Sl.of_own HO.out).alloc (Nat.le_refl _) _ |>.more (by simp)) (by exact Sl.of_own (f := byteV) (l := [2, 1, 15]) (own_of_has (base := 0) (size := 1) (n := 3) (Has.new w1 _ _) rfl (Nat.zero_le _) (by simp [maxLen])))).mono ?_; rintro e w3 ⟨rfl, hB3⟩; have HB3 := Lib.hid hB3; clear hB3))
  go_ret
  exact ⟨rfl, HB.out.trans ((((Below.refl _ _).alloc (Nat.le_refl _) _).trans (HB3.out.mono (by simp))).mono HB.out.size)⟩
end codeW
end Go.Proofs.YtbbfpbmogklomaaGreatDoor
