/- Texts of this claim, one behind the other. No condition but those that each states. -/
import Derived.Test.YtbbfpbmogklomaaGreatDoorZCodePc
import Derived.Test.YtbbfpbmogklomaaGreatDoorZCodePg
import Derived.Test.YtbbfpbmogklomaaGreatDoorZKl
import Derived.Test.YtbbfpbmogklomaaGreatDoorZK0
import Derived.RegionTactic
import Derived.StillTailTactics
import Derived.Deep.RegionHeld3
import Derived.Test.YtbbfpbmogklomaaGreatDoorZKm
import Derived.Deep.RegionWith

namespace Go.Bus.codeK
set_option linter.unusedVariables false
theorem setAll_take {fs : List Fk} (x y : Ins) {k : Nat} (h : k < fs.length) : setAll (fs.take (k + 1)) x y = (setAll (fs.take k) x y).put fs[k].wh (x.at_ fs[k].wh) := by
  unfold setAll
  rw [List.take_succ_eq_append_getElem h, List.foldl_append]; rfl
theorem sign_last {op : Int} {fs : List Fk} (x : Ins) (h : fieldsOf op = some fs) {j : Nat} (hj : j < fs.length) (hs : fs[j] = .sign) : (setAll (fs.take j) x (zero op)).imm = 0 := by
  obtain ⟨k, hk, hk20, _⟩ := fields_cases h
  have h2 : fieldsN k = some fs := by
    unfold fieldsOf at h
    rw [if_pos (by omega), hk] at h
    exact h
  have hcs : k = 0 ∨ k = 1 ∨ k = 2 ∨ k = 3 ∨ k = 4 ∨ k = 5 ∨ k = 6 ∨ k = 7 ∨ k = 8 ∨ k = 9 ∨ k = 10 ∨ k = 11 ∨ k = 12 ∨ k = 13 ∨ k = 14 ∨ k = 15 ∨ k = 16 ∨ k = 17 ∨ k = 18 ∨ k = 19 := by omega
  rcases hcs with rfl | rfl | rfl | rfl | rfl | rfl | rfl | rfl | rfl | rfl | rfl | rfl | rfl | rfl | rfl | rfl | rfl | rfl | rfl | rfl <;> (
    simp only [fieldsN, Option.some.injEq] at h2
    subst h2
    simp only [List.length_cons, List.length_nil] at hj
    rcases (by omega : j = 0 ∨ j = 1 ∨ j = 2 ∨ j = 3) with rfl | rfl | rfl | rfl <;> first | omega | rfl | (cases hs; done))
end Go.Bus.codeK
namespace Go.Proofs.YtbbfpbmogklomaaGreatDoor
open Go.RowKit Go.Bus Go.Bus.cellK Go.Bus.codeK Go.Bus.hexK
set_option linter.unusedVariables false
set_option linter.unusedSimpArgs false
namespace codeW
/-- A variable of the library's, which strings.Split reads, holds some int. -/
def Mx (w : World) : Prop := ∃ m : Int, w.cell? ⟨6, 0, none⟩ = some (.int .i64 m)
theorem Mx.at_below {w w' : World} (h : Mx w) (hb : Below w.heap.size w w') : Mx w' := by
  obtain ⟨m, hm⟩ := h
  exact ⟨m, (hb.cell (p := ⟨6, 0, none⟩) (World.block_lt_of_cell? w _ hm)).trans hm⟩
theorem split_line {x : Ins} {fs : List Fk} (hf : fieldsOf x.op = some fs) (hl : (lineI x).length ≤ 132) (w : World) (hM : Mx w) : Calls Tryz.prog 67 #[.string ⟨(lineI x).toArray⟩, .string ⟨#[32]⟩] w fun e w' => e = .returned (.slice (some ⟨w.heap.size, 0, none⟩) (fs.length + 1) (fs.length + 1)) ∧ w'.cell? ⟨w.heap.size, 0, none⟩ = some (.string ⟨(nameN x.op.toNat).toArray⟩) ∧ (∀ j (h : j < fs.length), w'.cell? ⟨w.heap.size, j + 1, none⟩ = some (.string ⟨(txtF fs[j] x).toArray⟩)) ∧ w.heap.size < w'.heap.size ∧ Below w.heap.size w w' := by
  obtain ⟨m, hm⟩ := hM
  have hc := Any.strings_Split { Tryz.laysM146 with } Tryz.laysM146.i9 ⟨(lineI x).toArray⟩ ⟨#[32]⟩ m w (by show (lineI x).toArray.size < _; simp; omega) hm (by decide)
  have hsp := line_split hf rfl
  have hln := Lib.splitB_all ⟨#[32]⟩ (by decide) 0 _ ⟨(lineI x).toArray⟩ rfl
  unfold blankB at hsp
  rw [hsp] at hc hln
  refine Calls.mono (show Calls Tryz.prog 67 #[.string ⟨(lineI x).toArray⟩, .string ⟨#[32]⟩] w _ from hc) ?_
  rintro e w' ⟨rfl, rfl⟩
  rw [← hln]
  rw [List.length_map, List.length_cons, List.length_map]
  refine ⟨rfl, ?_, fun j hj => ?_, by simp, (Below.refl _ _).alloc (Nat.le_refl _) _⟩
  · rw [(Has.new w _ _).cell 0]; rfl
  · rw [(Has.new w _ _).cell (j + 1)]; simp [hj]
set_option maxRecDepth 100000 in
set_option maxHeartbeats 1000000 in
set_option pp.maxSteps 100000 in
theorem parse_good {x : Ins} (w : World) (hx : x.Ok) (hr : rightB x = true) (hl : (lineI x).length ≤ 132) (hT : Tabs w) (hS : Sp w) (hM : Mx w) : Calls Tryz.prog 31 #[.string ⟨(lineI x).toArray⟩] w fun e w' => e = .returned (.tuple #[.agg (insC x).toArray, .nilIface]) ∧ Below w.heap.size w w' := by
  have HRT := Lib.hid (fun (W : World) (mv : Value) (hM : MadeE W (Old W.heap.size) mv) => (show Calls Tryz.prog 26 #[mv, .agg #[.int .i64 x.op, .int .i64 x.a, .int .i64 x.b, .int .i64 x.n, .int .u64 x.imm]] W _ from (right_any W hM hx).mono (R' := fun e w' => e = .returned (.bool true) ∧ Below W.heap.size W w') (fun e w' h => ⟨h.1.trans (by rw [hr]), h.2⟩)))
  obtain ⟨fs, hfs, hok, hset⟩ := right_some hr
  have HFS := Lib.hid hfs
  have HT := Lib.hid hT
  have HS := Lib.hid hS
  have HX := Lib.hid hx
  have HOK := Lib.hid hok
  have HSET := Lib.hid hset
  have hfl := fields_len hfs
  have HFO := Lib.hid (fields_ok hfs)
  have HSP := Lib.hid (fun (W : World) (hb : Below w.heap.size w W) => split_line hfs hl W (hM.at_below hb))
  obtain ⟨k, hk, hk20, _⟩ := fields_cases hfs
  obtain ⟨S, hS2⟩ : ∃ S : ByteArray, S = ⟨(lineI x).toArray⟩ := ⟨_, rfl⟩
  rw [← hS2] at HSP ⊢
  have HTX := Lib.hid (fun j (h : j < fs.length) => (⟨txtF fs[j] x, rfl⟩ : ∃ t, t = txtF fs[j] x))
  have HXE : Hid (∃ x2, x2 = x) := Lib.hid ⟨x, rfl⟩
  have hk20i : (k : Int) < 20 := by omega
  have HKO := Lib.hid (show x.op.toNat = k by omega)
  rw [HKO.out] at HSP
  clear hx hr hfs hok hset hT hS hM hl hS2
  go_enter Tryz.func31, Tryz.ntmps31
  go_wp2_with (first
    | (go_at_call 67; refine (HSP.out _ ((Below.refl _ _).alloc (Nat.le_refl _) _)).mono ?_; rintro e w1 ⟨rfl, hw0, hwj, hz1, hb1⟩; have hj1 : Has w1 w.heap.size 25 #[.int .i64 0, .int .i64 0, .int .i64 0, .int .i64 0, .int .u64 0] := (Has.new w _ _).below hb1 (by simp); have HJ1 := Lib.hid hj1; have HW0 := Lib.hid hw0; have HWJ := Lib.hid hwj; have HB1 : Hid (Below w.heap.size w w1) := Lib.hid (((Below.refl _ _).alloc (Nat.le_refl _) _).trans (hb1.mono (by simp))); clear hb1 hj1 hw0 hwj)
    | (go_at_call 28; refine (fields_any _ (HS.out.at_below HB1.out)).mono ?_; rintro e w2 ⟨rfl, hcl, hz2, hb2⟩; have HCL := Lib.hid hcl; have HB2 := Lib.hid hb2; clear hcl hb2))
  obtain ⟨T0, hT0⟩ : ∃ T0 : ByteArray, T0 = ⟨(nameN k).toArray⟩ := ⟨_, rfl⟩
  have HT0 := Lib.hid hT0
  have hzw : w.heap.size + 1 < w1.heap.size := by simpa using hz1
  have w00 : w2.cell? ⟨w.heap.size + 1, 0, none⟩ = some (.string T0) := (HB2.out.cell (p := ⟨w.heap.size + 1, 0, none⟩) hzw).trans (by have := HW0.out; rw [← hT0] at this; simpa using this)
  have HW2 : Hid (∀ j (h : j < fs.length), w2.cell? ⟨w.heap.size + 1, j + 1, none⟩ = some (.string ⟨(txtF fs[j] x).toArray⟩)) := Lib.hid (fun j h => (HB2.out.cell (p := ⟨w.heap.size + 1, j + 1, none⟩) hzw).trans (by have := HWJ.out j h; simpa using this))
  have hzw2 : w.heap.size + 1 < w2.heap.size := Nat.lt_of_lt_of_le hzw HB2.out.size
  have hzj2 : w.heap.size < w2.heap.size := Nat.lt_trans (Nat.lt_succ_self _) hzw2
  have HBW : Hid (Below w.heap.size w w2) := Lib.hid (HB1.out.trans (HB2.out.mono (by omega)))
  have HJ2 : Hid (Has w2 w.heap.size 25 #[.int .i64 0, .int .i64 0, .int .i64 0, .int .i64 0, .int .u64 0]) := Lib.hid (HJ1.out.below HB2.out (by omega))
  have hd0 : decide ((0 : Nat) < fs.length + 1) = true := by simp
  clear hT0 hz1
  go_loop [17] (fun i => ∃ j : Nat, j ≤ k ∧ i = .int .i64 (j : Nat)) (fun i => 20 - (intOf i).toNat)
  case atStart => exact ⟨0, Nat.zero_le _, rfl⟩
  case round =>
    obtain ⟨j, hj, rfl⟩ := hrel
    have hj20 : (j : Int) < 20 := by omega
    have hj20n : j < 20 := by omega
    obtain ⟨N, hN⟩ : ∃ N : ByteArray, N = ⟨(nameN j).toArray⟩ := ⟨_, rfl⟩
    have n5 : w2.cell? ⟨w1.heap.size, j, none⟩ = some (.string N) := by rw [hN]; exact HCL.out j hj20n
    by_cases hjk : j = k
    · have hee : (N.toList == T0.toList) = true := by rw [hN, HT0.out, hjk]; simp
      clear hN
      subst hjk
      go_wp2_with (first
        | (go_at_call 25; refine (made_any _).mono ?_; rintro e w3 ⟨mv, rfl, hM, hB⟩; have HM := Lib.hid (hM.keep (F' := Old w3.heap.size) (fun b hb => hb.2) (fun _ _ => rfl)); have HB3 := Lib.hid hB; clear hM hB)
        | (go_at_call 27; refine (of_yes _ HM.out (by have := HFS.out; rw [hk] at this; exact this)).mono ?_; rintro e w4 ⟨v4, rfl, hS4, hB4, hO4⟩; obtain ⟨A4, cap4, rfl, hc4, hm4⟩ := hS4.form; have HM4 := Lib.hid (HM.out.old hB4); have HS4 := Lib.hid hS4; have HB4 := Lib.hid (HB3.out.trans (hB4.mono HB3.out.size)); clear hS4 hB4 hO4 hm4))
      have hz4 : w2.heap.size ≤ w4.heap.size := HB4.out.size
      have hzw4 : w.heap.size + 1 < w4.heap.size := Nat.lt_of_lt_of_le hzw2 hz4
      have HW4 : Hid (∀ i (h : i < fs.length), w4.cell? ⟨w.heap.size + 1, i + 1, none⟩ = some (.string ⟨(txtF fs[i] x).toArray⟩)) := Lib.hid (fun i h => (HB4.out.cell (p := ⟨w.heap.size + 1, i + 1, none⟩) hzw2).trans (HW2.out i h))
      have HJ4 := Lib.hid (HJ2.out.below HB4.out hzj2)
      have HBW4 : Hid (Below w.heap.size w w4) := Lib.hid (HBW.out.trans (HB4.out.mono (by omega)))
      have hdl : ((fs.length : Int) == fs.length) = true := by simp
      clear n5 hee w00 hj hj20 hj20n hk20i
      go_loopw [46] (fun iv wr => ∃ i : Nat, i ≤ fs.length ∧ iv = .int .i64 (i : Nat) ∧ Hid (Below w4.heap.size w4 wr) ∧ Hid (Has wr w4.heap.size 25 (insC (setAll (fs.take i) x (zero x.op))).toArray)) (fun iv _ => fs.length - (intOf iv).toNat)
      case atStart => exact ⟨0, Nat.zero_le _, rfl, Lib.hid ((Below.refl _ _).alloc (Nat.le_refl _) _), Lib.hid (by rw [hk]; exact Has.new w4 _ _)⟩
      case round =>
        obtain ⟨i, hi, rfl, HBr, HGr⟩ := hrel
        have zg : w4.heap.size < wr.heap.size := HGr.out.lt
        have HBw := Lib.hid (HBW4.out.trans (HBr.out.mono (by omega)))
        by_cases hlt : i < fs.length
        · obtain ⟨fb, foff, c0, c1, c2, c3, c4, rfl, hbG, hE, g0, g1, g2, g3, g4⟩ := slk_get (HS4.out.below FieldE_mono HBr.out) hlt
          obtain ⟨f, hfk⟩ : ∃ f, f = fs[i] := ⟨_, rfl⟩
          rw [← hfk] at hE
          have hfok : f.ok := HFO.out f (by rw [hfk]; exact List.getElem_mem hlt)
          have hfo : okF f x = true := HOK.out f (by rw [hfk]; exact List.getElem_mem hlt)
          obtain ⟨fn0, cap0, fn1, cap1, fn2, cap2, fn3, cap3, fn4, cap4', rfl, rfl, rfl, rfl, rfl, hcf3, hcf4⟩ := tx_shape hE
          have zb : fb < wr.heap.size := Nat.lt_of_lt_of_le hbG HBr.out.size
          obtain ⟨T, hTe⟩ : ∃ T : ByteArray, T = ⟨(txtF f x).toArray⟩ := ⟨_, rfl⟩
          have hHW : wr.cell? ⟨w.heap.size + 1, i + 1, none⟩ = some (.string T) := (HBr.out.cell (p := ⟨w.heap.size + 1, i + 1, none⟩) hzw4).trans (by rw [hTe, hfk]; exact HW4.out i hlt)
          have zwr : w.heap.size + 1 < wr.heap.size := by omega
          have hsum : IntKind.i64.wrap ((i : Int) + 1) = (i : Int) + 1 := IntWalk.i64_in _ ⟨by omega, by omega⟩
          have htn : ((i : Int) + 1).toNat = i + 1 := by omega
          have hlt0 : (0 : Int) ≤ (i : Int) + 1 := by omega
          have hlt1 : (i : Int) + 1 < fs.length + 1 := by omega
          have hlt1n : i + 1 < fs.length + 1 := by omega
          have HSA := Lib.hid (setAll_take (fs := fs) x (zero x.op) hlt)
          rw [← hfk] at HSA
          have HHY : Hid (f = .sign → (setAll (fs.take i) x (zero x.op)).imm = 0) := Lib.hid (fun e => sign_last x HFS.out hlt (hfk.symm.trans e))
          generalize setAll (fs.take i) x (zero x.op) = y at *
          have HFE := Lib.hid hE
          have HFK := Lib.hid hfok
          have HFOK := Lib.hid hfo
          have HTE := Lib.hid hTe
          clear hE hfok hfo hTe hfk hbG
          go_wp2_with fail
          obtain ⟨W5, hW5⟩ : ∃ W5, W5 = wr.alloc (.cells #[.func (.func fn0) #[] cap0, .func (.func fn1) #[] cap1, .func (.func fn2) #[] cap2, .func (.func fn3) #[] cap3, .func (.func fn4) #[] cap4'] 60) := ⟨_, rfl⟩
          rw [← hW5]
          have hB5 : Below wr.heap.size wr W5 := by rw [hW5]; exact (Below.refl _ _).alloc (Nat.le_refl _) _
          have k4 : W5.cell? ⟨wr.heap.size, 4, none⟩ = some (.func (.func fn4) #[] cap4') := by rw [hW5]; exact (Has.new wr _ _).cell 4
          have kT : W5.cell? ⟨w.heap.size + 1, i + 1, none⟩ = some (.string T) := (hB5.cell (p := ⟨w.heap.size + 1, i + 1, none⟩) zwr).trans hHW
          have z5 : wr.heap.size < W5.heap.size := by rw [hW5]; simp
          have zw5 : w.heap.size + 1 < W5.heap.size := by omega
          have hG5 : Has W5 w4.heap.size 25 (insC y).toArray := HGr.out.below hB5 zg
          have HC := Lib.hid (Do.calls (pa_do (x := x) (y := y) (w := W5.drew) (g := w4.heap.size) (HFE.out.below ((hB5.drew).mono HBr.out.size)) HFK.out HFOK.out HX.out (Nat.lt_irrefl _) (fun W hW => HT.out.at_below (HBw.out.trans (((hB5.drew).mono (by omega)).trans ((hW.below).mono (by omega))))) HHY.out hG5.drew))
          rw [← HTE.out] at HC
          clear hW5
          go_still_tail 7, (by kernel_rfl)
          change wpList _ _ _ _ _ W5.drew
          go_wp2_with (refine HC.out.mono ?_; rintro e w6 ⟨rfl, hO6, hH6⟩; have HO6 := Lib.hid hO6; have HH6 := Lib.hid hH6; clear hO6 hH6)
          go_roundw
          case rel => exact ⟨i + 1, by omega, by go_num, Lib.hid (HBr.out.trans (((hB5.drew).mono (Nat.le_of_lt zg)).trans HO6.out.below)), Lib.hid (by rw [HSA.out]; exact HH6.out)⟩
          case measure => simp [intOf]; omega
        · obtain rfl : i = fs.length := by omega
          have hft : fs.take fs.length = fs := List.take_of_length_le (Nat.le_refl _)
          have hGx : Has wr w4.heap.size 25 (insC x).toArray := by have := HGr.out; rw [hft, HSET.out] at this; exact this
          have x0 : wr.cell? ⟨w4.heap.size, 0, none⟩ = some (.int .i64 x.op) := hGx.cell 0
          have x1 : wr.cell? ⟨w4.heap.size, 1, none⟩ = some (.int .i64 x.a) := hGx.cell 1
          have x2 : wr.cell? ⟨w4.heap.size, 2, none⟩ = some (.int .i64 x.b) := hGx.cell 2
          have x3 : wr.cell? ⟨w4.heap.size, 3, none⟩ = some (.int .i64 x.n) := hGx.cell 3
          have x4 : wr.cell? ⟨w4.heap.size, 4, none⟩ = some (.int .u64 x.imm) := hGx.cell 4
          have HGX := Lib.hid hGx
          have HMr := Lib.hid (HM4.out.old HBr.out)
          have HJr := Lib.hid (HJ4.out.below HBr.out (by omega))
          clear hGx hft hk
          go_wp2_with (go_at_call 26; refine (HRT.out _ _ HMr.out).mono ?_; rintro e w6 ⟨rfl, hB6⟩; have hg6 := HGX.out.below hB6 zg; have hj6 := HJr.out.below hB6 (by omega); have y0 : w6.cell? ⟨w4.heap.size, 0, none⟩ = some (.int .i64 x.op) := hg6.cell 0; have y1 : w6.cell? ⟨w4.heap.size, 1, none⟩ = some (.int .i64 x.a) := hg6.cell 1; have y2 : w6.cell? ⟨w4.heap.size, 2, none⟩ = some (.int .i64 x.b) := hg6.cell 2; have y3 : w6.cell? ⟨w4.heap.size, 3, none⟩ = some (.int .i64 x.n) := hg6.cell 3; have y4 : w6.cell? ⟨w4.heap.size, 4, none⟩ = some (.int .u64 x.imm) := hg6.cell 4; have p0 : w6.cell? ⟨w.heap.size, 0, none⟩ = some (.int .i64 0) := hj6.cell 0; have p1 : w6.cell? ⟨w.heap.size, 1, none⟩ = some (.int .i64 0) := hj6.cell 1; have p2 : w6.cell? ⟨w.heap.size, 2, none⟩ = some (.int .i64 0) := hj6.cell 2; have p3 : w6.cell? ⟨w.heap.size, 3, none⟩ = some (.int .i64 0) := hj6.cell 3; have p4 : w6.cell? ⟨w.heap.size, 4, none⟩ = some (.int .u64 0) := hj6.cell 4; have q0 := hj6.frozen 0; have q1 := hj6.frozen 1; have q2 := hj6.frozen 2; have q3 := hj6.frozen 3; have q4 := hj6.frozen 4; have z6 : w.heap.size < w6.heap.size := hj6.lt; have zg6 : w4.heap.size < w6.heap.size := hg6.lt; have HJ6 := Lib.hid hj6; have HB6 : Hid (Below w.heap.size w w6) := Lib.hid (HBw.out.trans (hB6.mono HBw.out.size)); clear hB6 hg6 hj6)
          refine bodyPost_ret (results_block2 (g := w.heap.size) (T := 25) rfl rfl (by exact ((((HJ6.out.set 0 _).set 1 _).set 2 _).set 3 _).set 4 _) rfl Tryz.underlying25 rfl (by kernel_rfl)) rfl ?_
          exact ⟨rfl, by have := HB6.out; exact (by repeat' (first | (with_reducible assumption) | (with_reducible refine Below.setCell ?_ ?_ _) | (with_reducible refine Below.alloc ?_ ?_ _) | (with_reducible refine Below.drew ?_) | (with_reducible refine below_drewN ?_ _) | (with_reducible exact Below.refl _ _) | (show _ ≤ _; (try simp); (try omega); done) | exact Below.refl _ _ | assumption))⟩
    · have hee : (N.toList == T0.toList) = false := by
        rw [hN, HT0.out]
        have hne : nameN j ≠ nameN k := fun e => hjk (name_inj hj20n hk20 e)
        simpa using hne
      clear hN
      go_wp2
      go_round
      case rel => exact ⟨j + 1, by omega, by go_num⟩
      case measure => simp [intOf]; omega
end codeW
end Go.Proofs.YtbbfpbmogklomaaGreatDoor

namespace Go.Proofs.YtbbfpbmogklomaaGreatDoor
open Go.RowKit Go.Bus Go.Bus.cellK Go.Bus.codeK Go.Bus.hexK
set_option linter.unusedVariables false
set_option linter.unusedSimpArgs false
namespace codeW
theorem one_ins {W : World} {b : Nat} {x : Ins} (h : Has W b 25 (insC x).toArray) : SlK 5 insE W (Old W.heap.size) (.slice (some ⟨b, 0, none⟩) 1 1) [x] :=
  SlK.whole (l := [x]) (cs := insC x) h rfl h.lt (by simp [maxLen]) fun i y hi => by
    match i, hi with
    | 0, hi => cases hi; rfl
    | n + 1, hi => simp at hi
theorem enc_one_good {W : World} {b : Nat} {x : Ins} (hx : x.Ok) (hr : rightB x = true) (h : Has W b 25 (insC x).toArray) : Calls Tryz.prog 10 #[.slice (some ⟨b, 0, none⟩) 1 1] W fun e w' => ∃ u, e = .returned (.tuple #[u, .nilIface]) ∧ Below W.heap.size W w' := by
  refine (encode_any W (one_ins h) (fun y hy => by simp at hy; subst hy; exact hx) (by simp)).mono fun e w' he => ?_
  obtain ⟨u, rfl, _, hB⟩ := he.yes (bad_none (fun y hy => by simp at hy; subst hy; exact hr))
  exact ⟨u, rfl, hB⟩
theorem enc_one_bad {W : World} {b : Nat} {x : Ins} (hx : x.Ok) (hr : rightB x = false) (h : Has W b 25 (insC x).toArray) : Calls Tryz.prog 10 #[.slice (some ⟨b, 0, none⟩) 1 1] W fun e w' => e = .returned (.tuple #[.slice none 0 0, faultV 20 0]) ∧ Below W.heap.size W w' := by
  refine (encode_any W (one_ins h) (fun y hy => by simp at hy; subst hy; exact hx) (by simp)).mono fun e w' he => ?_
  have hb : firstBad [x] = some 0 := bad_at (p := [x]) (k := 0) (by simp) (fun y hy => by simp at hy) (by simpa using hr)
  unfold EncPost at he
  rw [hb] at he
  exact he
theorem line_len {x : Ins} (hx : x.Ok) (hr : rightB x = true) : (lineI x).length ≤ 132 := by
  obtain ⟨fs, hfs, hok, _⟩ := right_some hr
  have hfl := fields_len hfs
  obtain ⟨k, hk, hk20, _⟩ := fields_cases hfs
  have hnl : (nameN k).length ≤ 8 := by
    have key : ∀ k : Fin 20, (nameN k.val).length ≤ 8 := by decide
    exact key ⟨k, hk20⟩
  have key : ∀ gs : List Fk, (∀ g ∈ gs, g.ok) → (lineF gs x).length ≤ 31 * gs.length := by
    intro gs
    induction gs with
    | nil => intro _; simp [lineF]
    | cons g gs ih =>
      intro hg
      have h1 := txt_len (hg g (List.mem_cons_self ..)) hx
      have h2 := ih (fun f hf => hg f (List.mem_cons_of_mem _ hf))
      unfold lineF at h2 ⊢
      rw [List.flatMap_cons, List.length_append, List.length_cons, List.length_cons]
      omega
  have h1 := key fs (fields_ok hfs)
  have h2 : lineI x = nameN k ++ lineF fs x := by unfold lineI; rw [hfs, hk]; rfl
  rw [h2, List.length_append]; omega
set_option maxRecDepth 100000 in
set_option maxHeartbeats 1000000 in
theorem lines_w {x : Ins} (w : World) (S : ByteArray)
    (hD : ∀ W, Below w.heap.size w W → Calls Tryz.prog 9 #[.agg (insC x).toArray] W fun e w' => e = .returned (.tuple #[.string S, .nilIface]) ∧ Below W.heap.size W w')
    (hE : ∀ W b, Has W b 25 (insC x).toArray → Calls Tryz.prog 10 #[.slice (some ⟨b, 0, none⟩) 1 1] W fun e w' => ∃ u, e = .returned (.tuple #[u, .nilIface]) ∧ Below W.heap.size W w')
    (hP : ∀ W, Below w.heap.size w W → Calls Tryz.prog 31 #[.string S] W fun e w' => e = .returned (.tuple #[.agg (insC x).toArray, .nilIface]) ∧ Below W.heap.size W w') :
    Calls Tryz.prog 14 #[.agg (insC x).toArray] w fun e w' => e = .returned (.bool true) ∧ Below w.heap.size w w' := by
  have HD := Lib.hid hD
  have HE := Lib.hid hE
  have HP := Lib.hid hP
  clear hD hE hP
  have HQ : ∀ W, (binOp .eql 25 (.agg (insC x).toArray) (.agg (insC x).toArray)).run Tryz.prog W = .ok (.bool true) W := fun W => by rw [eql_ins, decide_eq_true rfl]
  obtain ⟨op, a, b, n, imm⟩ := x
  unfold insC at HD HE HP HQ ⊢
  have HJ0 := Lib.hid (Has.new w 25 #[.int .i64 op, .int .i64 a, .int .i64 b, .int .i64 n, .int .u64 imm])
  go_enter Tryz.func14, Tryz.ntmps14
  go_wp2_with (first
    | (go_at_call 9; refine (HD.out _ ((Below.refl _ _).alloc (Nat.le_refl _) _)).mono ?_; rintro e w1 ⟨rfl, hb⟩; have hj := HJ0.out.below hb HJ0.out.lt; have w10 : w1.cell? ⟨w.heap.size, 0, none⟩ = some (.int .i64 op) := hj.cell 0; have w11 : w1.cell? ⟨w.heap.size, 1, none⟩ = some (.int .i64 a) := hj.cell 1; have w12 : w1.cell? ⟨w.heap.size, 2, none⟩ = some (.int .i64 b) := hj.cell 2; have w13 : w1.cell? ⟨w.heap.size, 3, none⟩ = some (.int .i64 n) := hj.cell 3; have w14 : w1.cell? ⟨w.heap.size, 4, none⟩ = some (.int .u64 imm) := hj.cell 4; have z1 : w.heap.size < w1.heap.size := hj.lt; have HJ := Lib.hid hj; have HB : Hid (Below w.heap.size w w1) := Lib.hid (((Below.refl _ _).alloc (Nat.le_refl _) _).trans (hb.mono (by simp))); clear hb hj)
    | (go_at_call 10; refine (HE.out _ _ (by exact Has.new w1 _ _)).mono ?_; rintro e w2 ⟨u, rfl, hb⟩; have hB2 : Below w1.heap.size w1 w2 := Below.trans ((Below.refl _ _).alloc (Nat.le_refl _) _) (hb.mono (by simp)); have HJ2 := Lib.hid (HJ.out.below hB2 z1); have HB2 := Lib.hid (HB.out.trans (hB2.mono HB.out.size)); clear hb hB2))
  go_region_held3 (fun W => Below w2.heap.size w2 W)
    (first | exact Below.drew (Below.refl _ _) | assumption)
    (first | (go_at_call 11; refine (works_any _).mono ?_; rintro e w3 ⟨rfl, hb⟩; have hB3 : Below w2.heap.size w2 w3 := Below.trans ‹Below w2.heap.size w2 _› (hb.mono (Below.size ‹Below w2.heap.size w2 _›))))
  have HJ3 := Lib.hid (HJ2.out.below hB3 HJ2.out.lt)
  have HB3 := Lib.hid (HB2.out.trans (hB3.mono HB2.out.size))
  clear hB3
  all_goals
    have v0 : w3.cell? ⟨w.heap.size, 0, none⟩ = some (.int .i64 op) := HJ3.out.cell 0
    go_wp2_with (first
      | (go_at_call 31; refine (HP.out _ HB3.out).mono ?_; rintro e w4 ⟨rfl, hb⟩; have hj := HJ3.out.below hb HJ3.out.lt; have w40 : w4.cell? ⟨w.heap.size, 0, none⟩ = some (.int .i64 op) := hj.cell 0; have w41 : w4.cell? ⟨w.heap.size, 1, none⟩ = some (.int .i64 a) := hj.cell 1; have w42 : w4.cell? ⟨w.heap.size, 2, none⟩ = some (.int .i64 b) := hj.cell 2; have w43 : w4.cell? ⟨w.heap.size, 3, none⟩ = some (.int .i64 n) := hj.cell 3; have w44 : w4.cell? ⟨w.heap.size, 4, none⟩ = some (.int .u64 imm) := hj.cell 4; have z4 : w.heap.size < w4.heap.size := hj.lt; have HB4 := Lib.hid (HB3.out.trans (hb.mono HB3.out.size)); clear hb hj)
      | simp only [HQ])
    go_ret
    exact ⟨rfl, by have := HB4.out; exact (by repeat' (first | (with_reducible assumption) | (with_reducible refine Below.setCell ?_ ?_ _) | (with_reducible refine Below.alloc ?_ ?_ _) | (with_reducible refine Below.drew ?_) | (with_reducible refine below_drewN ?_ _) | (with_reducible exact Below.refl _ _) | (show _ ≤ _; (try simp); (try omega); done) | exact Below.refl _ _ | assumption))⟩
set_option maxRecDepth 100000 in
set_option maxHeartbeats 1000000 in
theorem lines_bad {x : Ins} (w : World) (hx : x.Ok) (hr : rightB x = false) :
    Calls Tryz.prog 14 #[.agg (insC x).toArray] w fun e w' => e = .returned (.bool true) ∧ Below w.heap.size w w' := by
  have HD := Lib.hid (fun (W : World) => print_bad W hx hr)
  have HE := Lib.hid (fun (W : World) (b : Nat) (h : Has W b 25 (insC x).toArray) => enc_one_bad hx hr h)
  clear hx hr
  obtain ⟨op, a, b, n, imm⟩ := x
  unfold insC at HD HE ⊢
  unfold faultV at HE
  have HJ0 := Lib.hid (Has.new w 25 #[.int .i64 op, .int .i64 a, .int .i64 b, .int .i64 n, .int .u64 imm])
  go_enter Tryz.func14, Tryz.ntmps14
  go_wp2_with (first
    | (go_at_call 9; refine (HD.out _).mono ?_; rintro e w1 ⟨rfl, hb⟩; have hj := HJ0.out.below hb HJ0.out.lt; have w10 : w1.cell? ⟨w.heap.size, 0, none⟩ = some (.int .i64 op) := hj.cell 0; have w11 : w1.cell? ⟨w.heap.size, 1, none⟩ = some (.int .i64 a) := hj.cell 1; have w12 : w1.cell? ⟨w.heap.size, 2, none⟩ = some (.int .i64 b) := hj.cell 2; have w13 : w1.cell? ⟨w.heap.size, 3, none⟩ = some (.int .i64 n) := hj.cell 3; have w14 : w1.cell? ⟨w.heap.size, 4, none⟩ = some (.int .u64 imm) := hj.cell 4; have z1 : w.heap.size < w1.heap.size := hj.lt; have HB : Hid (Below w.heap.size w w1) := Lib.hid (((Below.refl _ _).alloc (Nat.le_refl _) _).trans (hb.mono (by simp))); clear hb hj)
    | (go_at_call 10; refine (HE.out _ _ (by exact Has.new w1 _ _)).mono ?_; rintro e w2 ⟨rfl, hb⟩; have hB2 : Below w1.heap.size w1 w2 := Below.trans ((Below.refl _ _).alloc (Nat.le_refl _) _) (hb.mono (by simp)); have HB2 := Lib.hid (HB.out.trans (hB2.mono HB.out.size)); clear hb hB2))
  go_region_held3 (fun W => Below w2.heap.size w2 W)
    (first | exact Below.drew (Below.refl _ _) | assumption)
    (first | (go_at_call 11; refine (works_any _).mono ?_; rintro e w3 ⟨rfl, hb⟩; have hB3 : Below w2.heap.size w2 w3 := Below.trans ‹Below w2.heap.size w2 _› (hb.mono (Below.size ‹Below w2.heap.size w2 _›))))
  have HB3 := Lib.hid (HB2.out.trans (hB3.mono HB2.out.size))
  clear hB3
  all_goals
    go_wp2
    go_ret
    exact ⟨rfl, HB3.out⟩
theorem lines_any {x : Ins} (w : World) (hx : x.Ok) (hT : Tabs w) (hS : Sp w) (hM : Mx w) : Calls Tryz.prog 14 #[.agg (insC x).toArray] w fun e w' => e = .returned (.bool true) ∧ Below w.heap.size w w' := by
  cases hr : rightB x with
  | true => exact lines_w w _ (fun W hb => print_good W hx hr (hT.at_below hb) (hS.at_below hb)) (fun W b h => enc_one_good hx hr h) (fun W hb => parse_good W hx hr (line_len hx hr) (hT.at_below hb) (hS.at_below hb) (hM.at_below hb))
  | false => exact lines_bad w hx hr
end codeW
end Go.Proofs.YtbbfpbmogklomaaGreatDoor
