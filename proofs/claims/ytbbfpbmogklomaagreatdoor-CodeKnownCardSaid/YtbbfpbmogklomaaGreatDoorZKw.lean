/- Texts of this claim, one behind the other. No condition but those that each states. -/
import Derived.Test.YtbbfpbmogklomaaGreatDoorZKu
import Derived.Test.YtbbfpbmogklomaaGreatDoorZKv
import Derived.Test.YtbbfpbmogklomaaGreatDoorZKd
import Derived.RegionTactic
import Derived.StillTailTactics
import Derived.Test.YtbbfpbmogklomaaGreatDoorZKm

namespace Go.Proofs.YtbbfpbmogklomaaGreatDoor
open Go.RowKit Go.Bus Go.Bus.cellK Go.Bus.codeK Go.Bus.hexK
set_option linter.unusedVariables false
set_option linter.unusedSimpArgs false
namespace codeW
def zeroV : Value := .agg #[.int .i64 0, .int .i64 0, .int .i64 0, .int .i64 0, .int .u64 0]
/-- Which error a text bears that is no line. -/
def noOf (a : List UInt8) (no : Int) : Prop := (no = 4 ∧ ∃ k, k < 20 ∧ a = nameN k) ∨ (no = 20 ∧ ∀ k, k < 20 → a ≠ nameN k)
def ParG (S : List UInt8) (w : World) (e : Ending) (w' : World) : Prop := Below w.heap.size w w' ∧ ((∃ y : Ins, y.Ok ∧ rightB y = true ∧ lineI y = S ∧ e = .returned (.tuple #[.agg (insC y).toArray, .nilIface])) ∨ ∃ no : Int, e = .returned (.tuple #[zeroV, .iface 50 (.int .i64 no)]) ∧ ∃ a l, Lib.splitK [32] 0 (Lib.count S [32]) S = a :: l ∧ noOf a no)
theorem ParG.bad {S a : List UInt8} {l : List (List UInt8)} {w w' : World} {no : Int} (hB : Below w.heap.size w w') (hs : Lib.splitK [32] 0 (Lib.count S [32]) S = a :: l) (hn : noOf a no) : ParG S w (.returned (.tuple #[.agg #[.int .i64 0, .int .i64 0, .int .i64 0, .int .i64 0, .int .u64 0], .iface 50 (.int .i64 no)])) w' := ⟨hB, .inr ⟨no, rfl, a, l, hs, hn⟩⟩
theorem split_gen {S a : List UInt8} {l : List (List UInt8)} (hs : Lib.splitK [32] 0 (Lib.count S [32]) S = a :: l) (hl : S.length ≤ 2097152) (w : World) (hM : Mx w) : Calls Tryz.prog 67 #[.string ⟨S.toArray⟩, .string ⟨#[32]⟩] w fun e w' => e = .returned (.slice (some ⟨w.heap.size, 0, none⟩) (l.length + 1) (l.length + 1)) ∧ w'.cell? ⟨w.heap.size, 0, none⟩ = some (.string ⟨a.toArray⟩) ∧ (∀ j (h : j < l.length), w'.cell? ⟨w.heap.size, j + 1, none⟩ = some (.string ⟨l[j].toArray⟩)) ∧ w.heap.size < w'.heap.size ∧ Below w.heap.size w w' := by
  obtain ⟨m, hm⟩ := hM
  have hc := Any.strings_Split { Tryz.laysM146 with } Tryz.laysM146.i9 ⟨S.toArray⟩ ⟨#[32]⟩ m w (by show S.toArray.size < _; simp; omega) hm (by decide)
  have hsp := splitB_any hs
  have hln := Lib.splitB_all ⟨#[32]⟩ (by decide) 0 _ ⟨S.toArray⟩ rfl
  rw [hsp] at hc hln
  refine Calls.mono (show Calls Tryz.prog 67 #[.string ⟨S.toArray⟩, .string ⟨#[32]⟩] w _ from hc) ?_
  rintro e w' ⟨rfl, rfl⟩
  rw [← hln]
  rw [List.length_map, List.length_cons]
  refine ⟨rfl, ?_, fun j hj => ?_, by simp, (Below.refl _ _).alloc (Nat.le_refl _) _⟩
  · rw [(Has.new w _ _).cell 0]; rfl
  · rw [(Has.new w _ _).cell (j + 1)]; simp [hj]
theorem fieldsOf_some {j : Nat} (h : j < 20) : ∃ fs, fieldsOf (j : Int) = some fs := by
  have key : ∀ j : Fin 20, (fieldsN j.val).isSome = true := by decide
  have h1 := key ⟨j, h⟩
  have h2 : fieldsOf (j : Int) = fieldsN j := by unfold fieldsOf; rw [if_pos (by omega)]; rfl
  rw [h2]
  exact Option.isSome_iff_exists.1 h1
theorem put_okW {y : Ins} (hy : y.Ok) {h : Wh} {v : Int} (hv : wok h v) : (y.put h v).Ok := by
  cases h with
  | A => exact ⟨hy.op, hv, hy.b, hy.n, hy.imm⟩
  | B => exact ⟨hy.op, hy.a, hv, hy.n, hy.imm⟩
  | N => exact ⟨hy.op, hy.a, hy.b, hv, hy.imm⟩
  | I => exact ⟨hy.op, hy.a, hy.b, hy.n, hv⟩
theorem put_op (y : Ins) (h : Wh) (v : Int) : (y.put h v).op = y.op := by cases h <;> rfl
/-- The fields read so far. -/
def Got1 (fs : List Fk) (l : List (List UInt8)) (i : Nat) (k : Int) (y : Ins) : Prop := y.op = k ∧ y.Ok ∧ (∀ j (h : j < fs.length) (h2 : j < l.length), j < i → l[j] = txtF fs[j] y) ∧ ((∀ j (h : j < fs.length), j < i → fs[j].wh ≠ .I) → y.imm = 0)
theorem Got1.start {fs : List Fk} {l : List (List UInt8)} {k : Nat} (hk : k < 20) : Got1 fs l 0 k (zero k) :=
  ⟨rfl, ⟨⟨by show (-9223372036854775808 : Int) ≤ (k : Int); omega, by show (k : Int) ≤ 9223372036854775807; omega⟩, (by show (-9223372036854775808 : Int) ≤ 0 ∧ (0 : Int) ≤ 9223372036854775807; decide), (by show (-9223372036854775808 : Int) ≤ 0 ∧ (0 : Int) ≤ 9223372036854775807; decide), (by show (-9223372036854775808 : Int) ≤ 0 ∧ (0 : Int) ≤ 9223372036854775807; decide), (by show (0 : Int) ≤ 0 ∧ (0 : Int) < 18446744073709551616; decide)⟩, fun j _ _ h => absurd h (Nat.not_lt_zero _), fun _ => rfl⟩
theorem Got1.step {op k : Int} {fs : List Fk} {l : List (List UInt8)} {i : Nat} {y : Ins} (hf : fieldsOf op = some fs) (h : Got1 fs l i k y) (hi : i < fs.length) (hi2 : i < l.length) {v : Int} (hv : wok fs[i].wh v) (hS : l[i] = ptx fs[i] v) : Got1 fs l (i + 1) k (y.put fs[i].wh v) := by
  obtain ⟨h1, h2, h3, h4⟩ := h
  refine ⟨by rw [put_op]; exact h1, put_okW h2 hv, fun j hj hj2 hji => ?_, fun hno => ?_⟩
  · rw [txt_ptx]
    by_cases e : j = i
    · subst e; rw [at_put]; exact hS
    · rw [at_put_ne _ _ (wh_ne hf hj hi e), ← txt_ptx]; exact h3 j hj hj2 (by omega)
  · have h5 := h4 (fun j hj hji => hno j hj (by omega))
    have h6 := hno i hi (by omega)
    revert h6
    generalize fs[i].wh = u
    intro h6
    cases u with
    | A => exact h5
    | B => exact h5
    | N => exact h5
    | I => exact absurd rfl h6
theorem Got1.sign {op k : Int} {fs : List Fk} {l : List (List UInt8)} {i : Nat} {y : Ins} (hf : fieldsOf op = some fs) (h : Got1 fs l i k y) (hi : i < fs.length) (hs : fs[i] = .sign) : y.imm = 0 :=
  h.2.2.2 fun j hj hji e => wh_ne hf hj hi (by omega) (by rw [e, hs]; rfl)
theorem Got1.line {S a : List UInt8} {l : List (List UInt8)} {fs : List Fk} {k : Nat} {y : Ins} (hS : S = a ++ l.flatMap (32 :: ·)) (ha : a = nameN k) (hf : fieldsOf (k : Int) = some fs) (hl : l.length = fs.length) (h : Got1 fs l fs.length (k : Int) y) : lineI y = S := by
  obtain ⟨h1, _, h3, _⟩ := h
  have e : l = fs.map (txtF · y) := by
    apply List.ext_getElem (by simp [hl])
    intro j hj hj2
    rw [h3 j (by simpa using hj2) hj (by simpa using hj2)]
    simp
  unfold lineI lineF
  rw [h1, hf, hS, ha, e, List.flatMap_map]
  rfl
set_option maxRecDepth 100000 in
set_option maxHeartbeats 1000000 in
theorem parse_gen {S : List UInt8} (w : World) (hl : S.length ≤ 2097152) (hT : Tabs w) (hS : Sp w) (hM : Mx w) (hE : Errs w) : Calls Tryz.prog 31 #[.string ⟨S.toArray⟩] w (ParG S w) := by
  obtain ⟨a, l, hsp, hjoin, hal, hll, hlen⟩ := split_any _ S (Nat.le_refl _)
  have HSP := Lib.hid hsp
  have HJN := Lib.hid hjoin
  have HT := Lib.hid hT
  have HS := Lib.hid hS
  have HER := Lib.hid hE
  have HLL : Hid (∀ x ∈ l, x.length ≤ 2097152) := Lib.hid (fun x hx => Nat.le_trans (hll x hx) hl)
  have HSPL := Lib.hid (fun (W : World) (hb : Below w.heap.size w W) => split_gen hsp hl W (hM.at_below hb))
  obtain ⟨SB, hSB⟩ : ∃ SB : ByteArray, SB = ⟨S.toArray⟩ := ⟨_, rfl⟩
  rw [← hSB] at HSPL ⊢
  have hlen2 : l.length ≤ 2097152 := Nat.le_trans hlen hl
  clear hT hS hM hE hl hSB hsp hjoin hal hll hlen
  go_enter Tryz.func31, Tryz.ntmps31
  go_wp2_with (first
    | (go_at_call 67; refine (HSPL.out _ ((Below.refl _ _).alloc (Nat.le_refl _) _)).mono ?_; rintro e w1 ⟨rfl, hw0, hwj, hz1, hb1⟩; have hj1 : Has w1 w.heap.size 25 #[.int .i64 0, .int .i64 0, .int .i64 0, .int .i64 0, .int .u64 0] := (Has.new w _ _).below hb1 (by simp); have HJ1 := Lib.hid hj1; have HW0 := Lib.hid hw0; have HWJ := Lib.hid hwj; have HB1 : Hid (Below w.heap.size w w1) := Lib.hid (((Below.refl _ _).alloc (Nat.le_refl _) _).trans (hb1.mono (by simp))); clear hb1 hj1 hw0 hwj)
    | (go_at_call 28; refine (fields_any _ (HS.out.at_below HB1.out)).mono ?_; rintro e w2 ⟨rfl, hcl, hz2, hb2⟩; have HCL := Lib.hid hcl; have HB2 := Lib.hid hb2; clear hcl hb2))
  obtain ⟨T0, hT0⟩ : ∃ T0 : ByteArray, T0 = ⟨a.toArray⟩ := ⟨_, rfl⟩
  have HT0 := Lib.hid hT0
  have hzw : w.heap.size + 1 < w1.heap.size := by simpa using hz1
  have w00 : w2.cell? ⟨w.heap.size + 1, 0, none⟩ = some (.string T0) := (HB2.out.cell (p := ⟨w.heap.size + 1, 0, none⟩) hzw).trans (by have := HW0.out; rw [← hT0] at this; simpa using this)
  have HW2 : Hid (∀ j (h : j < l.length), w2.cell? ⟨w.heap.size + 1, j + 1, none⟩ = some (.string ⟨l[j].toArray⟩)) := Lib.hid (fun j h => (HB2.out.cell (p := ⟨w.heap.size + 1, j + 1, none⟩) hzw).trans (by have := HWJ.out j h; simpa using this))
  have hzw2 : w.heap.size + 1 < w2.heap.size := Nat.lt_of_lt_of_le hzw HB2.out.size
  have hzj2 : w.heap.size < w2.heap.size := Nat.lt_trans (Nat.lt_succ_self _) hzw2
  have HBW : Hid (Below w.heap.size w w2) := Lib.hid (HB1.out.trans (HB2.out.mono (by omega)))
  have HJ2 : Hid (Has w2 w.heap.size 25 #[.int .i64 0, .int .i64 0, .int .i64 0, .int .i64 0, .int .u64 0]) := Lib.hid (HJ1.out.below HB2.out (by omega))
  have hd0 : decide ((0 : Nat) < l.length + 1) = true := by simp
  clear hT0 hz1
  go_loop [17] (fun i => ∃ j : Nat, j ≤ 20 ∧ i = .int .i64 (j : Nat) ∧ Hid (∀ k, k < j → a ≠ nameN k)) (fun i => 20 - (intOf i).toNat)
  case atStart => exact ⟨0, Nat.zero_le _, rfl, Lib.hid (fun k h => absurd h (Nat.not_lt_zero _))⟩
  case round =>
    obtain ⟨j, hj, rfl, HNO⟩ := hrel
    by_cases hj20n : j < 20
    · have hj20 : (j : Int) < 20 := by omega
      obtain ⟨N, hN⟩ : ∃ N : ByteArray, N = ⟨(nameN j).toArray⟩ := ⟨_, rfl⟩
      have n5 : w2.cell? ⟨w1.heap.size, j, none⟩ = some (.string N) := by rw [hN]; exact HCL.out j hj20n
      by_cases hjk : a = nameN j
      · have hee : (N.toList == T0.toList) = true := by rw [hN, HT0.out, hjk]; simp
        have HA := Lib.hid hjk
        have HNN : Hid (noOf a 4) := Lib.hid (.inl ⟨rfl, j, hj20n, hjk⟩)
        obtain ⟨fs, hfs⟩ : ∃ fs, fieldsOf (j : Int) = some fs := fieldsOf_some hj20n
        have HFS := Lib.hid hfs
        have hfl := fields_len hfs
        have HFO := Lib.hid (fields_ok hfs)
        have HJ20 := Lib.hid hj20n
        clear hN hjk hfs
        by_cases hlf : l.length = fs.length
        · have HLF := Lib.hid hlf
          have hdl : ((l.length : Int) == fs.length) = true := by simp; omega
          have hdn : ((l.length : Int) != fs.length) = false := by simp; omega
          clear hlf
          go_wp2_with (first
            | (go_at_call 25; refine (made_any _).mono ?_; rintro e w3 ⟨mv, rfl, hM, hB⟩; have HM := Lib.hid (hM.keep (F' := Old w3.heap.size) (fun b hb => hb.2) (fun _ _ => rfl)); have HB3 := Lib.hid hB; clear hM hB)
            | (go_at_call 27; refine (of_yes _ HM.out HFS.out).mono ?_; rintro e w4 ⟨v4, rfl, hS4, hB4, hO4⟩; obtain ⟨A4, cap4, rfl, hc4, hm4⟩ := hS4.form; have HM4 := Lib.hid (HM.out.old hB4); have HS4 := Lib.hid hS4; have HB4 := Lib.hid (HB3.out.trans (hB4.mono HB3.out.size)); clear hS4 hB4 hO4 hm4))
          have hz4 : w2.heap.size ≤ w4.heap.size := HB4.out.size
          have hzw4 : w.heap.size + 1 < w4.heap.size := Nat.lt_of_lt_of_le hzw2 hz4
          have HW4 : Hid (∀ i (h : i < l.length), w4.cell? ⟨w.heap.size + 1, i + 1, none⟩ = some (.string ⟨l[i].toArray⟩)) := Lib.hid (fun i h => (HB4.out.cell (p := ⟨w.heap.size + 1, i + 1, none⟩) hzw2).trans (HW2.out i h))
          have HJ4 := Lib.hid (HJ2.out.below HB4.out hzj2)
          have HBW4 : Hid (Below w.heap.size w w4) := Lib.hid (HBW.out.trans (HB4.out.mono (by omega)))
          clear n5 hee w00 hj hj20 hj20n
          go_loopw [46] (fun iv wr => ∃ (i : Nat) (y : Ins), i ≤ fs.length ∧ iv = .int .i64 (i : Nat) ∧ Hid (Below w4.heap.size w4 wr) ∧ Hid (Has wr w4.heap.size 25 (insC y).toArray) ∧ Hid (Got1 fs l i (j : Int) y)) (fun iv _ => fs.length - (intOf iv).toNat)
          case atStart => exact ⟨0, zero (j : Int), Nat.zero_le _, rfl, Lib.hid ((Below.refl _ _).alloc (Nat.le_refl _) _), Lib.hid (Has.new w4 _ _), Lib.hid (Got1.start HJ20.out)⟩
          case round =>
            obtain ⟨i, y, hi, rfl, HBr, HGr, HGT⟩ := hrel
            have zg : w4.heap.size < wr.heap.size := HGr.out.lt
            have HBw := Lib.hid (HBW4.out.trans (HBr.out.mono (by omega)))
            by_cases hlt : i < fs.length
            · obtain ⟨fb, foff, c0, c1, c2, c3, c4, rfl, hbG, hE, g0, g1, g2, g3, g4⟩ := slk_get (HS4.out.below FieldE_mono HBr.out) hlt
              have hltl : i < l.length := by have := HLF.out; omega
              obtain ⟨f, hfk⟩ : ∃ f, f = fs[i] := ⟨_, rfl⟩
              rw [← hfk] at hE
              have hfok : f.ok := HFO.out f (by rw [hfk]; exact List.getElem_mem hlt)
              obtain ⟨fn0, cap0, fn1, cap1, fn2, cap2, fn3, cap3, fn4, cap4', rfl, rfl, rfl, rfl, rfl, hcf3, hcf4⟩ := tx_shape hE
              have zb : fb < wr.heap.size := Nat.lt_of_lt_of_le hbG HBr.out.size
              obtain ⟨T, hTe⟩ : ∃ T : ByteArray, T = ⟨l[i].toArray⟩ := ⟨_, rfl⟩
              have hHW : wr.cell? ⟨w.heap.size + 1, i + 1, none⟩ = some (.string T) := (HBr.out.cell (p := ⟨w.heap.size + 1, i + 1, none⟩) hzw4).trans (by rw [hTe]; exact HW4.out i hltl)
              have zwr : w.heap.size + 1 < wr.heap.size := by omega
              have hsum : IntKind.i64.wrap ((i : Int) + 1) = (i : Int) + 1 := IntWalk.i64_in _ ⟨by omega, by omega⟩
              have htn : ((i : Int) + 1).toNat = i + 1 := by omega
              have hlt0 : (0 : Int) ≤ (i : Int) + 1 := by omega
              have hlt1 : (i : Int) + 1 < l.length + 1 := by omega
              have hlt1n : i + 1 < l.length + 1 := by omega
              have HST : Hid (∀ v : Int, wok f.wh v → l[i] = ptx f v → Got1 fs l (i + 1) (j : Int) (y.put f.wh v)) := Lib.hid (fun v hv hS => by rw [hfk] at hv hS ⊢; exact HGT.out.step HFS.out hlt hltl hv hS)
              have HHY : Hid (f = .sign → y.imm = 0) := Lib.hid (fun e => HGT.out.sign HFS.out hlt (hfk.symm.trans e))
              have HFE := Lib.hid hE
              have HFK := Lib.hid hfok
              have HTE := Lib.hid hTe
              clear hE hfok hTe hfk hbG
              go_wp2_with fail
              obtain ⟨W5, hW5⟩ : ∃ W5, W5 = wr.alloc (.cells #[.func (.func fn0) #[] cap0, .func (.func fn1) #[] cap1, .func (.func fn2) #[] cap2, .func (.func fn3) #[] cap3, .func (.func fn4) #[] cap4'] 60) := ⟨_, rfl⟩
              rw [← hW5]
              have hB5 : Below wr.heap.size wr W5 := by rw [hW5]; exact (Below.refl _ _).alloc (Nat.le_refl _) _
              have k4 : W5.cell? ⟨wr.heap.size, 4, none⟩ = some (.func (.func fn4) #[] cap4') := by rw [hW5]; exact (Has.new wr _ _).cell 4
              have kT : W5.cell? ⟨w.heap.size + 1, i + 1, none⟩ = some (.string T) := (hB5.cell (p := ⟨w.heap.size + 1, i + 1, none⟩) zwr).trans hHW
              have z5 : wr.heap.size < W5.heap.size := by rw [hW5]; simp
              have zw5 : w.heap.size + 1 < W5.heap.size := by omega
              have hG5 : Has W5 w4.heap.size 25 (insC y).toArray := HGr.out.below hB5 zg
              have HC := Lib.hid (Do.calls (pag_do (S := l[i]) (y := y) (w := W5.drew) (g := w4.heap.size) (HFE.out.below ((hB5.drew).mono HBr.out.size)) HFK.out (HLL.out _ (List.getElem_mem hltl)) (Nat.lt_irrefl _) (fun W hW => HT.out.at_below (HBw.out.trans (((hB5.drew).mono (by omega)).trans ((hW.below).mono (by omega))))) (HER.out.at_below (HBw.out.trans ((hB5.drew).mono (by omega)))) HHY.out hG5.drew))
              rw [← HTE.out] at HC
              clear hW5
              go_still_tail 7, (by kernel_rfl)
              change wpList _ _ _ _ _ W5.drew
              go_wp2_with fail
              refine HC.out.mono ?_
              rintro e w6 ⟨b, v, rfl, hO6, hH6, hb6⟩
              have HO6 := Lib.hid hO6
              have HH6 := Lib.hid hH6
              have HV6 := Lib.hid hb6
              have HB6 : Hid (Below w4.heap.size w4 w6) := Lib.hid (HBr.out.trans (((hB5.drew).mono (Nat.le_of_lt zg)).trans HO6.out.below))
              clear hO6 hH6 hb6
              cases b with
              | true =>
                go_wp2
                go_roundw
                case rel => first | exact ⟨i + 1, y.put f.wh v, by omega, by go_num, HB6, HH6, Lib.hid (HST.out v (HV6.out trivial).1 (HV6.out trivial).2)⟩ | exact ⟨i + 1, y.put f.wh v, by omega, by go_num, HB6, HH6, Lib.hid (HST.out v (HV6.out (by simp)).1 (HV6.out (by simp)).2)⟩ | ((repeat apply Exists.intro); exact ⟨⟨i + 1, y.put f.wh v, by omega, by go_num, HB6, HH6, Lib.hid (HST.out v (HV6.out (by simp)).1 (HV6.out (by simp)).2)⟩, rfl⟩)
                case measure => simp [intOf]; omega
              | false =>
                have HJ6 := Lib.hid (HJ4.out.below HB6.out (by omega))
                have HBW6 : Hid (Below w.heap.size w w6) := Lib.hid (HBW4.out.trans (HB6.out.mono (by omega)))
                have p0 : w6.cell? ⟨w.heap.size, 0, none⟩ = some (.int .i64 0) := HJ6.out.cell 0
                have p1 : w6.cell? ⟨w.heap.size, 1, none⟩ = some (.int .i64 0) := HJ6.out.cell 1
                have p2 : w6.cell? ⟨w.heap.size, 2, none⟩ = some (.int .i64 0) := HJ6.out.cell 2
                have p3 : w6.cell? ⟨w.heap.size, 3, none⟩ = some (.int .i64 0) := HJ6.out.cell 3
                have p4 : w6.cell? ⟨w.heap.size, 4, none⟩ = some (.int .u64 0) := HJ6.out.cell 4
                have q0 := HJ6.out.frozen 0
                have q1 := HJ6.out.frozen 1
                have q2 := HJ6.out.frozen 2
                have q3 := HJ6.out.frozen 3
                have q4 := HJ6.out.frozen 4
                have zp : w.heap.size < w6.heap.size := HJ6.out.lt
                go_wp2
                refine bodyPost_ret (results_block2 (g := w.heap.size) (T := 25) rfl rfl (by exact ((((HJ6.out.set 0 _).set 1 _).set 2 _).set 3 _).set 4 _) rfl Tryz.underlying25 rfl (by kernel_rfl)) rfl ?_
                exact ParG.bad (by have := HBW6.out; exact (by repeat' (first | (with_reducible assumption) | (with_reducible refine Below.setCell ?_ ?_ _) | (with_reducible refine Below.alloc ?_ ?_ _) | (with_reducible refine Below.drew ?_) | (with_reducible refine below_drewN ?_ _) | (with_reducible exact Below.refl _ _) | (show _ ≤ _; (try simp); (try omega); done) | exact Below.refl _ _ | assumption))) HSP.out (HNN.out)
            · obtain rfl : i = fs.length := by omega
              have HMr := Lib.hid (HM4.out.old HBr.out)
              have HJr := Lib.hid (HJ4.out.below HBr.out (by omega))
              have x0 : wr.cell? ⟨w4.heap.size, 0, none⟩ = some (.int .i64 y.op) := HGr.out.cell 0
              have x1 : wr.cell? ⟨w4.heap.size, 1, none⟩ = some (.int .i64 y.a) := HGr.out.cell 1
              have x2 : wr.cell? ⟨w4.heap.size, 2, none⟩ = some (.int .i64 y.b) := HGr.out.cell 2
              have x3 : wr.cell? ⟨w4.heap.size, 3, none⟩ = some (.int .i64 y.n) := HGr.out.cell 3
              have x4 : wr.cell? ⟨w4.heap.size, 4, none⟩ = some (.int .u64 y.imm) := HGr.out.cell 4
              have HRT : Hid (Calls Tryz.prog 26 #[mv, .agg #[.int .i64 y.op, .int .i64 y.a, .int .i64 y.b, .int .i64 y.n, .int .u64 y.imm]] wr fun e w' => e = .returned (.bool (rightB y)) ∧ Below wr.heap.size wr w') := Lib.hid (right_any wr HMr.out HGT.out.2.1)
              go_wp2_with fail
              refine HRT.out.mono ?_
              rintro e w6 ⟨rfl, hB6⟩
              have HJ6 := Lib.hid (HJr.out.below hB6 (by omega))
              have hg6 := HGr.out.below hB6 zg
              have y0 : w6.cell? ⟨w4.heap.size, 0, none⟩ = some (.int .i64 y.op) := hg6.cell 0
              have y1 : w6.cell? ⟨w4.heap.size, 1, none⟩ = some (.int .i64 y.a) := hg6.cell 1
              have y2 : w6.cell? ⟨w4.heap.size, 2, none⟩ = some (.int .i64 y.b) := hg6.cell 2
              have y3 : w6.cell? ⟨w4.heap.size, 3, none⟩ = some (.int .i64 y.n) := hg6.cell 3
              have y4 : w6.cell? ⟨w4.heap.size, 4, none⟩ = some (.int .u64 y.imm) := hg6.cell 4
              have zg6 : w4.heap.size < w6.heap.size := hg6.lt
              have HBW6 : Hid (Below w.heap.size w w6) := Lib.hid (HBw.out.trans (hB6.mono HBw.out.size))
              clear hB6 hg6
              have p0 : w6.cell? ⟨w.heap.size, 0, none⟩ = some (.int .i64 0) := HJ6.out.cell 0
              have p1 : w6.cell? ⟨w.heap.size, 1, none⟩ = some (.int .i64 0) := HJ6.out.cell 1
              have p2 : w6.cell? ⟨w.heap.size, 2, none⟩ = some (.int .i64 0) := HJ6.out.cell 2
              have p3 : w6.cell? ⟨w.heap.size, 3, none⟩ = some (.int .i64 0) := HJ6.out.cell 3
              have p4 : w6.cell? ⟨w.heap.size, 4, none⟩ = some (.int .u64 0) := HJ6.out.cell 4
              have q0 := HJ6.out.frozen 0
              have q1 := HJ6.out.frozen 1
              have q2 := HJ6.out.frozen 2
              have q3 := HJ6.out.frozen 3
              have q4 := HJ6.out.frozen 4
              have zp : w.heap.size < w6.heap.size := HJ6.out.lt
              cases hr : rightB y with
              | true =>
                have HRB := Lib.hid hr
                clear hr
                go_wp2
                refine bodyPost_ret (results_block2 (g := w.heap.size) (T := 25) rfl rfl (by exact ((((HJ6.out.set 0 _).set 1 _).set 2 _).set 3 _).set 4 _) rfl Tryz.underlying25 rfl (by kernel_rfl)) rfl ?_
                exact ⟨by have := HBW6.out; exact (by repeat' (first | (with_reducible assumption) | (with_reducible refine Below.setCell ?_ ?_ _) | (with_reducible refine Below.alloc ?_ ?_ _) | (with_reducible refine Below.drew ?_) | (with_reducible refine below_drewN ?_ _) | (with_reducible exact Below.refl _ _) | (show _ ≤ _; (try simp); (try omega); done) | exact Below.refl _ _ | assumption)), .inl ⟨y, HGT.out.2.1, HRB.out, Got1.line HJN.out HA.out HFS.out HLF.out HGT.out, rfl⟩⟩
              | false =>
                clear hr
                go_wp2
                refine bodyPost_ret (results_block2 (g := w.heap.size) (T := 25) rfl rfl (by exact ((((HJ6.out.set 0 _).set 1 _).set 2 _).set 3 _).set 4 _) rfl Tryz.underlying25 rfl (by kernel_rfl)) rfl ?_
                exact ParG.bad (by have := HBW6.out; exact (by repeat' (first | (with_reducible assumption) | (with_reducible refine Below.setCell ?_ ?_ _) | (with_reducible refine Below.alloc ?_ ?_ _) | (with_reducible refine Below.drew ?_) | (with_reducible refine below_drewN ?_ _) | (with_reducible exact Below.refl _ _) | (show _ ≤ _; (try simp); (try omega); done) | exact Below.refl _ _ | assumption))) HSP.out (HNN.out)
        · have hdl : ((l.length : Int) == fs.length) = false := by simp; omega
          clear hlf
          go_wp2_with (first
            | (go_at_call 25; refine (made_any _).mono ?_; rintro e w3 ⟨mv, rfl, hM, hB⟩; have HM := Lib.hid (hM.keep (F' := Old w3.heap.size) (fun b hb => hb.2) (fun _ _ => rfl)); have HB3 := Lib.hid hB; clear hM hB)
            | (go_at_call 27; refine (of_yes _ HM.out HFS.out).mono ?_; rintro e w4 ⟨v4, rfl, hS4, hB4, hO4⟩; obtain ⟨A4, cap4, rfl, hc4, hm4⟩ := hS4.form; have HB4 := Lib.hid (HB3.out.trans (hB4.mono HB3.out.size)); have HJ4 := Lib.hid (HJ2.out.below HB4.out hzj2); have HBW4 : Hid (Below w.heap.size w w4) := Lib.hid (HBW.out.trans (HB4.out.mono (by omega))); clear hS4 hB4 hO4; have p0 : w4.cell? ⟨w.heap.size, 0, none⟩ = some (.int .i64 0) := HJ4.out.cell 0; have p1 : w4.cell? ⟨w.heap.size, 1, none⟩ = some (.int .i64 0) := HJ4.out.cell 1; have p2 : w4.cell? ⟨w.heap.size, 2, none⟩ = some (.int .i64 0) := HJ4.out.cell 2; have p3 : w4.cell? ⟨w.heap.size, 3, none⟩ = some (.int .i64 0) := HJ4.out.cell 3; have p4 : w4.cell? ⟨w.heap.size, 4, none⟩ = some (.int .u64 0) := HJ4.out.cell 4; have q0 := HJ4.out.frozen 0; have q1 := HJ4.out.frozen 1; have q2 := HJ4.out.frozen 2; have q3 := HJ4.out.frozen 3; have q4 := HJ4.out.frozen 4; have zp : w.heap.size < w4.heap.size := HJ4.out.lt))
          refine bodyPost_ret (results_block2 (g := w.heap.size) (T := 25) rfl rfl (by exact (((((HJ4.out.set 0 _).set 1 _).set 2 _).set 3 _).set 4 _).alloc _) rfl Tryz.underlying25 rfl (by kernel_rfl)) rfl ?_
          exact ParG.bad (by have := HBW4.out; exact (by repeat' (first | (with_reducible assumption) | (with_reducible refine Below.setCell ?_ ?_ _) | (with_reducible refine Below.alloc ?_ ?_ _) | (with_reducible refine Below.drew ?_) | (with_reducible refine below_drewN ?_ _) | (with_reducible exact Below.refl _ _) | (show _ ≤ _; (try simp); (try omega); done) | exact Below.refl _ _ | assumption))) HSP.out (HNN.out)
      · have hee : (N.toList == T0.toList) = false := by
          rw [hN, HT0.out]
          have hne : nameN j ≠ a := fun e => hjk e.symm
          simpa using hne
        have HNO2 : Hid (∀ k, k < j + 1 → a ≠ nameN k) := Lib.hid (fun k hk => by
          by_cases e : k = j
          · subst e; exact hjk
          · exact HNO.out k (by omega))
        clear hN hjk
        go_wp2
        go_round
        case rel => exact ⟨j + 1, by omega, by go_num, HNO2⟩
        case measure => simp [intOf]; omega
    · obtain rfl : j = 20 := by omega
      have p0 : w2.cell? ⟨w.heap.size, 0, none⟩ = some (.int .i64 0) := HJ2.out.cell 0
      have p1 : w2.cell? ⟨w.heap.size, 1, none⟩ = some (.int .i64 0) := HJ2.out.cell 1
      have p2 : w2.cell? ⟨w.heap.size, 2, none⟩ = some (.int .i64 0) := HJ2.out.cell 2
      have p3 : w2.cell? ⟨w.heap.size, 3, none⟩ = some (.int .i64 0) := HJ2.out.cell 3
      have p4 : w2.cell? ⟨w.heap.size, 4, none⟩ = some (.int .u64 0) := HJ2.out.cell 4
      have q0 := HJ2.out.frozen 0
      have q1 := HJ2.out.frozen 1
      have q2 := HJ2.out.frozen 2
      have q3 := HJ2.out.frozen 3
      have q4 := HJ2.out.frozen 4
      have zp : w.heap.size < w2.heap.size := HJ2.out.lt
      go_wp2
      refine bodyPost_ret (results_block2 (g := w.heap.size) (T := 25) rfl rfl (by exact ((((HJ2.out.set 0 _).set 1 _).set 2 _).set 3 _).set 4 _) rfl Tryz.underlying25 rfl (by kernel_rfl)) rfl ?_
      exact ParG.bad (by have := HBW.out; exact (by repeat' (first | (with_reducible assumption) | (with_reducible refine Below.setCell ?_ ?_ _) | (with_reducible refine Below.alloc ?_ ?_ _) | (with_reducible refine Below.drew ?_) | (with_reducible refine below_drewN ?_ _) | (with_reducible exact Below.refl _ _) | (show _ ≤ _; (try simp); (try omega); done) | exact Below.refl _ _ | assumption))) HSP.out (.inr ⟨rfl, HNO.out⟩)
end codeW
end Go.Proofs.YtbbfpbmogklomaaGreatDoor

namespace Go.Proofs.YtbbfpbmogklomaaGreatDoor
open Go.RowKit Go.Bus Go.Bus.cellK Go.Bus.codeK Go.Bus.hexK
set_option linter.unusedVariables false
set_option linter.unusedSimpArgs false
namespace codeW
set_option maxRecDepth 100000 in
set_option maxHeartbeats 1000000 in
theorem line_any {S : List UInt8} (w : World) (hl : S.length ≤ 2097152) (hT : Tabs w) (hS : Sp w) (hM : Mx w) (hE : Errs w) : Calls Tryz.prog 21 #[.string ⟨S.toArray⟩] w fun e w' => e = .returned (.bool true) ∧ Below w.heap.size w w' := by
  have HP := Lib.hid (parse_gen w hl hT hS hM hE)
  have HT := Lib.hid hT
  have HS := Lib.hid hS
  have HZ : ∀ W, (binOp .eql 25 (.agg #[.int .i64 0, .int .i64 0, .int .i64 0, .int .i64 0, .int .u64 0]) (.agg #[.int .i64 0, .int .i64 0, .int .i64 0, .int .i64 0, .int .u64 0])).run Tryz.prog W = .ok (.bool true) W := fun W => by
    have := eql_ins (zero 0) (zero 0) W
    rw [decide_eq_true rfl] at this
    exact this
  obtain ⟨SB, hSB⟩ : ∃ SB : ByteArray, SB = ⟨S.toArray⟩ := ⟨_, rfl⟩
  have HSB := Lib.hid hSB
  rw [← hSB] at HP ⊢
  clear hl hT hS hM hE hSB
  go_enter Tryz.func21, Tryz.ntmps21
  go_wp2_with fail
  refine HP.out.mono ?_
  rintro e w1 ⟨hB, h⟩
  have HB := Lib.hid hB
  clear hB
  rcases h with ⟨y, hy, hr, hli, he⟩ | ⟨no, he, _⟩
  · have he' : e = .returned (.tuple #[.agg #[.int .i64 y.op, .int .i64 y.a, .int .i64 y.b, .int .i64 y.n, .int .u64 y.imm], .nilIface]) := he
    subst he'
    have HD := Lib.hid (fun (W : World) (hb : Below w.heap.size w W) => (show Calls Tryz.prog 9 #[.agg #[.int .i64 y.op, .int .i64 y.a, .int .i64 y.b, .int .i64 y.n, .int .u64 y.imm]] W _ from print_good W hy hr (HT.out.at_below hb) (HS.out.at_below hb)))
    rw [hli, ← HSB.out] at HD
    clear hy hr hli he
    go_wp2_with (first
      | (go_at_call 9; refine (HD.out _ (HB.out.trans ((Below.refl _ _).alloc HB.out.size _))).mono ?_; rintro e w2 ⟨rfl, hb⟩; have HB2 : Hid (Below w.heap.size w w2) := Lib.hid ((HB.out.trans ((Below.refl _ _).alloc HB.out.size _)).trans (hb.mono (by have := HB.out.size; simp; omega))); clear hb)
      | (go_at_call 11; refine (works_any _).mono ?_; rintro e w3 ⟨rfl, hb⟩; have HB3 := Lib.hid (HB2.out.trans (hb.mono HB2.out.size)); clear hb))
    go_ret
    exact ⟨rfl, HB3.out⟩
  · unfold zeroV at he
    subst he
    have HJ := Lib.hid (Has.new w1 25 #[.int .i64 0, .int .i64 0, .int .i64 0, .int .i64 0, .int .u64 0])
    go_wp2_with (first
      | (go_at_call 11; refine (works_any _).mono ?_; rintro e w3 ⟨rfl, hb⟩; have hj := HJ.out.below hb HJ.out.lt; have w30 : w3.cell? ⟨w1.heap.size, 0, none⟩ = some (.int .i64 0) := hj.cell 0; have w31 : w3.cell? ⟨w1.heap.size, 1, none⟩ = some (.int .i64 0) := hj.cell 1; have w32 : w3.cell? ⟨w1.heap.size, 2, none⟩ = some (.int .i64 0) := hj.cell 2; have w33 : w3.cell? ⟨w1.heap.size, 3, none⟩ = some (.int .i64 0) := hj.cell 3; have w34 : w3.cell? ⟨w1.heap.size, 4, none⟩ = some (.int .u64 0) := hj.cell 4; have z3 : w1.heap.size < w3.heap.size := hj.lt; have HB3 := Lib.hid ((HB.out.trans ((Below.refl _ _).alloc HB.out.size _)).trans (hb.mono (by have := HB.out.size; simp; omega))); clear hb hj)
      | simp only [HZ])
    go_ret
    exact ⟨rfl, HB3.out⟩
end codeW
end Go.Proofs.YtbbfpbmogklomaaGreatDoor
