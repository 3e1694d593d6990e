/- Texts of this claim, one behind the other. No condition but those that each states. -/
import Derived.Test.YtbhhfdajaoemnaaGreatDoorDumpFi
import Derived.Test.YtbhhfdajaoemnaaGreatDoorDumpJl
import Derived.Test.YtbhhfdajaoemnaaGreatDoorDumpLs
import Derived.Test.YtbhhfdajaoemnaaGreatDoorDumpWk
import Derived.Test.YtbhhfdajaoemnaaGreatDoorRes
import Derived.Deep.RegionHeld3
import Derived.Deep.QuietTactic
import Derived.BigQuiet
import Derived.Outline
import Derived.StillTailTactics
import Derived.Test.YtbhhfdajaoemnaaGreatDoorDumpQa
import Derived.Test.YtbhhfdajaoemnaaGreatDoorDumpFl
import Derived.Test.YtbhhfdajaoemnaaGreatDoorCells
import Derived.Laws.DeepStrings4
import Derived.Test.YtbhhfdajaoemnaaGreatDoorDumpQp
import Derived.Test.YtbhhfdajaoemnaaGreatDoorZQb
import Derived.Test.YtbhhfdajaoemnaaGreatDoorZQf

namespace Go.Bus.cellK
open Go.RowKit Go.Bus
section
variable {α : Type} {k n : Nat} {R : Rel α} {w : World} {F : Foot} {l m : List α} {b off cap : Nat}
theorem eltOf_take {xs : List Value} {i : Nat} (hi : i < n) : eltOf k (xs.take (n * k)) i = eltOf k xs i := by
  have h1 : (i + 1) * k ≤ n * k := Nat.mul_le_mul_right k hi
  rw [Nat.add_mul, Nat.one_mul] at h1
  unfold eltOf
  rw [List.drop_take, List.take_take, Nat.min_eq_left (by omega)]
theorem eltOf_drop {xs : List Value} {i : Nat} : eltOf k (xs.drop (n * k)) i = eltOf k xs (n + i) := by
  unfold eltOf
  rw [List.drop_drop, Nat.add_mul]
theorem SlK.first (hh : SlK k R w F (.slice (some ⟨b, off, none⟩) (l.length + m.length) cap) (l ++ m)) : SlK k R w F (.slice (some ⟨b, off, none⟩) l.length cap) l := by
  obtain ⟨xs, ⟨A, c, hv, h1, h2, h3, h4⟩, h5⟩ := hh
  simp only [Value.slice.injEq] at hv
  obtain ⟨rfl, _, rfl⟩ := hv
  rw [List.length_append] at h1 h3 h4
  rw [Nat.add_mul] at h3
  refine ⟨xs.take (l.length * k), ⟨_, cap, rfl, by omega, h2, by rw [List.length_take]; omega, fun h0 => ?_⟩, fun i x hi => ?_⟩
  · obtain ⟨b', off', hA, hF, hr⟩ := h4 (by omega)
    refine ⟨b', off', hA, hF, fun j v hj => hr j v ?_⟩
    rw [List.getElem?_take] at hj
    split at hj
    · exact hj
    · cases hj
  · have hil := (List.getElem?_eq_some_iff.1 hi).1
    rw [eltOf_take hil]
    exact h5 i x (by rw [List.getElem?_append_left hil]; exact hi)
theorem SlK.rest (hh : SlK k R w F (.slice (some ⟨b, off, none⟩) (l.length + m.length) cap) (l ++ m)) {A : Option Addr} (hA : 0 < m.length → A = some ⟨b, off + l.length * k, none⟩) : SlK k R w F (.slice A m.length (cap - l.length)) m := by
  obtain ⟨xs, ⟨A', c, hv, h1, h2, h3, h4⟩, h5⟩ := hh
  simp only [Value.slice.injEq] at hv
  obtain ⟨rfl, _, rfl⟩ := hv
  rw [List.length_append] at h1 h3 h4
  rw [Nat.add_mul] at h3
  refine ⟨xs.drop (l.length * k), ⟨_, _, rfl, by omega, by omega, by rw [List.length_drop]; omega, fun h0 => ?_⟩, fun i x hi => ?_⟩
  · obtain ⟨b', off', hA', hF, hr⟩ := h4 (by omega)
    cases hA'
    refine ⟨b, off + l.length * k, hA h0, hF, fun j v hj => ?_⟩
    rw [List.getElem?_drop] at hj
    have := hr (l.length * k + j) v hj
    rw [Nat.add_assoc]
    exact this
  · rw [eltOf_drop]
    exact h5 _ x (by rw [List.getElem?_append_right (by omega), Nat.add_sub_cancel_left]; exact hi)
end
end Go.Bus.cellK
namespace Go.Proofs.YtbhhfdajaoemnaaGreatDoor
open Go.RowKit Go.Bus Go.Bus.cellK Go.Bus.dumpK Go.Bus.textK
set_option linter.unusedVariables false
set_option linter.unusedSimpArgs false
namespace dumpW
theorem file_any (S : List UInt8) (hl : S.length ≤ 281474976710656) (w : World) (hM : Mx w) (hR : laidK.Rng w) : Calls Tryz.prog 9 #[.string ⟨S.toArray⟩] w (DFi S w) := by
  by_cases h : 1048576 < S.length
  · exact dfile_long S h hl w
  · exact dfile_in S (by omega) w hM hR
theorem file_err {S : List UInt8} {no : Int} {k : Nat} (h : fileF S = .error (no, k)) (hk : 0 < k) (hl : S.length ≤ 281474976710656) (w : World) (hM : Mx w) (hR : laidK.Rng w) : Calls Tryz.prog 9 #[.string ⟨S.toArray⟩] w fun e w' => e = .returned (.tuple #[.slice none 0 0, .iface 78 (.agg #[.int .i64 no, .int .i64 (k : Nat), .int .i64 0])]) ∧ Below w.heap.size w w' := by
  refine (file_any S hl w hM hR).mono ?_
  rintro e w' ⟨hb, h2⟩
  rw [h] at h2
  simp only at h2
  unfold ferr at h2
  rw [if_neg (by omega)] at h2
  exact ⟨h2, hb⟩
theorem file_many {S : List UInt8} {no : Int} (h : fileF S = .error (no, 0)) (hl : S.length ≤ 281474976710656) (w : World) (hM : Mx w) (hR : laidK.Rng w) : Calls Tryz.prog 9 #[.string ⟨S.toArray⟩] w fun e w' => e = .returned (.tuple #[.slice none 0 0, .iface 74 (.int .i64 no)]) ∧ Below w.heap.size w w' := by
  refine (file_any S hl w hM hR).mono ?_
  rintro e w' ⟨hb, h2⟩
  rw [h] at h2
  exact ⟨h2, hb⟩
theorem file_ok {S : List UInt8} {ls : List Ln} (h : fileF S = .ok ls) (hl : S.length ≤ 281474976710656) (w : World) (hM : Mx w) (hR : laidK.Rng w) : Calls Tryz.prog 9 #[.string ⟨S.toArray⟩] w fun e w' => ∃ A c xs, e = .returned (.tuple #[.slice A ls.length c, .nilIface]) ∧ (0 < ls.length → ∃ g, A = some ⟨g, 0, none⟩) ∧ OwX 5 lineO w' (Iv w.heap.size w'.heap.size) w.heap.size 43 (.slice A ls.length c) ls xs ∧ Below w.heap.size w w' := by
  refine (file_any S hl w hM hR).mono ?_
  rintro e w' ⟨hb, h2⟩
  rw [h] at h2
  obtain ⟨v, xs, rfl, ho⟩ := h2
  rcases ho.1.2 with ⟨rfl, h0⟩ | ⟨g, cap, cur, rfl, rest⟩
  · refine ⟨none, 0, xs, by rw [h0], fun h => by omega, by rw [h0]; exact ho, hb⟩
  · exact ⟨_, cap, xs, rfl, fun _ => ⟨g, rfl⟩, ho, hb⟩
end dumpW
end Go.Proofs.YtbhhfdajaoemnaaGreatDoor

namespace Go.Proofs.YtbhhfdajaoemnaaGreatDoor
open Go.RowKit Go.Bus Go.Bus.cellK Go.Bus.dumpK Go.Bus.textK
set_option linter.unusedVariables false
set_option linter.unusedSimpArgs false
namespace dumpW
theorem slk_sl {w : World} {B : Nat} {v : Value} {l : List Int} (h : Sl w B (Value.int .u8) v l) : SlK 1 byE w (Old B) v l := by
  obtain ⟨A, cap, rfl, hl, hc, hx⟩ := h
  refine ⟨l.map (Value.int .u8), ⟨A, cap, rfl, hl, hc, by simp, fun h0 => ?_⟩, fun i x hi => part_one (by rw [List.getElem?_map, hi]; rfl)⟩
  obtain ⟨b, off, rfl, hb, hcell⟩ := hx h0
  refine ⟨b, off, rfl, hb, fun j u hj => ?_⟩
  rw [List.getElem?_map] at hj
  cases hq : l[j]? with
  | none => rw [hq] at hj; cases hj
  | some x => rw [hq] at hj; cases hj; exact hcell j x hq
def YesL (w : World) (e : Ending) (w' : World) : Prop := e = .returned (.bool true) ∧ Below w.heap.size w w'
theorem same_el (l : Ln) (cs cs' : List Value) (F G : Foot) (w : World) (h : lineR w F cs l) (h' : lineR w G cs' l) (hF : ∀ b, F b → b < w.heap.size) (hG : ∀ b, G b → b < w.heap.size) :
    Calls Tryz.prog 20 #[.agg cs.toArray, .agg cs'.toArray] w (YesL w) := by
  obtain ⟨u, rfl, hu⟩ := h
  obtain ⟨v, rfl, hv⟩ := h'
  exact same_line l u v w (by_sl (hu.more byE_mono hF)) (by_sl (hv.more byE_mono hG))
theorem wpStill_load_mid {P : Program} {ops : Array Oper} {w : World} {Q : Act → Prop} {a : Act} {o : Oper} {rest : List Oper} (hgd : o.guard = none) (ty : TypeId) (x : Operand) (ho : o.op = .load ty x)
    (b off : Nat) (hx : a.eval x = .pointer (some ⟨b, off, none⟩)) (cs : List Value) (d : TypeDesc) (hc : w.rangeAt b off cs)
    (hu : P.underlying ty = some d) (hd : d.isRow = true) (hi : (P.info? ty).map (·.size) = some cs.length)
    (h : wpStill P ops w Q rest (a.put o.dst (.agg cs.toArray))) : wpStill P ops w Q (o :: rest) a := by
  unfold wpStill
  rw [if_pos (by simp [Region.wanted, hgd])]
  unfold Oper.still execOp
  simp only [ho, hx, Instr.loadAt, Instr.sureAddr, Sem.run_bind, Sem.run_pure, Result.andThen_ok, run_loadVar_mid w b off ty cs d hc hu hd hi]
  rw [Oper.stillUpon_value]
  exact h
set_option maxRecDepth 100000 in
set_option maxHeartbeats 4000000 in
theorem same_lines (u v : Value) (l : List Ln) (F G : Foot) (w : World) (hu : SlK 5 lineR w F u l) (hv : SlK 5 lineR w G v l) (hF : ∀ b, F b → b < w.heap.size) (hG : ∀ b, G b → b < w.heap.size) :
    Calls Tryz.prog 13 #[u, v] w (YesL w) := by
  obtain ⟨A1, c1, rfl, n1, m1⟩ := hu.form
  obtain ⟨A2, c2, rfl, n2, m2⟩ := hv.form
  unfold maxLen at m1 m2
  have HU := Lib.hid (fun (w1 : World) (hb : Below w.heap.size w w1) => hu.belowF lineR_mono hF hb)
  have HV := Lib.hid (fun (w1 : World) (hb : Below w.heap.size w w1) => hv.belowF lineR_mono hG hb)
  have HF := Lib.hid hF; have HG := Lib.hid hG
  clear hu hv hF hG
  have hi1 : (Tryz.prog.info? 43).map (·.size) = some 5 := by kernel_rfl
  have HI1 := Lib.hid hi1; clear hi1
  go_enter Tryz.func13, Tryz.ntmps13
  go_wp2
  go_loopw [5] (fun i wr => ∃ k : Nat, k ≤ l.length ∧ i = .int .i64 k ∧ Hid (Below w.heap.size w wr)) (fun i _ => l.length - (intOf i).toNat)
  case atStart => exact ⟨0, Nat.zero_le _, rfl, Below.refl _ _⟩
  case round =>
    obtain ⟨k, hk, rfl, hb⟩ := hrel
    by_cases hlt : k < l.length
    · obtain ⟨b, off, cs, h1, hFb, hl1, hr, he⟩ := (HU.out _ hb.out).at_ hlt
      obtain ⟨b', off', cs', h1', hGb, hl2, hr', he'⟩ := (HV.out _ hb.out).at_ hlt
      subst h1 h1'
      have hsz : w.heap.size ≤ wr.heap.size := hb.out.size
      generalize l[k] = x at *
      have HE := Lib.hid he; have HE' := Lib.hid he'
      have HR := Lib.hid hr; have HR' := Lib.hid hr'
      have HL := Lib.hid (show some 5 = some cs.length by rw [hl1]); have HL' := Lib.hid (show some 5 = some cs'.length by rw [hl2])
      have hb1 : (0 : Int) ≤ (k : Int) := Int.natCast_nonneg _
      have hb2 : (k : Int) < (l.length : Int) := by omega
      clear hl1 hl2 he he' hr hr' hFb hGb
      go_wp2_with fail
      go_still_tail 8, (by kernel_rfl)
      refine wpStill_load_mid rfl 43 _ rfl b (off + k * 5) rfl cs _ (by exact HR.out) Tryz.underlying43 rfl (HI1.out.trans HL.out) ?_
      repeat still_step
      refine wpStill_load_mid rfl 43 _ rfl b' (off' + k * 5) rfl cs' _ (by exact HR'.out) Tryz.underlying43 rfl (HI1.out.trans HL'.out) ?_
      refine wpStill_nil ?_
      change wpList _ _ _ _ _ wr.drew
      go_wp2_with fail
      refine (same_el x cs cs' F G _ (by exact HE.out) (by exact HE'.out) (fun b hb => Nat.lt_of_lt_of_le (HF.out b hb) (by exact hsz)) (fun b hb => Nat.lt_of_lt_of_le (HG.out b hb) (by exact hsz))).mono ?_
      rintro e w2 ⟨rfl, hb2⟩
      have hb3 : Below w.heap.size w w2 := hb.out.trans (Below.trans ((Below.refl _ _).drew) (hb2.mono (by exact hsz)))
      have HB2 := Lib.hid hb3; clear hb2 hb3
      go_wp2
      go_roundw
      case rel => exact ⟨k + 1, by omega, by go_num, HB2⟩
      case measure => simp [intOf]; omega
    · obtain rfl : k = l.length := by omega
      go_wp2
      go_ret
      exact ⟨rfl, hb.out⟩
end dumpW
end Go.Proofs.YtbhhfdajaoemnaaGreatDoor

namespace Go.Bus.dumpK
open Go.Bus.textK Go.Lib
set_option linter.unusedVariables false
def glueN (p : List UInt8) : List (List UInt8) → List (List UInt8)
  | [] => [p]
  | h :: t => (p ++ h) :: t
theorem glueN_nil (S : List UInt8) : glueN [] (cutN 10 S) = cutN 10 S := by
  obtain ⟨h, t, e⟩ := cutN_ne 10 S
  rw [e]; rfl
theorem glueN_end (p r : List UInt8) : glueN p (cutN 10 (10 :: r)) = p :: cutN 10 r := by
  rw [cutN, if_pos rfl]
  simp [glueN]
theorem glueN_other (p r : List UInt8) {x : UInt8} (hx : x ≠ 10) : glueN p (cutN 10 (x :: r)) = glueN (p ++ [x]) (cutN 10 r) := by
  obtain ⟨h, t, e⟩ := cutN_ne 10 r
  rw [cutN, if_neg hx, e]
  simp [glueN]
theorem mid_more (S : List UInt8) {f i : Nat} (hf : f ≤ i) (hi : i < S.length) : (S.drop f).take (i + 1 - f) = (S.drop f).take (i - f) ++ [S[i]] := by
  rw [show i + 1 - f = (i - f) + 1 from by omega, List.take_succ_eq_append_getElem (by rw [List.length_drop]; omega), List.getElem_drop]
  congr 2
  simp only [show f + (i - f) = i from by omega]
theorem linesF_last {S p : List UInt8} {L : List (List UInt8)} (h : L ++ [p] = cutN 10 S) : linesF S = if p = [] then L else L ++ [p] := by
  unfold linesF
  rw [← h, List.getLast?_append]
  by_cases hp : p = []
  · rw [if_pos hp, if_pos (by simp [hp]), List.dropLast_concat]
  · rw [if_neg hp, if_neg (by simp [hp])]
end Go.Bus.dumpK
namespace Go.Proofs.YtbhhfdajaoemnaaGreatDoor
open Go.RowKit Go.Bus Go.Bus.cellK Go.Bus.dumpK Go.Bus.textK
set_option linter.unusedVariables false
set_option linter.unusedSimpArgs false
namespace dumpW
abbrev strL (t : List UInt8) : Value := .string ⟨t.toArray⟩
theorem infoSt : (Tryz.prog.info? 9).map (fun i => (i.zero, i.size, i.bytes)) = some (some (.string ByteArray.empty), 1, 16) := by kernel_rfl
theorem extract_mid (S : List UInt8) (f i : Nat) : (⟨S.toArray⟩ : ByteArray).extract f i = ⟨((S.drop f).take (i - f)).toArray⟩ := by
  apply ByteArray.ext
  simp
def RowL (w : World) (B : Nat) (v : Value) (l : List (List UInt8)) : Prop := w.ownsRow B 9 1 v l.length (l.map strL)
set_option maxRecDepth 100000 in
set_option maxHeartbeats 2000000 in
theorem rlines_any (S : List UInt8) (hl : S.length ≤ 4194304) (w : World) : Calls Tryz.prog 57 #[.string ⟨S.toArray⟩] w fun e w' => ∃ v, e = .returned v ∧ RowL w' w.heap.size v (linesF S) ∧ Below w.heap.size w w' := by
  obtain ⟨i0, hi, hz0, hz1, hz2⟩ := info_parts infoSt
  go_enter Tryz.func57, Tryz.ntmps57
  go_wp2
  go_loopw [3, 4, 5] (fun row fr iv wr => ∃ (f i : Nat) (L : List (List UInt8)), fr = .int .i64 (f : Nat) ∧ iv = .int .i64 (i : Nat) ∧ f ≤ i ∧ i ≤ S.length ∧ L.length ≤ i ∧ Hid (RowL wr w.heap.size row L) ∧ Hid (Below w.heap.size w wr) ∧ Hid (L ++ glueN ((S.drop f).take (i - f)) (cutN 10 (S.drop i)) = cutN 10 S)) (fun _ _ iv _ => S.length - (intOf iv).toNat)
  case atStart => exact ⟨0, 0, [], rfl, rfl, Nat.le_refl _, Nat.zero_le _, Nat.zero_le _, Lib.hid (World.ownsRow_nil _ _ _ _), Lib.hid (Below.refl _ _), Lib.hid (by simpa using glueN_nil S)⟩
  case round =>
    obtain ⟨f, i, L, rfl, rfl, hfi, hil, hLi, HO, HB, HE⟩ := hrel
    have HX := HO.out
    unfold RowL at HX
    by_cases hlt : i < S.length
    · have hsl : ∀ W, (Instr.slice 9 (.string ⟨S.toArray⟩) (some (.int .i64 (f : Nat))) (some (.int .i64 (i : Nat))) none).run Tryz.prog W = .ok (.string ⟨((S.drop f).take (i - f)).toArray⟩) W := fun W => by
        rw [run_slice_string_if W _ _ _ _ _ _ Tryz.underlying9, if_pos ⟨by omega, by show (i : Int) ≤ (S.length : Int); omega⟩, if_pos ⟨by omega, by omega⟩]
        rw [show ((f : Int)).toNat = f from by omega, show ((i : Int)).toNat = i from by omega, extract_mid]
      obtain ⟨P, hP⟩ : ∃ P, P = (S.drop f).take (i - f) := ⟨_, rfl⟩
      have HE1 := Lib.hid HE.out
      rw [← hP] at HE1 hsl
      have HP := Lib.hid hP
      clear hP HE
      obtain ⟨c, hcE⟩ : ∃ c : Nat, ((S[i]'hlt).toNat : Int) = c := ⟨_, rfl⟩
      have hcE2 : (((⟨S.toArray⟩ : ByteArray)[i]'(by show i < S.toArray.size; simpa using hlt)).toNat : Int) = c := hcE
      by_cases h10 : c = 10
      · have hS : S[i]'hlt = 10 := UInt8.toNat_inj.1 (by show (S[i]'hlt).toNat = 10; omega)
        have HN : Hid ((L ++ [P]) ++ glueN [] (cutN 10 (S.drop (i + 1))) = cutN 10 S) := Lib.hid (by
          rw [← HE1.out, List.drop_eq_getElem_cons hlt, hS, glueN_end, glueN_nil, List.append_assoc]; rfl)
        obtain rfl : c = 10 := h10
        clear hS
        go_wp2_with (at_builtin; refine wpList_append_own _ rfl _ _ 44 rfl w.heap.size 9 i0 (.string ByteArray.empty) 1 16 Tryz.underlying44 hi hz0 hz1 hz2 rfl (by decide) _ _ _ rfl (HX.alloc _) ⟨wr.heap.size, 0, none⟩ 1 1 [.string ⟨P.toArray⟩] rfl rfl ?c1 ?c2 ?c3 ?c4 ?c5 ?_)
        case c1 => exact one_new wr _ _
        case c2 => intro u hu; simp at hu; subst hu; rfl
        case c3 => unfold maxLen; omega
        case c4 => omega
        case c5 => have := HB.out.size; simp; omega
        intro v' w1 hown' hgrow _
        have hr := Round.step HB.out HX hown' hgrow (hB := HB.out.size) (hxs := (show L.map strL ++ [strL P] = (L ++ [P]).map strL by rw [List.map_append]; rfl))
        clear hown' hgrow
        obtain ⟨hown1, hbel1⟩ := hr
        have HO1 : Hid (RowL w1 w.heap.size v' (L ++ [P])) := Lib.hid (by unfold RowL; rw [List.length_append]; exact hown1)
        have HB1 := Lib.hid hbel1
        clear hown1 hbel1 HX
        go_wp2
        go_roundw
        case rel => exact ⟨i + 1, i + 1, L ++ [P], by go_num, by go_num, Nat.le_refl _, by omega, by rw [List.length_append]; simp; omega, HO1, HB1, Lib.hid (by rw [Nat.sub_self, List.take_zero]; exact HN.out)⟩
        case measure => simp [intOf]; omega
      · have hS : S[i]'hlt ≠ 10 := fun e => h10 (by rw [e] at hcE; exact (Int.ofNat.inj hcE).symm)
        have HN : Hid (L ++ glueN ((S.drop f).take (i + 1 - f)) (cutN 10 (S.drop (i + 1))) = cutN 10 S) := Lib.hid (by
          rw [← HE1.out, List.drop_eq_getElem_cons hlt, glueN_other _ _ hS, HP.out, mid_more S hfi hlt])
        have e1 : ((c : Int) == 10) = false := by simp; omega
        clear hS HX
        go_wp2
        go_roundw
        case rel => exact ⟨f, i + 1, L, rfl, by go_num, by omega, by omega, by omega, HO, HB, HN⟩
        case measure => simp [intOf]; omega
    · obtain rfl : i = S.length := by omega
      have HN : Hid (L ++ [S.drop f] = cutN 10 S) := Lib.hid (by
        rw [← HE.out, List.drop_length, List.take_of_length_le (by rw [List.length_drop]; omega)]
        simp [cutN, glueN])
      clear HE
      by_cases hf : f < S.length
      · have HLF : Hid (linesF S = L ++ [S.drop f]) := Lib.hid (by
          rw [linesF_last HN.out, if_neg (fun e => by have h := congrArg List.length e; rw [List.length_drop] at h; simp at h; omega)])
        have hsl : ∀ W, (Instr.slice 9 (.string ⟨S.toArray⟩) (some (.int .i64 (f : Nat))) none none).run Tryz.prog W = .ok (.string ⟨(S.drop f).toArray⟩) W := fun W => by
          rw [run_slice_string_from_if W _ _ _ _ Tryz.underlying9, if_pos ⟨by omega, by show (f : Int) ≤ (S.length : Int); omega⟩, show ((f : Int)).toNat = f from by omega, extract_from]
        obtain ⟨P, hP⟩ : ∃ P, P = S.drop f := ⟨_, rfl⟩
        rw [← hP] at hsl HLF
        clear hP HN
        go_wp2_with (at_builtin; refine wpList_append_own _ rfl _ _ 44 rfl w.heap.size 9 i0 (.string ByteArray.empty) 1 16 Tryz.underlying44 hi hz0 hz1 hz2 rfl (by decide) _ _ _ rfl (HX.alloc _) ⟨wr.heap.size, 0, none⟩ 1 1 [.string ⟨P.toArray⟩] rfl rfl ?c1 ?c2 ?c3 ?c4 ?c5 ?_)
        case c1 => exact one_new wr _ _
        case c2 => intro u hu; simp at hu; subst hu; rfl
        case c3 => unfold maxLen; omega
        case c4 => omega
        case c5 => have := HB.out.size; simp; omega
        intro v' w1 hown' hgrow _
        have hr := Round.step HB.out HX hown' hgrow (hB := HB.out.size) (hxs := (show L.map strL ++ [strL P] = (L ++ [P]).map strL by rw [List.map_append]; rfl))
        clear hown' hgrow
        obtain ⟨hown1, hbel1⟩ := hr
        have HO1 : Hid (RowL w1 w.heap.size v' (L ++ [P])) := Lib.hid (by unfold RowL; rw [List.length_append]; exact hown1)
        have HB1 := Lib.hid hbel1
        clear hown1 hbel1 HX
        go_wp2
        go_ret
        exact ⟨_, rfl, by rw [HLF.out]; exact HO1.out, HB1.out⟩
      · have HLF : Hid (linesF S = L) := Lib.hid (by
          rw [linesF_last HN.out, if_pos (List.eq_nil_of_length_eq_zero (by rw [List.length_drop]; omega))])
        have d1 : decide ((f : Int) < (S.length : Int)) = false := by simp; omega
        have d2 : decide (f < S.length) = false := by simp; omega
        clear HN HX
        go_wp2
        go_ret
        exact ⟨_, rfl, by rw [HLF.out]; exact HO.out, HB.out⟩
end dumpW
end Go.Proofs.YtbhhfdajaoemnaaGreatDoor

namespace Go.Proofs.YtbhhfdajaoemnaaGreatDoor
open Go.RowKit Go.Bus Go.Bus.cellK Go.Bus.dumpK Go.Bus.textK
set_option linter.unusedVariables false
set_option linter.unusedSimpArgs false
namespace dumpW
def RFi (S : List UInt8) (w : World) (e : Ending) (w' : World) : Prop := Below w.heap.size w w' ∧
  match fileF S with
  | .error (no, k) => e = .returned (.tuple #[.slice none 0 0, .int .i64 no, .int .i64 (k : Nat)])
  | .ok ls => ∃ A c xs, e = .returned (.tuple #[.slice A ls.length c, .int .i64 0, .int .i64 0]) ∧ OwX 5 lineO w' (Iv w.heap.size w'.heap.size) w.heap.size 43 (.slice A ls.length c) ls xs
theorem own_lenQ {w : World} {base : Nat} {e : TypeId} {k n m : Nat} {A : Option Addr} {c : Nat} {xs : List Value} (h : w.ownsRow base e k (.slice A m c) n xs) : m = n := by
  rcases h.2 with ⟨h0, h1⟩ | ⟨g, cap, cur, hv, _⟩
  · simp only [Value.slice.injEq] at h0; omega
  · simp only [Value.slice.injEq] at hv; exact hv.2.1
theorem RFi.many {S : List UInt8} {w w' : World} (h : fileF S = .error (5, 0)) (hb : Below w.heap.size w w') : RFi S w (.returned (.tuple #[.slice none 0 0, .int .i64 5, .int .i64 0])) w' := ⟨hb, by rw [h]; rfl⟩
theorem RFi.bad {S : List UInt8} {w w' : World} {no : Int} {k : Nat} (h : fileF S = .error (no, k + 1)) (hb : Below w.heap.size w w') : RFi S w (.returned (.tuple #[.slice none 0 0, .int .i64 no, .int .i64 ((k : Int) + 1)])) w' := ⟨hb, by rw [h]; rfl⟩
theorem RFi.good {S : List UInt8} {w w' : World} {A : Option Addr} {n c : Nat} {ls : List Ln} {xs : List Value} (h : fileF S = .ok ls) (hn : n = ls.length) (hb : Below w.heap.size w w') (ho : OwX 5 lineO w' (Iv w.heap.size w'.heap.size) w.heap.size 43 (.slice A n c) ls xs) : RFi S w (.returned (.tuple #[.slice A n c, .int .i64 0, .int .i64 0])) w' := ⟨hb, by rw [h]; subst hn; exact ⟨_, _, _, rfl, ho⟩⟩
set_option maxRecDepth 100000 in
set_option maxHeartbeats 16000000 in
theorem rfile_any (S : List UInt8) (w : World) : Calls Tryz.prog 23 #[.string ⟨S.toArray⟩] w (RFi S w) := by
  obtain ⟨i0, hi, hi0, hi1, hi2⟩ := info_parts Tryz.infoLn
  by_cases hl : 1048576 < S.length
  · have HF : Hid (fileF S = .error (5, 0)) := Lib.hid (by unfold fileF; rw [if_pos hl])
    have d1 : decide ((1048576 : Int) < (S.length : Int)) = true := by simp; omega
    have d2 : decide (1048576 < S.length) = true := by simp; omega
    obtain ⟨SB, hSB⟩ : ∃ SB : ByteArray, SB = ⟨S.toArray⟩ := ⟨_, rfl⟩
    have hsz : SB.size = S.length := by rw [hSB]; show S.toArray.size = S.length; simp
    rw [← hSB]
    clear hSB hl
    go_enter Tryz.func23, Tryz.ntmps23
    go_wp2
    go_ret3
    exact RFi.many HF.out (by repeat' (first | (with_reducible assumption) | (with_reducible refine Below.setCell ?_ ?_ _) | (with_reducible refine Below.alloc ?_ ?_ _) | (with_reducible refine Below.drew ?_) | (with_reducible refine below_drewN ?_ _) | (with_reducible exact Below.refl _ _) | (show _ ≤ _; (try simp); (try omega); done) | exact Below.refl _ _ | assumption))
  have HSP := Lib.hid (rlines_any S (by omega) w)
  have d1 : decide ((1048576 : Int) < (S.length : Int)) = false := by simp; omega
  have d2 : decide (1048576 < S.length) = false := by simp; omega
  have HFI : Hid (fileF S = if 4096 < (linesF S).length then .error (5, 0) else goF (linesF S) 0) := Lib.hid (by unfold fileF; rw [if_neg (by omega)])
  have HME := Lib.hid (fun (x : List UInt8) (h : x ∈ linesF S) => linesF_mem (S := S) h)
  have HLS := Lib.hid hl
  have hLS : (linesF S).length ≤ 1048577 := by have h1 := linesF_le S; have h2 := List.count_le_length (a := (10 : UInt8)) (l := S); omega
  obtain ⟨L, hL⟩ : ∃ L, L = linesF S := ⟨_, rfl⟩
  rw [← hL] at HFI HME hLS HSP
  obtain ⟨SB, hSB⟩ : ∃ SB : ByteArray, SB = ⟨S.toArray⟩ := ⟨_, rfl⟩
  have hsz : SB.size = S.length := by rw [hSB]; show S.toArray.size = S.length; simp
  rw [← hSB] at HSP ⊢
  clear hSB hL hl
  go_enter Tryz.func23, Tryz.ntmps23
  go_wp2_with fail
  refine (HSP.out).mono ?_
  rintro e w1 ⟨v, rfl, hrow, hb1⟩
  have HB1 := Lib.hid hb1
  unfold RowL at hrow
  obtain ⟨A0, c0, rfl⟩ := own_sliceQ hrow
  have HRW := Lib.hid hrow
  have HCE : Hid (∀ j (h : j < L.length), ∃ g, A0 = some ⟨g, 0, none⟩ ∧ g < w1.heap.size ∧ w1.cell? ⟨g, j, none⟩ = some (.string ⟨L[j].toArray⟩)) := Lib.hid (fun j h => by
    obtain ⟨g, cap, hv, -, -⟩ := own_form HRW.out (by omega)
    simp only [Value.slice.injEq] at hv
    obtain ⟨rfl, -, rfl⟩ := hv
    refine ⟨g, rfl, (HRW.out.lt g rfl).2, ?_⟩
    rw [HRW.out.cellAt j (by omega), List.getElem?_map, List.getElem?_eq_getElem h]
    rfl)
  have hz1 := hb1.size
  clear hb1 hrow HSP
  by_cases hmany : 4096 < L.length
  · have HF : Hid (fileF S = .error (5, 0)) := Lib.hid (by rw [HFI.out, if_pos hmany])
    have d5 : decide ((4096 : Int) < (L.length : Int)) = true := by simp; omega
    have d6 : decide (4096 < L.length) = true := by simp; omega
    clear hmany
    go_wp2
    go_ret3
    exact RFi.many HF.out (by have hB := HB1.out; exact (by repeat' (first | (with_reducible assumption) | (with_reducible refine Below.setCell ?_ ?_ _) | (with_reducible refine Below.alloc ?_ ?_ _) | (with_reducible refine Below.drew ?_) | (with_reducible refine below_drewN ?_ _) | (with_reducible exact Below.refl _ _) | (show _ ≤ _; (try simp); (try omega); done) | exact Below.refl _ _ | assumption)))
  have HF : Hid (fileF S = goF L 0) := Lib.hid (by rw [HFI.out, if_neg hmany])
  have d5 : decide ((4096 : Int) < (L.length : Int)) = false := by simp; omega
  have d6 : decide (4096 < L.length) = false := by simp; omega
  have HL4 : Hid (L.length ≤ 4096) := Lib.hid (by omega)
  have hL4 : L.length ≤ 4096 := by omega
  clear hmany
  go_wp2
  go_loopw [6, 7] (fun ov iv wr => ∃ (done : List Ln) (xs : List Value), iv = .int .i64 (done.length : Nat) ∧ done.length ≤ L.length ∧ Hid (OwX 5 lineO wr (Iv w1.heap.size wr.heap.size) w1.heap.size 43 ov done xs) ∧ Hid (GoI L done.length done) ∧ Hid (Below w1.heap.size w1 wr)) (fun _ iv _ => L.length - (intOf iv).toNat)
  case atStart => exact ⟨[], [], rfl, Nat.zero_le _, Lib.hid (OwX.nil_ _ _ _ _ _ _), Lib.hid (goI_start L), Lib.hid (Below.refl _ _)⟩
  case round =>
    obtain ⟨done, xs, rfl, hdl, HO, HG, HBr⟩ := hrel
    have hzr := HBr.out.size
    obtain ⟨pA, pc, rfl⟩ := own_sliceL HO.out.1
    have HBw : Hid (Below w.heap.size w wr) := Lib.hid (HB1.out.trans (HBr.out.mono HB1.out.size))
    by_cases hlt2 : done.length < L.length
    · obtain ⟨g0, rfl, hg0, cx0⟩ := HCE.out done.length hlt2
      have cx : wr.cell? ⟨g0, done.length, none⟩ = some (.string ⟨L[done.length].toArray⟩) := (HBr.out.cell (p := ⟨g0, done.length, none⟩) hg0).trans cx0
      have zg : g0 < wr.heap.size := Nat.lt_of_lt_of_le hg0 hzr
      obtain ⟨X, hX⟩ : ∃ X, X = L[done.length] := ⟨_, rfl⟩
      rw [← hX] at cx
      have HXL : Hid (X.length ≤ 16777216) := Lib.hid (by have h1 := HME.out X (by rw [hX]; exact List.getElem_mem hlt2); have h2 := HLS.out; omega)
      have HPA := Lib.hid (rparse_any X HXL.out wr)
      obtain ⟨XB, hXB⟩ : ∃ XB : ByteArray, XB = ⟨X.toArray⟩ := ⟨_, rfl⟩
      rw [← hXB] at HPA cx
      have HX := Lib.hid hX
      clear hXB hX cx0 hg0
      go_wp2_with fail
      refine HPA.out.mono ?_
      rintro e w2 ⟨hb, hp⟩
      have HB2 := Lib.hid hb
      have hz2 := HB2.out.size
      cases hpf : parseF X with
      | error no =>
        rw [hpf] at hp
        unfold zeroL at hp
        subst hp
        have hno := parseF_no hpf
        have e0 : (no == 0) = false := by rw [beq_eq_false_iff_ne]; omega
        have HE : Hid (fileF S = .error (no, done.length + 1)) := Lib.hid (by rw [HF.out]; exact goI_bad hlt2 HG.out (by rw [← HX.out]; exact hpf))
        clear hb hpf HPA
        go_wp2
        go_ret3
        exact RFi.bad HE.out (Below.trans (by have hB := HBw.out; have hs := hB.size; exact (by repeat' (first | (with_reducible assumption) | (with_reducible refine Below.setCell ?_ ?_ _) | (with_reducible refine Below.alloc ?_ ?_ _) | (with_reducible refine Below.drew ?_) | (with_reducible refine below_drewN ?_ _) | (with_reducible exact Below.refl _ _) | (show _ ≤ _; (try simp); (try omega); done) | exact Below.refl _ _ | assumption))) (((HB2.out.alloc hz2 _)).mono (by omega)))
      | ok l =>
        rw [hpf] at hp
        obtain ⟨v, rfl, hown⟩ := hp
        obtain ⟨A9, c9, rfl⟩ := own_sliceQ hown
        have HN := Lib.hid (lineO_new (l := l) hown)
        have HG2 : Hid (GoI L (done.length + 1) (done ++ [l])) := Lib.hid (goI_next hlt2 HG.out (by rw [← HX.out]; exact hpf))
        clear hb hpf HPA hown
        unfold lnC
        go_wp2_with (at_builtin; refine wpList_append_own_at _ rfl _ _ 24 rfl w1.heap.size 43 i0 (.agg #[.int .u64 0, .string ⟨#[]⟩, .int .u32 0, .bool false, .slice none 0 0]) 5 56 Tryz.underlying24 hi hi0 hi1 hi2 rfl (by decide) _ done.length xs rfl (by exact ((own_kept HO.out.1 HB2.out).alloc _).alloc _) ⟨w2.heap.size + 1, 0, none⟩ 1 1 (lnC l (.slice A9 l.data.length c9)) rfl rfl (news_ln1 w2 _ _ _) (lnC_one l) (by have := HL4.out; unfold maxLen; omega) (by have := HL4.out; omega) (by simp; omega) ?_)
        intro v7 w7 ho7 hg7 _ hat7
        have HB4 : Hid (Below w2.heap.size w2 ((w2.alloc (.cells #[.int .u64 (l.time : Nat), .string ⟨l.port.toArray⟩, .int .u32 (l.id : Nat), .bool l.wide, .slice A9 l.data.length c9] 43)).alloc (.cells #[.int .u64 (l.time : Nat), .string ⟨l.port.toArray⟩, .int .u32 (l.id : Nat), .bool l.wide, .slice A9 l.data.length c9] 43))) := Lib.hid (by repeat' (first | (with_reducible assumption) | (with_reducible refine Below.setCell ?_ ?_ _) | (with_reducible refine Below.alloc ?_ ?_ _) | (with_reducible refine Below.drew ?_) | (with_reducible refine below_drewN ?_ _) | (with_reducible exact Below.refl _ _) | (show _ ≤ _; (try simp); (try omega); done) | exact Below.refl _ _ | assumption))
        have HO7 := Lib.hid (HO.out.snoc lineO_mono (Nat.le_refl _) hzr HB2.out HN.out rfl HB4.out hg7 ho7 (hat7.imp id (fun h3 g hg' => by rw [h3] at hg'; cases hg'; simp)))
        have HB7 : Hid (Below w1.heap.size w1 w7) := Lib.hid (Below.grown ((HBr.out.trans (HB2.out.mono hzr)).trans (HB4.out.mono (by omega))) hg7 (by simp; omega) fun r hr => (HO.out.1.lt r hr).1)
        clear ho7 hg7 hat7
        go_wp2
        go_roundw
        case rel => exact ⟨done ++ [l], _, by rw [List.length_append]; go_num, by rw [List.length_append]; simp; omega, HO7, by rw [List.length_append]; exact HG2, HB7⟩
        case measure => simp [intOf]; omega
    · have hdn : done.length = L.length := by omega
      have HFI2 : Hid (fileF S = .ok done) := Lib.hid (by rw [HF.out]; exact goI_done (by rw [← hdn]; exact HG.out))
      have d9 : decide ((done.length : Int) < (L.length : Int)) = false := by simp; omega
      have d9n : decide (done.length < L.length) = false := by simp; omega
      clear hlt2
      go_wp2
      go_ret3
      exact RFi.good HFI2.out (own_lenQ HO.out.1) HBw.out ((OwX.base_ HO.out HB1.out.size).keep lineO_mono (fun b hb => ⟨Nat.le_trans HB1.out.size hb.1, hb.2⟩) (fun _ _ => rfl))
end dumpW
end Go.Proofs.YtbhhfdajaoemnaaGreatDoor

namespace Go.Proofs.YtbhhfdajaoemnaaGreatDoor
open Go.RowKit Go.Bus Go.Bus.cellK Go.Bus.dumpK Go.Bus.farmK Go.Proofs.YtbhhfdajaoemnaaGreatDoor.dumpW
set_option linter.unusedVariables false
set_option linter.unusedSimpArgs false
namespace bookK
theorem infoLRows : (Tryz.prog.info? 24).map (fun i => (i.zero, i.size, i.bytes)) = some (some (.slice none 0 0), 1, 24) := by kernel_rfl
theorem parts_flat {k : Nat} : ∀ (n : Nat) (xs : List Value), xs.length = n * k → (List.range n).flatMap (eltOf k xs) = xs
  | 0, xs, h => by rw [Nat.zero_mul] at h; rw [List.eq_nil_of_length_eq_zero h]; rfl
  | n + 1, xs, h => by
    rw [Nat.add_mul, Nat.one_mul] at h
    have h1 : (xs.take (n * k)).length = n * k := by rw [List.length_take]; omega
    have ih := parts_flat n (xs.take (n * k)) h1
    rw [List.range_succ, List.flatMap_append]
    have e1 : (List.range n).flatMap (eltOf k xs) = (List.range n).flatMap (eltOf k (xs.take (n * k))) := by
      rw [List.flatMap_def, List.flatMap_def]
      congr 1
      refine List.map_congr_left fun i hi => ?_
      have hin := List.mem_range.1 hi
      have h2 : (i + 1) * k ≤ n * k := Nat.mul_le_mul_right k hin
      rw [Nat.add_mul, Nat.one_mul] at h2
      unfold eltOf
      rw [List.drop_take, List.take_take, Nat.min_eq_left (by omega)]
    rw [e1, ih]
    have e2 : eltOf k xs n = xs.drop (n * k) := by
      unfold eltOf
      rw [List.take_of_length_le (by rw [List.length_drop]; omega)]
    simp only [List.flatMap_cons, List.flatMap_nil, List.append_nil, e2]
    exact List.take_append_drop _ _
/-- A row of lines: its elements' bytes, one row each; its cells. -/
structure RowsOf (w : World) (F : Foot) (v : Value) (ls : List Ln) (xs : List Value) (D : List Value) : Prop where
  len : D.length = ls.length
  elt : ∀ i (h : i < ls.length), eltOf 5 xs i = lnC ls[i] (D[i]'(by rw [len]; exact h))
  own : ∀ i (h : i < ls.length), w.ownsRow 0 5 1 (D[i]'(by rw [len]; exact h)) ls[i].data.length (ls[i].data.map (Value.int .u8))
  foot : ∀ i (h : i < ls.length) g, (D[i]'(by rw [len]; exact h)).ownBlock = some g → F g
  apart : ∀ i j (h : i < ls.length) (h' : j < ls.length), i ≠ j → ∀ g, (D[i]'(by rw [len]; exact h)).ownBlock = some g → (D[j]'(by rw [len]; exact h')).ownBlock ≠ some g
theorem rows_of {w : World} {F : Foot} {base : Nat} {v : Value} {ls : List Ln} {xs : List Value} (h : OwX 5 lineO w F base 43 v ls xs) : ∃ D, RowsOf w F v ls xs D := by
  obtain ⟨ho, hF, Fs, hx, hFs, hd⟩ := h
  have hel : ∀ i, ∃ sv : Value, ∀ (h : i < ls.length), eltOf 5 xs i = lnC ls[i] sv ∧ w.ownsRow 0 5 1 sv ls[i].data.length (ls[i].data.map (Value.int .u8)) ∧ ∀ g, sv.ownBlock = some g → Fs i g := by
    intro i
    by_cases hi : i < ls.length
    · obtain ⟨sv, h1, h2, h3⟩ := hx i _ (List.getElem?_eq_getElem hi)
      exact ⟨sv, fun _ => ⟨h1, h2, h3⟩⟩
    · exact ⟨.nilIface, fun h => absurd h hi⟩
  obtain ⟨f, hf⟩ := Classical.axiomOfChoice hel
  refine ⟨(List.range ls.length).map f, by simp, fun i hi => ?_, fun i hi => ?_, fun i hi g hg => ?_, fun i j hi hj hij g hg he => ?_⟩
  · simp only [List.getElem_map, List.getElem_range]; exact (hf i hi).1
  · simp only [List.getElem_map, List.getElem_range]; exact (hf i hi).2.1
  · simp only [List.getElem_map, List.getElem_range] at hg; exact (hFs i hi g ((hf i hi).2.2 g hg)).1
  · simp only [List.getElem_map, List.getElem_range] at hg he
    exact hd i j hi hj hij g ((hf i hi).2.2 g hg) ((hf j hj).2.2 g he)
theorem l5_of {w : World} {F : Foot} {base : Nat} {v : Value} {ls : List Ln} {xs : List Value} (h : OwX 5 lineO w F base 43 v ls xs) : ∃ La : List apartLn.L5, La.length = ls.length ∧ La.flatMap apartLn.lC = xs := by
  obtain ⟨ho, hF, Fs, hx, hFs, hd⟩ := h
  have hel : ∀ i, ∃ x : apartLn.L5, i < ls.length → apartLn.lC x = eltOf 5 xs i := by
    intro i
    by_cases hi : i < ls.length
    · have hr := lineO_R (hx i _ (List.getElem?_eq_getElem hi))
      obtain ⟨sv, h1, h2⟩ := hr
      obtain ⟨A, c, rfl, -, -⟩ := h2.form
      exact ⟨⟨ls[i].time, ⟨ls[i].port.toArray⟩, ls[i].id, ls[i].wide, A, _, c⟩, fun _ => h1.symm⟩
    · exact ⟨⟨0, ⟨#[]⟩, 0, false, none, 0, 0⟩, fun h => absurd h hi⟩
  obtain ⟨f, hf⟩ := Classical.axiomOfChoice hel
  refine ⟨(List.range ls.length).map f, by simp, ?_⟩
  rw [List.flatMap_map]
  have h1 := parts_flat ls.length xs ho.1
  rw [← h1]
  conv => rhs; rw [← h1]
  rw [List.flatMap_def, List.flatMap_def]
  congr 1
  refine List.map_congr_left fun i hi => ?_
  rw [hf i (List.mem_range.1 hi), h1]
def BkL (q : Nat) (xs ys : List Value) (w : World) (e : Ending) (w' : World) : Prop := ∃ vb' vl', e = .returned (.tuple #[]) ∧ Bk w' q vb' vl' xs ys ∧ Below q w w'
set_option maxRecDepth 100000 in
set_option maxHeartbeats 8000000 in
theorem lines_any (q g : Nat) (vb vl : Value) (xs ys D : List Value) (ls : List Ln) (A : Option Addr) (c : Nat) (w : World) (h : Bk w q vb vl xs ys) (hn : xs.length + ls.length ≤ 1000000000) (hy : ys.length ≤ 1000) (hcl : ls.length ≤ c) (hcm : c ≤ 9223372036854775807)
    (hD : D.length = ls.length) (hA : 0 < ls.length → A = some ⟨g, 0, none⟩ ∧ g < q) (hsl : ∀ i (h : i < ls.length), (∃ A' c', (D[i]'(by rw [hD]; exact h)) = .slice A' ls[i].data.length c') ∧ w.rangeAt g (i * 5) (lnC ls[i] (D[i]'(by rw [hD]; exact h)))) :
    Calls Tryz.prog 24 #[.pointer (some ⟨q, 0, none⟩), .slice A ls.length c] w (BkL q (xs ++ D) (ys ++ [.slice A ls.length c]) w) := by
  obtain ⟨i0, hi, hz0, hz1, hz2⟩ := info_parts infoLRows
  have hi1 : (Tryz.prog.info? 43).map (·.size) = some 5 := by kernel_rfl
  have HI1 := Lib.hid hi1
  have HB := Lib.hid h
  have HA := Lib.hid hA
  have HSL := Lib.hid hsl
  have HD := Lib.hid hD
  have c14 : w.cell? ⟨q, 14, none⟩ = some vl := h.has.cell 14
  have zq : q < w.heap.size := h.has.lt
  clear h hA hsl hi1
  go_enter Tryz.func24, Tryz.ntmps24
  go_wp2_with (at_builtin; refine wpList_append_own _ rfl _ _ 66 rfl q 24 i0 (.slice none 0 0) 1 24 Tryz.underlying66 hi hz0 hz1 hz2 rfl (by decide) _ _ _ rfl (HB.out.row2.alloc _) ⟨w.heap.size, 0, none⟩ 1 1 [.slice A ls.length c] rfl rfl (one_new w _ _) (by intro u hu; simp at hu; subst hu; rfl) (by unfold maxLen; omega) (by omega) (by simp; omega) ?_)
  intro v7 w7 ho7 hg7 _
  obtain ⟨g7, p7, rfl, -, -⟩ := own_form ho7 (by omega)
  have hne : (vl.ownBlock : Option Nat) ≠ some q := own_has_ne HB.out.row2 HB.out.has (by decide)
  have hq7 : Has w7 q 68 (bookC vb vl) := (HB.out.has.alloc _).grown hg7 (fun e => hne e.symm)
  have HQ7 := Lib.hid hq7
  have HO7 := Lib.hid ho7
  have HR7 := Lib.hid (show w7.ownsRow q 38 1 vb xs.length xs from (HB.out.row.alloc _).kept hg7 (by
    cases hv : vb.ownBlock with
    | none => exact .inl rfl
    | some k => exact .inr (fun e => farmK.own_ne_own HB.out.row HB.out.row2 (by decide) k hv e.symm)))
  have HB7 := Lib.hid (Below.grown (((Below.refl w.heap.size w).alloc (Nat.le_refl _) (.cells #[.slice A ls.length c] 24)).mono (Nat.le_of_lt zq)) hg7 (by simp; omega) fun r hr => (HB.out.row2.lt r hr).1)
  have c7 : w7.cell? ⟨q, 14, none⟩ = some vl := hq7.cell 14
  have f7 : w7.frozen? ⟨q, 14, none⟩ = false := hq7.frozen 14
  have zq7 : q < w7.heap.size := hq7.lt
  clear ho7 hg7 hq7 hne
  have HK8 : Hid (Bk (w7.setCell ⟨q, 14, none⟩ (.slice (some ⟨g7, 0, none⟩) (ys.length + 1) p7)) q vb (.slice (some ⟨g7, 0, none⟩) (ys.length + 1) p7) xs (ys ++ [.slice A ls.length c])) := Lib.hid ⟨HQ7.out.set 14 _, own_far HR7.out HQ7.out (by decide) (only_set (World.grownBy.refl _ _) 14 _), by
    rw [List.length_append]
    exact own_far HO7.out HQ7.out (by decide) (only_set (World.grownBy.refl _ _) 14 _)⟩
  have HB8 : Hid (Below q w (w7.setCell ⟨q, 14, none⟩ (.slice (some ⟨g7, 0, none⟩) (ys.length + 1) p7))) := Lib.hid (below_only HB7.out (only_set (World.grownBy.refl _ _) 14 _) (Nat.le_of_lt zq7) (Nat.le_refl _))
  go_wp2
  go_loopw [4] (fun iv wr => ∃ (k : Nat) (vb' : Value), iv = .int .i64 (k : Nat) ∧ k ≤ ls.length ∧ Hid (Bk wr q vb' (.slice (some ⟨g7, 0, none⟩) (ys.length + 1) p7) (xs ++ D.take k) (ys ++ [.slice A ls.length c])) ∧ Hid (Below q w wr)) (fun iv _ => ls.length - (intOf iv).toNat)
  case atStart => exact ⟨0, vb, rfl, Nat.zero_le _, by rw [List.take_zero, List.append_nil]; exact HK8, HB8⟩
  case round =>
    obtain ⟨k, vb', rfl, hk, HK, HBr⟩ := hrel
    by_cases hlt : k < ls.length
    · obtain ⟨rfl, hgq⟩ := HA.out (by omega)
      obtain ⟨⟨A', c', hDk⟩, hrg⟩ := HSL.out k hlt
      rw [hDk] at hrg
      have HRG : Hid (wr.rangeAt g (k * 5) (lnC ls[k] (.slice A' ls[k].data.length c'))) := Lib.hid (fun j u hj => (HBr.out.cell (p := ⟨g, k * 5 + j, none⟩) hgq).trans (hrg j u hj))
      have HTK : Hid (D.take (k + 1) = D.take k ++ [.slice A' ls[k].data.length c']) := Lib.hid (by rw [List.take_succ_eq_append_getElem (by rw [HD.out]; exact hlt), hDk])
      have HLX : Hid ((xs ++ D.take k).length ≤ 1000000000) := Lib.hid (by rw [List.length_append, List.length_take]; omega)
      generalize ls[k] = x at *
      have zg : g < wr.heap.size := Nat.lt_trans hgq HK.out.has.lt
      clear hrg hDk
      unfold lnC at HRG
      go_wp2_with (refine wpList_load_mid rfl 43 _ rfl g (k * 5) rfl [.int .u64 (x.time : Nat), .string ⟨x.port.toArray⟩, .int .u32 (x.id : Nat), .bool x.wide, .slice A' x.data.length c'] _ (by exact HRG.out) Tryz.underlying43 rfl (HI1.out) ?_)
      refine (line_any q vb' _ _ _ _ _ _ _ A' x.data.length c' wr HK.out HLX.out).mono ?_
      rintro e w9 ⟨vb9, rfl, hk9, hb9⟩
      have HK9 : Hid (Bk w9 q vb9 (.slice (some ⟨g7, 0, none⟩) (ys.length + 1) p7) (xs ++ D.take (k + 1)) (ys ++ [.slice (some ⟨g, 0, none⟩) ls.length c])) := Lib.hid (by rw [HTK.out, ← List.append_assoc]; exact hk9)
      have HB9 : Hid (Below q w w9) := Lib.hid (HBr.out.trans hb9)
      clear hk9 hb9
      go_wp2
      go_roundw
      case rel => exact ⟨k + 1, vb9, by go_num, by omega, HK9, HB9⟩
      case measure => simp [intOf]; omega
    · obtain rfl : k = ls.length := by omega
      have HKF : Hid (Bk wr q vb' (.slice (some ⟨g7, 0, none⟩) (ys.length + 1) p7) (xs ++ D) (ys ++ [.slice A ls.length c])) := Lib.hid (by have h := HK.out; rwa [List.take_of_length_le (by rw [HD.out]; exact Nat.le_refl _)] at h)
      go_wp2
      go_end0
      exact ⟨_, _, rfl, HKF.out, HBr.out⟩
end bookK
end Go.Proofs.YtbhhfdajaoemnaaGreatDoor

namespace Go.Proofs.YtbhhfdajaoemnaaGreatDoor
open Go.RowKit Go.Bus Go.Bus.cellK Go.Bus.dumpK Go.Bus.farmK Go.Proofs.YtbhhfdajaoemnaaGreatDoor.dumpW
set_option linter.unusedVariables false
set_option linter.unusedSimpArgs false
namespace bookK
theorem kt_own {w w1 : World} {base s n : Nat} {e : TypeId} {v : Value} {xs : List Value} (h : w.ownsRow base e s v n xs) (hk : apartB.KT w w1) (h1 : e ≠ 5) (h2 : e ≠ 38) : w1.ownsRow base e s v n xs := by
  refine ⟨h.1, ?_⟩
  rcases h.2 with h3 | ⟨g, cap, cur, rfl, hb, hg, rest⟩
  · exact .inl h3
  · exact .inr ⟨g, cap, cur, rfl, hb, hk g e cur h1 h2 hg, rest⟩
set_option maxRecDepth 100000 in
set_option maxHeartbeats 8000000 in
theorem book_apart2 {q base : Nat} {vb vl : Value} {rows : List (Value × List Int)} {lrows : List apartLn.Row} {w : World} (h : Bk w q vb vl (rows.map (·.1)) (lrows.map (·.1))) (hF : Farm w base 5 (Value.int .u8) rows) (hG : Go.Bus.farmC.Farm w base 43 5 apartLn.lC lrows) (hbase : base ≤ w.heap.size) (hN : rows.length ≤ 1000000) (hlen : ∀ p ∈ rows, p.2.length ≤ 1000000000)
    (hM : lrows.length ≤ 1000000) (hM0 : 0 < lrows.length) (hlen2 : ∀ p ∈ lrows, p.2.length ≤ 1000000000) :
    Calls Tryz.prog 22 #[.pointer (some ⟨q, 0, none⟩)] w fun e w' => e = .returned (.bool true) ∧ Below base w w' := by
  have hrow := h.row
  rw [List.length_map] at hrow
  have hrow2 := h.row2
  rw [List.length_map] at hrow2
  have HA := Lib.hid (bytes_apart hrow hF hbase hN hlen)
  have HAL : Hid (∀ w1, apartB.KT w w1 → w.heap.size ≤ w1.heap.size → Calls Tryz.prog 56 #[vl] w1 fun e w' => e = .returned (.bool true) ∧ Below base w1 w') := Lib.hid (fun w1 hk hs => by
    obtain ⟨g, cap, cs, rfl, h1, h2, h3⟩ := own_has (kt_own hrow2 hk (by decide) (by decide)) hM0
    exact apartLn.apart_any g base cap cs lrows w1 h2 (fun j p hp => h3 j p.1 (by rw [List.getElem?_map, hp]; rfl)) h1 ⟨fun i v z hi => kt_own (hG.own i v z hi) hk (by decide) (by decide), hG.apart⟩ (Nat.le_trans hbase hs) hM hM0 hlen2)
  have HH := Lib.hid h.has
  have c0 : w.cell? ⟨q, 0, none⟩ = some vb := h.has.cell 0
  have zq : q < w.heap.size := h.has.lt
  clear h hF hG hlen hlen2 hrow hrow2
  go_enter Tryz.func22, Tryz.ntmps22
  go_wp2_with fail
  refine (HA.out).mono ?_
  rintro e w1 ⟨rfl, hb1, hk1⟩
  have hh1 : Has w1 q 68 (bookC vb vl) := hk1 q _ _ (by decide) (by decide) HH.out
  have HB1 := Lib.hid hb1
  have HC1 := Lib.hid (HAL.out w1 hk1 hb1.size)
  have zq1 : q < w1.heap.size := hh1.lt
  have c1w1 : w1.cell? ⟨q, 1, none⟩ = some (.slice none 0 0) := hh1.cell 1
  have c2w1 : w1.cell? ⟨q, 2, none⟩ = some (.slice none 0 0) := hh1.cell 2
  have c3w1 : w1.cell? ⟨q, 3, none⟩ = some (.slice none 0 0) := hh1.cell 3
  have c4w1 : w1.cell? ⟨q, 4, none⟩ = some (.slice none 0 0) := hh1.cell 4
  have c5w1 : w1.cell? ⟨q, 5, none⟩ = some (.slice none 0 0) := hh1.cell 5
  have c6w1 : w1.cell? ⟨q, 6, none⟩ = some (.slice none 0 0) := hh1.cell 6
  have c7w1 : w1.cell? ⟨q, 7, none⟩ = some (.slice none 0 0) := hh1.cell 7
  have c8w1 : w1.cell? ⟨q, 8, none⟩ = some (.slice none 0 0) := hh1.cell 8
  have c9w1 : w1.cell? ⟨q, 9, none⟩ = some (.slice none 0 0) := hh1.cell 9
  have c10w1 : w1.cell? ⟨q, 10, none⟩ = some (.slice none 0 0) := hh1.cell 10
  have c11w1 : w1.cell? ⟨q, 11, none⟩ = some (.slice none 0 0) := hh1.cell 11
  have c12w1 : w1.cell? ⟨q, 12, none⟩ = some (.slice none 0 0) := hh1.cell 12
  have c13w1 : w1.cell? ⟨q, 13, none⟩ = some (.slice none 0 0) := hh1.cell 13
  have c14w1 : w1.cell? ⟨q, 14, none⟩ = some vl := hh1.cell 14
  clear hb1 hk1 hh1 c0
  go_wp2_with (first | (go_at_call 43; refine (nil_ApartTexts _).mono ?_; rintro e w2 ⟨rfl, rfl⟩) | (go_at_call 44; refine (nil_ApartInts _).mono ?_; rintro e w2 ⟨rfl, rfl⟩) | (go_at_call 45; refine (nil_ApartNumbers _).mono ?_; rintro e w2 ⟨rfl, rfl⟩) | (go_at_call 46; refine (nil_ApartTokens _).mono ?_; rintro e w2 ⟨rfl, rfl⟩) | (go_at_call 47; refine (nil_ApartRows _).mono ?_; rintro e w2 ⟨rfl, rfl⟩) | (go_at_call 48; refine (nil_ApartInstrs _).mono ?_; rintro e w2 ⟨rfl, rfl⟩) | (go_at_call 49; refine (nil_ApartRules _).mono ?_; rintro e w2 ⟨rfl, rfl⟩) | (go_at_call 50; refine (nil_ApartValues _).mono ?_; rintro e w2 ⟨rfl, rfl⟩) | (go_at_call 51; refine (nil_ApartBools _).mono ?_; rintro e w2 ⟨rfl, rfl⟩) | (go_at_call 52; refine (nil_apartSignals _).mono ?_; rintro e w2 ⟨rfl, rfl⟩) | (go_at_call 53; refine (nil_apartMessages _).mono ?_; rintro e w2 ⟨rfl, rfl⟩) | (go_at_call 54; refine (nil_apartTables _).mono ?_; rintro e w2 ⟨rfl, rfl⟩) | (go_at_call 55; refine (nil_apartFrames _).mono ?_; rintro e w2 ⟨rfl, rfl⟩) | (go_at_call 56; refine (HC1.out).mono ?_; rintro e w3 ⟨rfl, hb3⟩; have HB3 := Lib.hid (HB1.out.trans hb3); clear hb3))
  go_ret
  exact ⟨rfl, HB3.out⟩
end bookK
end Go.Proofs.YtbhhfdajaoemnaaGreatDoor

namespace Go.Bus.dumpK
theorem goF_each : ∀ (L : List (List UInt8)) (i : Nat) (ls : List Ln), goF L i = .ok ls → ∀ l ∈ ls, ∃ s, parseF s = .ok l
  | [], i, ls, h, l, hl => by cases h; cases hl
  | s :: r, i, ls, h, l, hl => by
    rw [goF] at h
    cases hp : parseF s with
    | error n => rw [hp] at h; cases h
    | ok x =>
      rw [hp] at h
      simp only at h
      cases hg : goF r (i + 1) with
      | error e => rw [hg] at h; cases h
      | ok m =>
        rw [hg] at h
        cases h
        rcases List.mem_cons.1 hl with rfl | h2
        · exact ⟨s, hp⟩
        · exact goF_each r (i + 1) m hg l h2
theorem fileF_ok {S : List UInt8} {ls : List Ln} (h : fileF S = .ok ls) : ls.length ≤ 4096 ∧ ∀ l ∈ ls, l.data.length ≤ 8 := by
  unfold fileF at h
  split at h
  · cases h
  · split at h
    · cases h
    · rename_i h1 h2
      refine ⟨by rw [goF_len _ _ _ h]; omega, fun l hl => ?_⟩
      obtain ⟨s, hs⟩ := goF_each _ _ _ h l hl
      exact (right_of (back hs).2.1).2.2
end Go.Bus.dumpK
namespace Go.Proofs.YtbhhfdajaoemnaaGreatDoor
open Go.RowKit Go.Bus Go.Bus.cellK Go.Bus.dumpK Go.Bus.farmK Go.Proofs.YtbhhfdajaoemnaaGreatDoor.dumpW
set_option linter.unusedVariables false
set_option linter.unusedSimpArgs false
namespace bookK
theorem RowsOf.keep {w w' : World} {F : Foot} {v : Value} {ls : List Ln} {xs D : List Value} (h : RowsOf w F v ls xs D) (hk : ∀ b, F b → w'.heap[b]? = w.heap[b]?) : RowsOf w' F v ls xs D := by
  refine ⟨h.len, h.elt, fun i hi => ?_, h.foot, h.apart⟩
  have ho := h.own i hi
  refine ⟨ho.1, ?_⟩
  rcases ho.2 with h3 | ⟨g, cap, cur, hv, hb, hg, rest⟩
  · exact .inl h3
  · exact .inr ⟨g, cap, cur, hv, hb, (hk g (h.foot i hi g (by rw [hv]; rfl))).trans hg, rest⟩
theorem own_up {w : World} {base n s : Nat} {e : TypeId} {v : Value} {xs : List Value} (h : w.ownsRow 0 e s v n xs) (hb : ∀ g, v.ownBlock = some g → base ≤ g) : w.ownsRow base e s v n xs := by
  refine ⟨h.1, ?_⟩
  rcases h.2 with h3 | ⟨g, cap, cur, rfl, _, rest⟩
  · exact .inl h3
  · exact .inr ⟨g, cap, cur, rfl, hb g rfl, rest⟩
theorem lines_fit {w : World} {F : Foot} {base c : Nat} {A : Option Addr} {ls : List Ln} {xs D : List Value} (h : OwX 5 lineO w F base 43 (.slice A ls.length c) ls xs) (hD : RowsOf w F (.slice A ls.length c) ls xs D) :
    ∃ g, (0 < ls.length → A = some ⟨g, 0, none⟩ ∧ g < w.heap.size) ∧ (∀ i (hi : i < ls.length), (∃ A' c', (D[i]'(by rw [hD.len]; exact hi)) = .slice A' ls[i].data.length c') ∧ w.rangeAt g (i * 5) (lnC ls[i] (D[i]'(by rw [hD.len]; exact hi)))) ∧ ls.length ≤ c ∧ c ≤ 9223372036854775807 := by
  have ho := h.1
  have hs : ∀ i (hi : i < ls.length), ∃ A' c', (D[i]'(by rw [hD.len]; exact hi)) = .slice A' ls[i].data.length c' := fun i hi => own_sliceQ (hD.own i hi)
  rcases ho.2 with ⟨hv, h0⟩ | ⟨g, cap, cur, hv, hb, hg, h1, h2, rest⟩
  · simp only [Value.slice.injEq] at hv
    exact ⟨0, fun h => by omega, fun i hi => by omega, by omega, by omega⟩
  · simp only [Value.slice.injEq] at hv
    obtain ⟨rfl, _, rfl⟩ := hv
    refine ⟨g, fun _ => ⟨rfl, (ho.lt g rfl).2⟩, fun i hi => ⟨hs i hi, fun j u hj => ?_⟩, h1, by unfold maxLen at h2; omega⟩
    rw [← hD.elt i hi] at hj
    obtain ⟨h3, h4⟩ := eltOf_get hj
    have h5 := ho.cells (g := g) rfl _ u h3
    rw [Addr.add_mid, Nat.zero_add] at h5
    exact h5
theorem zip_at {D : List Value} {dd : List (List Int)} {i : Nat} {v : Value} {z : List Int} (h : (D.zip dd)[i]? = some (v, z)) : ∃ (h1 : i < D.length) (h2 : i < dd.length), D[i] = v ∧ dd[i] = z := by
  rw [List.getElem?_zip_eq_some] at h
  obtain ⟨h1, e1⟩ := List.getElem?_eq_some_iff.1 h.1
  obtain ⟨h2, e2⟩ := List.getElem?_eq_some_iff.1 h.2
  exact ⟨h1, h2, e1, e2⟩
theorem farm_rows {w : World} {base lo mid hi : Nat} {v1 v2 : Value} {ls : List Ln} {xs1 xs2 D1 D2 : List Value} (h1 : RowsOf w (Iv lo mid) v1 ls xs1 D1) (h2 : RowsOf w (Iv mid hi) v2 ls xs2 D2) (hb : base ≤ lo) (hlm : lo ≤ mid) :
    Farm w base 5 (Value.int .u8) (D1.zip (ls.map (·.data)) ++ D2.zip (ls.map (·.data))) := by
  have hz1 : (D1.zip (ls.map (·.data))).length = ls.length := by rw [List.length_zip, h1.len, List.length_map]; omega
  have hsp : ∀ (i : Nat) (v : Value) (z : List Int), (D1.zip (ls.map (·.data)) ++ D2.zip (ls.map (·.data)))[i]? = some (v, z) →
      (∃ h : i < ls.length, v = (D1[i]'(by rw [h1.len]; exact h)) ∧ z = ls[i].data) ∨ (ls.length ≤ i ∧ ∃ h : i - ls.length < ls.length, v = (D2[i - ls.length]'(by rw [h2.len]; exact h)) ∧ z = ls[i - ls.length].data) := by
    intro i v z hi
    rcases Nat.lt_or_ge i ls.length with hlt | hge
    · rw [List.getElem?_append_left (by omega)] at hi
      obtain ⟨q1, q2, rfl, rfl⟩ := zip_at hi
      exact .inl ⟨hlt, rfl, by rw [List.getElem_map]⟩
    · rw [List.getElem?_append_right (by omega), hz1] at hi
      obtain ⟨q1, q2, rfl, rfl⟩ := zip_at hi
      rw [h2.len] at q1
      exact .inr ⟨hge, q1, rfl, by rw [List.getElem_map]⟩
  refine ⟨fun i v z hi => ?_, fun i j v z u y hi hj hij g hg he => ?_⟩
  · rcases hsp i v z hi with ⟨h, rfl, rfl⟩ | ⟨_, h, rfl, rfl⟩
    · exact own_up (h1.own i h) (fun g hg => Nat.le_trans hb (h1.foot i h g hg).1)
    · exact own_up (h2.own _ h) (fun g hg => Nat.le_trans (Nat.le_trans hb hlm) (h2.foot _ h g hg).1)
  · rcases hsp i v z hi with ⟨a1, rfl, -⟩ | ⟨a0, a1, rfl, -⟩ <;> rcases hsp j u y hj with ⟨b1, rfl, -⟩ | ⟨b0, b1, rfl, -⟩
    · exact h1.apart i j a1 b1 hij g hg he
    · have q1 := (h1.foot i a1 g hg).2
      have q2 := (h2.foot _ b1 g he).1
      omega
    · have q1 := (h1.foot j b1 g he).2
      have q2 := (h2.foot _ a1 g hg).1
      omega
    · exact h2.apart _ _ a1 b1 (by omega) g hg he
theorem farm_lines {w : World} {base lo mid : Nat} {v1 v2 : Value} {La Lb : List apartLn.L5} (h1 : w.ownsRow lo 43 5 v1 La.length (La.flatMap apartLn.lC)) (h2 : w.ownsRow mid 43 5 v2 Lb.length (Lb.flatMap apartLn.lC)) (hb : base ≤ lo) (hlm : lo ≤ mid) (hlt : ∀ g, v1.ownBlock = some g → g < mid) :
    Go.Bus.farmC.Farm w base 43 5 apartLn.lC [(v1, La), (v2, Lb)] := by
  refine ⟨fun i v z hi => ?_, fun i j v z u y hi hj hij q hq he => ?_⟩
  · match i, hi with
    | 0, hi => simp at hi; obtain ⟨rfl, rfl⟩ := hi; exact own_base h1 hb
    | 1, hi => simp at hi; obtain ⟨rfl, rfl⟩ := hi; exact own_base h2 (Nat.le_trans hb hlm)
    | n + 2, hi => simp at hi
  · match i, j, hi, hj with
    | 0, 0, _, _ => exact hij rfl
    | 1, 1, _, _ => exact hij rfl
    | 0, 1, hi, hj => simp at hi hj; obtain ⟨rfl, rfl⟩ := hi; obtain ⟨rfl, rfl⟩ := hj; have q1 := hlt q hq; have q2 := (h2.lt q he).1; omega
    | 1, 0, hi, hj => simp at hi hj; obtain ⟨rfl, rfl⟩ := hi; obtain ⟨rfl, rfl⟩ := hj; have q1 := hlt q he; have q2 := (h2.lt q hq).1; omega
    | n + 2, _, hi, _ => simp at hi
    | 0, n + 2, _, hj => simp at hj
    | 1, n + 2, _, hj => simp at hj
def OneFl (ls : List Ln) (rest : List Value) (w : World) (e : Ending) (w' : World) : Prop := ∃ A c xs, e = .returned (.tuple (.slice A ls.length c :: rest).toArray) ∧ OwX 5 lineO w' (Iv w.heap.size w'.heap.size) w.heap.size 43 (.slice A ls.length c) ls xs ∧ Below w.heap.size w w'
theorem own_lenL {w : World} {F : Foot} {base c n : Nat} {A : Option Addr} {ls : List Ln} {xs : List Value} (h : OwX 5 lineO w F base 43 (.slice A n c) ls xs) : n = ls.length := own_lenQ h.1
theorem long_any (S : List UInt8) (hl : 1048576 < S.length) (w : World) : Calls Tryz.prog 9 #[.string ⟨S.toArray⟩] w (DFi S w) := by
  have HF : Hid (fileF S = .error (5, 0)) := Lib.hid (by unfold fileF; rw [if_pos hl])
  have d1 : decide ((1048576 : Int) < (S.length : Int)) = true := by simp; omega
  have d2 : decide (1048576 < S.length) = true := by simp; omega
  obtain ⟨SB, hSB⟩ : ∃ SB : ByteArray, SB = ⟨S.toArray⟩ := ⟨_, rfl⟩
  have hsz : SB.size = S.length := by rw [hSB]; show S.toArray.size = S.length; simp
  rw [← hSB]
  clear hSB hl
  go_enter Tryz.func9, Tryz.ntmps9
  go_wp2
  go_ret2
  exact DFi.many HF.out (by repeat' (first | (with_reducible assumption) | (with_reducible refine Below.setCell ?_ ?_ _) | (with_reducible refine Below.alloc ?_ ?_ _) | (with_reducible refine Below.drew ?_) | (with_reducible refine below_drewN ?_ _) | (with_reducible exact Below.refl _ _) | (show _ ≤ _; (try simp); (try omega); done) | exact Below.refl _ _ | assumption))
theorem filed_any (S : List UInt8) (w : World) (hM : Mx w) (hR : laidK.Rng w) : Calls Tryz.prog 9 #[.string ⟨S.toArray⟩] w (DFi S w) := by
  by_cases h : 1048576 < S.length
  · exact long_any S h w
  · exact dfile_in S (by omega) w hM hR
/-- Both answers of one text, as one row, one error, its number and its line. -/
theorem files_both (S : List UInt8) (w : World) (hM : Mx w) (hR : laidK.Rng w) (hE : asK.ErrT w) : ∃ (ls : List Ln) (t : Value) (no : Int) (k : Nat), ls.length ≤ 4096 ∧ (∀ l ∈ ls, l.data.length ≤ 8) ∧
    (∀ W, Below w.heap.size w W → Calls Tryz.prog 9 #[.string ⟨S.toArray⟩] W (OneFl ls [t] W)) ∧
    (∀ W, Calls Tryz.prog 23 #[.string ⟨S.toArray⟩] W (OneFl ls [.int .i64 no, .int .i64 (k : Nat)] W)) ∧
    ((k = 0 ∧ ∀ W, Below w.heap.size w W → Calls Tryz.prog 16 #[t, .int .i64 no] W fun e w' => e = .returned (.bool true) ∧ Below W.heap.size W w') ∨
     (0 < k ∧ ∀ W, Below w.heap.size w W → Calls Tryz.prog 11 #[t, .int .i64 no, .int .i64 (k : Nat), .int .i64 0] W fun e w' => e = .returned (.bool true) ∧ Below W.heap.size W w')) := by
  cases hp : fileF S with
  | error nk =>
    obtain ⟨no, k⟩ := nk
    have hno := fileF_no hp
    have hnil : ∀ (w w' : World), OwX 5 lineO w' (Iv w.heap.size w'.heap.size) w.heap.size 43 (.slice none 0 0) [] [] := fun w w' => OwX.nil_ _ _ _ _ _ _
    refine ⟨[], ferr no k, no, k, by decide, fun l hl => (by cases hl), fun W hb => (filed_any S W (hM.at_below hb) (hR.at_below hb)).mono ?_, fun W => (rfile_any S W).mono ?_, ?_⟩
    · rintro e w' ⟨h1, h2⟩
      rw [hp] at h2
      exact ⟨none, 0, [], h2, hnil W w', h1⟩
    · rintro e w' ⟨h1, h2⟩
      rw [hp] at h2
      exact ⟨none, 0, [], h2, hnil W w', h1⟩
    · rcases Nat.eq_zero_or_pos k with h0 | h0
      · refine .inl ⟨h0, fun W hb => ?_⟩
        unfold ferr
        rw [if_pos h0]
        exact asK.plain_no no W hno.1 hno.2 (hE.at_below hb)
      · refine .inr ⟨h0, fun W hb => ?_⟩
        unfold ferr
        rw [if_neg (by omega)]
        exact asK.at_fault no k 0 W hno.1 hno.2 (hE.at_below hb)
  | ok ls =>
    obtain ⟨h4, h8⟩ := fileF_ok hp
    refine ⟨ls, .nilIface, 0, 0, h4, h8, fun W hb => (filed_any S W (hM.at_below hb) (hR.at_below hb)).mono ?_, fun W => (rfile_any S W).mono ?_, .inl ⟨rfl, fun W hb => asK.plain_nil W⟩⟩
    · rintro e w' ⟨h1, h2⟩
      rw [hp] at h2
      obtain ⟨v, xs, rfl, ho⟩ := h2
      obtain ⟨A, c, rfl⟩ := own_sliceQ ho.1
      exact ⟨A, c, xs, rfl, ho, h1⟩
    · rintro e w' ⟨h1, h2⟩
      rw [hp] at h2
      obtain ⟨A, c, xs, rfl, ho⟩ := h2
      exact ⟨A, c, xs, rfl, ho, h1⟩
end bookK
end Go.Proofs.YtbhhfdajaoemnaaGreatDoor

namespace Go.Proofs.YtbhhfdajaoemnaaGreatDoor
open Go.RowKit Go.Bus Go.Bus.cellK Go.Bus.dumpK Go.Bus.farmK Go.Proofs.YtbhhfdajaoemnaaGreatDoor.bookK
set_option linter.unusedVariables false
set_option linter.unusedSimpArgs false
namespace dumpW
set_option maxRecDepth 100000 in
set_option maxHeartbeats 16000000 in
theorem reads_any (S : List UInt8) (w : World) (hM : Mx w) (hR : laidK.Rng w) (hE : asK.ErrT w) : Calls Tryz.prog 6 #[.string ⟨S.toArray⟩] w fun e w' => e = .returned (.bool true) ∧ Below w.heap.size w w' := by
  obtain ⟨ls, t, no, k, h4, h8, hf, hr, hc⟩ := files_both S w hM hR hE
  have HF := Lib.hid hf
  have HRF := Lib.hid hr
  have H8 := Lib.hid h8
  have H4 := Lib.hid h4
  obtain ⟨SB, hSB⟩ : ∃ SB : ByteArray, SB = ⟨S.toArray⟩ := ⟨_, rfl⟩
  rw [← hSB] at HF HRF ⊢
  clear hSB hM hR hE hf hr h8
  rcases hc with ⟨hk, hc⟩ | ⟨hk, hc⟩
  · have HCK := Lib.hid hc
    clear hc
    subst hk
    go_enter Tryz.func6, Tryz.ntmps6
    go_wp2_with fail
    refine (HRF.out _).mono ?_
    rintro e w1 ⟨A0, c0, xs0, rfl, ho0, hb⟩
    have HO0 := Lib.hid ho0
    have HB1 := Lib.hid hb
    clear hb ho0
    go_wp2_with fail
    refine (HF.out _ HB1.out).mono ?_
    rintro e w2 ⟨A1, c1, xs1, rfl, ho1, hb⟩
    have HO1 := Lib.hid ho1
    have HS1 := Lib.hid hb
    have HB2 := Lib.hid (HB1.out.trans (hb.mono HB1.out.size))
    have z12 : w1.heap.size ≤ w2.heap.size := hb.size
    clear hb ho1
    go_wp2_with fail
    refine (HF.out _ HB2.out).mono ?_
    rintro e w3 ⟨A2, c2, xs2, rfl, ho2, hb⟩
    have HO2 := Lib.hid ho2
    have HS2 := Lib.hid hb
    have HB3 := Lib.hid (HB2.out.trans (hb.mono HB2.out.size))
    have z23 : w2.heap.size ≤ w3.heap.size := hb.size
    clear hb ho2
    have z01 : w.heap.size ≤ w1.heap.size := HB1.out.size
    have HL0 := Lib.hid ((lines_R HO0.out).belowF lineR_mono (B := w1.heap.size) (fun b hb => hb.2) (HS1.out.trans (HS2.out.mono z12)))
    have HL1 := Lib.hid ((lines_R HO1.out).belowF lineR_mono (B := w2.heap.size) (fun b hb => hb.2) HS2.out)
    have HL2 := Lib.hid (lines_R HO2.out)
    go_wp2_with fail
    refine (same_lines _ _ ls _ _ w3 HL1.out HL0.out (fun b hb => Nat.lt_of_lt_of_le hb.2 z23) (fun b hb => Nat.lt_of_lt_of_le hb.2 (Nat.le_trans z12 z23))).mono ?_
    rintro e w4 ⟨rfl, hb⟩
    have HS3 := Lib.hid hb
    have HB4 := Lib.hid (HB3.out.trans (hb.mono HB3.out.size))
    have z34 : w3.heap.size ≤ w4.heap.size := hb.size
    clear hb
    go_wp2_with fail
    refine (same_lines _ _ ls _ _ w4 (HL2.out.belowF lineR_mono (fun b hb => hb.2) HS3.out) (HL0.out.belowF lineR_mono (fun b hb => Nat.lt_of_lt_of_le hb.2 (Nat.le_trans z12 z23)) HS3.out) (fun b hb => Nat.lt_of_lt_of_le hb.2 z34) (fun b hb => Nat.lt_of_lt_of_le hb.2 (Nat.le_trans (Nat.le_trans z12 z23) z34))).mono ?_
    rintro e w5 ⟨rfl, hb⟩
    have HS4 := Lib.hid (HS3.out.trans (hb.mono z34))
    have HB5 := Lib.hid (HB4.out.trans (hb.mono HB4.out.size))
    have z45 : w4.heap.size ≤ w5.heap.size := hb.size
    clear hb
    go_wp2_with fail
    refine (HCK.out _ HB5.out).mono ?_
    rintro e w6 ⟨rfl, hb⟩
    have HS5 := Lib.hid (HS4.out.trans (hb.mono (Nat.le_trans z34 z45)))
    have HB6 := Lib.hid (HB5.out.trans (hb.mono HB5.out.size))
    have z56 : w5.heap.size ≤ w6.heap.size := hb.size
    clear hb
    go_wp2_with fail
    refine (HCK.out _ HB6.out).mono ?_
    rintro e w7 ⟨rfl, hb⟩
    have HS6 := Lib.hid (HS5.out.trans (hb.mono (Nat.le_trans (Nat.le_trans z34 z45) z56)))
    have HB7 := Lib.hid (HB6.out.trans (hb.mono HB6.out.size))
    have z67 : w6.heap.size ≤ w7.heap.size := hb.size
    clear hb
    have z37 : w3.heap.size ≤ w7.heap.size := HS6.out.size
    obtain ⟨D1, hD1⟩ := rows_of HO1.out
    obtain ⟨D2, hD2⟩ := rows_of HO2.out
    obtain ⟨g1, hg1, hs1, hc1, hm1⟩ := lines_fit HO1.out hD1
    obtain ⟨g2, hg2, hs2, hc2, hm2⟩ := lines_fit HO2.out hD2
    have HD1 := Lib.hid hD1
    have HD2 := Lib.hid hD2
    have HX27 : Hid (Below w2.heap.size w2 w7) := Lib.hid (HS2.out.trans (HS6.out.mono z23))
    have HE1 : Hid (∀ (W : World), Below w7.heap.size w7 W → ∀ i (hi : i < ls.length), (∃ A' c', (D1[i]'(by rw [HD1.out.len]; exact hi)) = .slice A' ls[i].data.length c') ∧ W.rangeAt g1 (i * 5) (lnC ls[i] (D1[i]'(by rw [HD1.out.len]; exact hi)))) := Lib.hid (fun W hW i hi => ⟨(hs1 i hi).1, fun j u hj => (((HX27.out.trans (hW.mono (Nat.le_trans z23 z37))).cell (p := ⟨g1, i * 5 + j, none⟩) (hg1 (by omega)).2)).trans ((hs1 i hi).2 j u hj)⟩)
    have HE2 : Hid (∀ (W : World), Below w7.heap.size w7 W → ∀ i (hi : i < ls.length), (∃ A' c', (D2[i]'(by rw [HD2.out.len]; exact hi)) = .slice A' ls[i].data.length c') ∧ W.rangeAt g2 (i * 5) (lnC ls[i] (D2[i]'(by rw [HD2.out.len]; exact hi)))) := Lib.hid (fun W hW i hi => ⟨(hs2 i hi).1, fun j u hj => (((HS6.out.trans (hW.mono z37)).cell (p := ⟨g2, i * 5 + j, none⟩) (hg2 (by omega)).2)).trans ((hs2 i hi).2 j u hj)⟩)
    have HG1 := Lib.hid hg1
    have HG2 := Lib.hid hg2
    clear hD1 hD2 hs1 hs2 hg1 hg2
    have HK := Lib.hid (show Bk (w7.alloc (.cells (bookC (.slice none 0 0) (.slice none 0 0)) 68)) w7.heap.size (.slice none 0 0) (.slice none 0 0) [] [] from ⟨Has.new _ _ _, World.ownsRow_nil _ _ _ _, World.ownsRow_nil _ _ _ _⟩)
    go_wp2_with fail
    refine (lines_any w7.heap.size g1 _ _ [] [] D1 ls A1 c1 _ (by exact HK.out) (by simp; omega) (by decide) hc1 hm1 HD1.out.len (fun h0 => ⟨(HG1.out h0).1, by have := (HG1.out h0).2; omega⟩) (by exact HE1.out _ (by repeat' (first | (with_reducible assumption) | (with_reducible refine Below.setCell ?_ ?_ _) | (with_reducible refine Below.alloc ?_ ?_ _) | (with_reducible refine Below.drew ?_) | (with_reducible refine below_drewN ?_ _) | (with_reducible exact Below.refl _ _) | (show _ ≤ _; (try simp); (try omega); done) | exact Below.refl _ _ | assumption)))).mono ?_
    rintro e w9 ⟨vb9, vl9, rfl, hk9, hb9⟩
    have HK9 := Lib.hid hk9
    have HX9 : Hid (Below w7.heap.size w7 w9) := Lib.hid (Below.trans (by repeat' (first | (with_reducible assumption) | (with_reducible refine Below.setCell ?_ ?_ _) | (with_reducible refine Below.alloc ?_ ?_ _) | (with_reducible refine Below.drew ?_) | (with_reducible refine below_drewN ?_ _) | (with_reducible exact Below.refl _ _) | (show _ ≤ _; (try simp); (try omega); done) | exact Below.refl _ _ | assumption)) hb9)
    clear hk9 hb9
    go_wp2_with fail
    refine (lines_any w7.heap.size g2 _ _ _ _ D2 ls A2 c2 _ (by exact HK9.out) (by rw [List.nil_append, HD1.out.len]; omega) (by simp) hc2 hm2 HD2.out.len (fun h0 => ⟨(HG2.out h0).1, by have := (HG2.out h0).2; omega⟩) (by exact HE2.out _ HX9.out)).mono ?_
    rintro e w10 ⟨vb10, vl10, rfl, hk10, hb10⟩
    have HX10 : Hid (Below w7.heap.size w7 w10) := Lib.hid (HX9.out.trans hb10)
    obtain ⟨La, hLa, hFa⟩ := l5_of HO1.out
    obtain ⟨Lb, hLb, hFb⟩ := l5_of HO2.out
    have HW210 : Hid (Below w2.heap.size w2 w10) := Lib.hid (HX27.out.trans (HX10.out.mono (Nat.le_trans z23 z37)))
    have HW310 : Hid (Below w3.heap.size w3 w10) := Lib.hid (HS6.out.trans (HX10.out.mono z37))
    have HR1 := Lib.hid (HD1.out.keep (w' := w10) (fun b hb => HW210.out.block b hb.2))
    have HR2 := Lib.hid (HD2.out.keep (w' := w10) (fun b hb => HW310.out.block b hb.2))
    have HFD := Lib.hid (farm_rows HR1.out HR2.out z01 z12)
    have HFL : Hid (Go.Bus.farmC.Farm w10 w.heap.size 43 5 apartLn.lC [(.slice A1 ls.length c1, La), (.slice A2 ls.length c2, Lb)]) := Lib.hid (farm_lines (by rw [hLa, hFa]; exact own_kept HO1.out.1 HW210.out) (by rw [hLb, hFb]; exact own_kept HO2.out.1 HW310.out) z01 z12 (fun g hg => (HO1.out.1.lt g hg).2))
    have HBK : Hid (Bk w10 w7.heap.size vb10 vl10 ((D1.zip (ls.map (·.data)) ++ D2.zip (ls.map (·.data))).map (·.1)) ([((.slice A1 ls.length c1 : Value), La), (.slice A2 ls.length c2, Lb)].map (·.1))) := Lib.hid (by
      rw [List.map_append, List.map_fst_zip (by rw [HD1.out.len, List.length_map]; exact Nat.le_refl _), List.map_fst_zip (by rw [HD2.out.len, List.length_map]; exact Nat.le_refl _)]
      exact hk10)
    clear hk10 hb10
    go_wp2_with fail
    refine (book_apart2 (base := w.heap.size) HBK.out HFD.out HFL.out (by have h1 := HW310.out.size; omega) (by rw [List.length_append, List.length_zip, List.length_zip, HD1.out.len, HD2.out.len, List.length_map]; omega) (fun p hp => ?_) (by simp) (by simp) (fun p hp => ?_)).mono ?_
    · rcases List.mem_append.1 hp with hp | hp
      · have h1 := (List.of_mem_zip hp).2
        obtain ⟨l, hl, hle⟩ := List.mem_map.1 h1
        have := H8.out l hl
        rw [← hle]
        omega
      · have h1 := (List.of_mem_zip hp).2
        obtain ⟨l, hl, hle⟩ := List.mem_map.1 h1
        have := H8.out l hl
        rw [← hle]
        omega
    · simp at hp
      rcases hp with rfl | rfl
      · show La.length ≤ _; omega
      · show Lb.length ≤ _; omega
    rintro e w11 ⟨rfl, hb11⟩
    have HB11 : Hid (Below w.heap.size w w11) := Lib.hid ((HB7.out.trans (HX10.out.mono HB7.out.size)).trans hb11)
    clear hb11
    go_wp2
    go_ret
    exact ⟨rfl, HB11.out⟩
  · have HCK := Lib.hid hc
    clear hc
    have q1 : ((k : Int) == 0) = false := by rw [beq_eq_false_iff_ne]; omega
    have q2 : (k == 0) = false := by rw [beq_eq_false_iff_ne]; omega
    have q3 : decide ((0 : Int) < (k : Int)) = true := by simp; omega
    have q4 : decide (0 < k) = true := by simp; omega
    go_enter Tryz.func6, Tryz.ntmps6
    go_wp2_with fail
    refine (HRF.out _).mono ?_
    rintro e w1 ⟨A0, c0, xs0, rfl, ho0, hb⟩
    have HO0 := Lib.hid ho0
    have HB1 := Lib.hid hb
    clear hb ho0
    go_wp2_with fail
    refine (HF.out _ HB1.out).mono ?_
    rintro e w2 ⟨A1, c1, xs1, rfl, ho1, hb⟩
    have HO1 := Lib.hid ho1
    have HS1 := Lib.hid hb
    have HB2 := Lib.hid (HB1.out.trans (hb.mono HB1.out.size))
    have z12 : w1.heap.size ≤ w2.heap.size := hb.size
    clear hb ho1
    go_wp2_with fail
    refine (HF.out _ HB2.out).mono ?_
    rintro e w3 ⟨A2, c2, xs2, rfl, ho2, hb⟩
    have HO2 := Lib.hid ho2
    have HS2 := Lib.hid hb
    have HB3 := Lib.hid (HB2.out.trans (hb.mono HB2.out.size))
    have z23 : w2.heap.size ≤ w3.heap.size := hb.size
    clear hb ho2
    have z01 : w.heap.size ≤ w1.heap.size := HB1.out.size
    have HL0 := Lib.hid ((lines_R HO0.out).belowF lineR_mono (B := w1.heap.size) (fun b hb => hb.2) (HS1.out.trans (HS2.out.mono z12)))
    have HL1 := Lib.hid ((lines_R HO1.out).belowF lineR_mono (B := w2.heap.size) (fun b hb => hb.2) HS2.out)
    have HL2 := Lib.hid (lines_R HO2.out)
    go_wp2_with fail
    refine (same_lines _ _ ls _ _ w3 HL1.out HL0.out (fun b hb => Nat.lt_of_lt_of_le hb.2 z23) (fun b hb => Nat.lt_of_lt_of_le hb.2 (Nat.le_trans z12 z23))).mono ?_
    rintro e w4 ⟨rfl, hb⟩
    have HS3 := Lib.hid hb
    have HB4 := Lib.hid (HB3.out.trans (hb.mono HB3.out.size))
    have z34 : w3.heap.size ≤ w4.heap.size := hb.size
    clear hb
    go_wp2_with fail
    refine (same_lines _ _ ls _ _ w4 (HL2.out.belowF lineR_mono (fun b hb => hb.2) HS3.out) (HL0.out.belowF lineR_mono (fun b hb => Nat.lt_of_lt_of_le hb.2 (Nat.le_trans z12 z23)) HS3.out) (fun b hb => Nat.lt_of_lt_of_le hb.2 z34) (fun b hb => Nat.lt_of_lt_of_le hb.2 (Nat.le_trans (Nat.le_trans z12 z23) z34))).mono ?_
    rintro e w5 ⟨rfl, hb⟩
    have HS4 := Lib.hid (HS3.out.trans (hb.mono z34))
    have HB5 := Lib.hid (HB4.out.trans (hb.mono HB4.out.size))
    have z45 : w4.heap.size ≤ w5.heap.size := hb.size
    clear hb
    go_wp2_with fail
    refine (HCK.out _ HB5.out).mono ?_
    rintro e w6 ⟨rfl, hb⟩
    have HS5 := Lib.hid (HS4.out.trans (hb.mono (Nat.le_trans z34 z45)))
    have HB6 := Lib.hid (HB5.out.trans (hb.mono HB5.out.size))
    have z56 : w5.heap.size ≤ w6.heap.size := hb.size
    clear hb
    go_wp2_with fail
    refine (HCK.out _ HB6.out).mono ?_
    rintro e w7 ⟨rfl, hb⟩
    have HS6 := Lib.hid (HS5.out.trans (hb.mono (Nat.le_trans (Nat.le_trans z34 z45) z56)))
    have HB7 := Lib.hid (HB6.out.trans (hb.mono HB6.out.size))
    have z67 : w6.heap.size ≤ w7.heap.size := hb.size
    clear hb
    have z37 : w3.heap.size ≤ w7.heap.size := HS6.out.size
    obtain ⟨D1, hD1⟩ := rows_of HO1.out
    obtain ⟨D2, hD2⟩ := rows_of HO2.out
    obtain ⟨g1, hg1, hs1, hc1, hm1⟩ := lines_fit HO1.out hD1
    obtain ⟨g2, hg2, hs2, hc2, hm2⟩ := lines_fit HO2.out hD2
    have HD1 := Lib.hid hD1
    have HD2 := Lib.hid hD2
    have HX27 : Hid (Below w2.heap.size w2 w7) := Lib.hid (HS2.out.trans (HS6.out.mono z23))
    have HE1 : Hid (∀ (W : World), Below w7.heap.size w7 W → ∀ i (hi : i < ls.length), (∃ A' c', (D1[i]'(by rw [HD1.out.len]; exact hi)) = .slice A' ls[i].data.length c') ∧ W.rangeAt g1 (i * 5) (lnC ls[i] (D1[i]'(by rw [HD1.out.len]; exact hi)))) := Lib.hid (fun W hW i hi => ⟨(hs1 i hi).1, fun j u hj => (((HX27.out.trans (hW.mono (Nat.le_trans z23 z37))).cell (p := ⟨g1, i * 5 + j, none⟩) (hg1 (by omega)).2)).trans ((hs1 i hi).2 j u hj)⟩)
    have HE2 : Hid (∀ (W : World), Below w7.heap.size w7 W → ∀ i (hi : i < ls.length), (∃ A' c', (D2[i]'(by rw [HD2.out.len]; exact hi)) = .slice A' ls[i].data.length c') ∧ W.rangeAt g2 (i * 5) (lnC ls[i] (D2[i]'(by rw [HD2.out.len]; exact hi)))) := Lib.hid (fun W hW i hi => ⟨(hs2 i hi).1, fun j u hj => (((HS6.out.trans (hW.mono z37)).cell (p := ⟨g2, i * 5 + j, none⟩) (hg2 (by omega)).2)).trans ((hs2 i hi).2 j u hj)⟩)
    have HG1 := Lib.hid hg1
    have HG2 := Lib.hid hg2
    clear hD1 hD2 hs1 hs2 hg1 hg2
    have HK := Lib.hid (show Bk (w7.alloc (.cells (bookC (.slice none 0 0) (.slice none 0 0)) 68)) w7.heap.size (.slice none 0 0) (.slice none 0 0) [] [] from ⟨Has.new _ _ _, World.ownsRow_nil _ _ _ _, World.ownsRow_nil _ _ _ _⟩)
    go_wp2_with fail
    refine (lines_any w7.heap.size g1 _ _ [] [] D1 ls A1 c1 _ (by exact HK.out) (by simp; omega) (by decide) hc1 hm1 HD1.out.len (fun h0 => ⟨(HG1.out h0).1, by have := (HG1.out h0).2; omega⟩) (by exact HE1.out _ (by repeat' (first | (with_reducible assumption) | (with_reducible refine Below.setCell ?_ ?_ _) | (with_reducible refine Below.alloc ?_ ?_ _) | (with_reducible refine Below.drew ?_) | (with_reducible refine below_drewN ?_ _) | (with_reducible exact Below.refl _ _) | (show _ ≤ _; (try simp); (try omega); done) | exact Below.refl _ _ | assumption)))).mono ?_
    rintro e w9 ⟨vb9, vl9, rfl, hk9, hb9⟩
    have HK9 := Lib.hid hk9
    have HX9 : Hid (Below w7.heap.size w7 w9) := Lib.hid (Below.trans (by repeat' (first | (with_reducible assumption) | (with_reducible refine Below.setCell ?_ ?_ _) | (with_reducible refine Below.alloc ?_ ?_ _) | (with_reducible refine Below.drew ?_) | (with_reducible refine below_drewN ?_ _) | (with_reducible exact Below.refl _ _) | (show _ ≤ _; (try simp); (try omega); done) | exact Below.refl _ _ | assumption)) hb9)
    clear hk9 hb9
    go_wp2_with fail
    refine (lines_any w7.heap.size g2 _ _ _ _ D2 ls A2 c2 _ (by exact HK9.out) (by rw [List.nil_append, HD1.out.len]; omega) (by simp) hc2 hm2 HD2.out.len (fun h0 => ⟨(HG2.out h0).1, by have := (HG2.out h0).2; omega⟩) (by exact HE2.out _ HX9.out)).mono ?_
    rintro e w10 ⟨vb10, vl10, rfl, hk10, hb10⟩
    have HX10 : Hid (Below w7.heap.size w7 w10) := Lib.hid (HX9.out.trans hb10)
    obtain ⟨La, hLa, hFa⟩ := l5_of HO1.out
    obtain ⟨Lb, hLb, hFb⟩ := l5_of HO2.out
    have HW210 : Hid (Below w2.heap.size w2 w10) := Lib.hid (HX27.out.trans (HX10.out.mono (Nat.le_trans z23 z37)))
    have HW310 : Hid (Below w3.heap.size w3 w10) := Lib.hid (HS6.out.trans (HX10.out.mono z37))
    have HR1 := Lib.hid (HD1.out.keep (w' := w10) (fun b hb => HW210.out.block b hb.2))
    have HR2 := Lib.hid (HD2.out.keep (w' := w10) (fun b hb => HW310.out.block b hb.2))
    have HFD := Lib.hid (farm_rows HR1.out HR2.out z01 z12)
    have HFL : Hid (Go.Bus.farmC.Farm w10 w.heap.size 43 5 apartLn.lC [(.slice A1 ls.length c1, La), (.slice A2 ls.length c2, Lb)]) := Lib.hid (farm_lines (by rw [hLa, hFa]; exact own_kept HO1.out.1 HW210.out) (by rw [hLb, hFb]; exact own_kept HO2.out.1 HW310.out) z01 z12 (fun g hg => (HO1.out.1.lt g hg).2))
    have HBK : Hid (Bk w10 w7.heap.size vb10 vl10 ((D1.zip (ls.map (·.data)) ++ D2.zip (ls.map (·.data))).map (·.1)) ([((.slice A1 ls.length c1 : Value), La), (.slice A2 ls.length c2, Lb)].map (·.1))) := Lib.hid (by
      rw [List.map_append, List.map_fst_zip (by rw [HD1.out.len, List.length_map]; exact Nat.le_refl _), List.map_fst_zip (by rw [HD2.out.len, List.length_map]; exact Nat.le_refl _)]
      exact hk10)
    clear hk10 hb10
    go_wp2_with fail
    refine (book_apart2 (base := w.heap.size) HBK.out HFD.out HFL.out (by have h1 := HW310.out.size; omega) (by rw [List.length_append, List.length_zip, List.length_zip, HD1.out.len, HD2.out.len, List.length_map]; omega) (fun p hp => ?_) (by simp) (by simp) (fun p hp => ?_)).mono ?_
    · rcases List.mem_append.1 hp with hp | hp
      · have h1 := (List.of_mem_zip hp).2
        obtain ⟨l, hl, hle⟩ := List.mem_map.1 h1
        have := H8.out l hl
        rw [← hle]
        omega
      · have h1 := (List.of_mem_zip hp).2
        obtain ⟨l, hl, hle⟩ := List.mem_map.1 h1
        have := H8.out l hl
        rw [← hle]
        omega
    · simp at hp
      rcases hp with rfl | rfl
      · show La.length ≤ _; omega
      · show Lb.length ≤ _; omega
    rintro e w11 ⟨rfl, hb11⟩
    have HB11 : Hid (Below w.heap.size w w11) := Lib.hid ((HB7.out.trans (HX10.out.mono HB7.out.size)).trans hb11)
    clear hb11
    go_wp2
    go_ret
    exact ⟨rfl, HB11.out⟩
end dumpW
end Go.Proofs.YtbhhfdajaoemnaaGreatDoor
