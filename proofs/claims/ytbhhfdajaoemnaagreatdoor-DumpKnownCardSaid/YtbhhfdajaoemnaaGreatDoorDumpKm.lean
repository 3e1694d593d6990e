/- busbarlaw27.many: as many lines as may be, and one more; as many bytes, and one more. Conditions: some of the library's errors are laid, one variable of the library's holds some int. -/
import Derived.Test.YtbhhfdajaoemnaaGreatDoorDumpKa
import Derived.Test.YtbhhfdajaoemnaaGreatDoorDumpFj
import Derived.Test.YtbhhfdajaoemnaaGreatDoorAt
namespace Go.Bus.dumpK
open Go.Bus.hexK Go.Bus.textK Go.Lib
set_option linter.unusedVariables false
def lnA : Ln := ⟨0, [97], 1, false, []⟩
theorem lnA_ok : lnA.Ok ∧ wrong lnA = 0 := ⟨⟨by decide, by decide, by decide⟩, by decide⟩
theorem lnA_line : lineD lnA = [40, 48, 46, 48, 48, 48, 48, 48, 48, 41, 32, 97, 32, 48, 48, 49, 35] := by
  have h1 : secs 0 = [48] := by unfold secs; rw [show 0 / 1000000 = 0 from rfl, dec_small (by decide)]; rfl
  unfold lineD lnA
  simp only [h1]
  decide
def sA : List UInt8 := [40, 48, 46, 48, 48, 48, 48, 48, 48, 41, 32, 97, 32, 48, 48, 49, 35, 10]
def rpA (n : Nat) : List UInt8 := textL (List.replicate n lnA)
theorem rpA_zero : rpA 0 = [] := rfl
theorem rpA_add (n m : Nat) : rpA n ++ rpA m = rpA (n + m) := by
  unfold rpA textL
  rw [← List.flatMap_append, List.replicate_append_replicate]
theorem rpA_one : rpA 1 = sA := by
  unfold rpA textL
  rw [show List.replicate 1 lnA = [lnA] from rfl, List.flatMap_cons, List.flatMap_nil, lnA_line]
  rfl
theorem rpA_next (n : Nat) : rpA n ++ sA = rpA (n + 1) := by rw [← rpA_one, rpA_add]
theorem rpA_len : ∀ n, (rpA n).length = 18 * n
  | 0 => rfl
  | n + 1 => by rw [← rpA_next, List.length_append, rpA_len n, show sA.length = 18 from rfl]; omega
theorem rpA_ok (n : Nat) : ∀ l ∈ List.replicate n lnA, l.Ok ∧ wrong l = 0 := fun l h => by rw [List.eq_of_mem_replicate h]; exact lnA_ok
theorem file_rpA {n : Nat} (h : n ≤ 4096) : fileF (rpA n) = .ok (List.replicate n lnA) := fileF_printed (rpA_ok n) (by rw [List.length_replicate]; exact h)
theorem file_over : fileF (rpA 4097) = .error (5, 0) := by
  obtain ⟨h1, h2⟩ := lines_printed _ (rpA_ok 4097)
  unfold fileF
  rw [if_neg (by rw [rpA_len]; omega)]
  unfold rpA textL
  rw [h1, if_pos (by rw [List.length_map, List.length_replicate]; omega)]
def xsA (k : Nat) : List UInt8 := List.replicate (2 ^ k) 120
theorem xsA_zero : xsA 0 = [120] := rfl
theorem xsA_len (k : Nat) : (xsA k).length = 2 ^ k := List.length_replicate
theorem xsA_next (k : Nat) : xsA k ++ xsA k = xsA (k + 1) := by unfold xsA; rw [List.replicate_append_replicate, Nat.pow_succ]; congr 1; omega
theorem xsA_not (k : Nat) : (10 : UInt8) ∉ xsA k := fun h => by have := List.eq_of_mem_replicate h; cases this
theorem file_one {X : List UInt8} (hn : (10 : UInt8) ∉ X) (hx : X.head? = some 120) (hl : X.length ≤ 1048576) : fileF X = .error (4, 1) := by
  have h1 : linesF X = [X] := by
    unfold linesF
    rw [cutN_not X hn, if_neg]
    intro h
    cases X with
    | nil => cases hx
    | cons x r => simp at h
  have h2 : parseF X = .error 4 := by
    unfold parseF
    cases X with
    | nil => cases hx
    | cons x r =>
      have h3 : x = 120 := by simpa using hx
      rw [pieces_not r (by rw [h3]; decide)]
  unfold fileF
  rw [if_neg (by omega), h1, if_neg (by simp), goF, h2]
theorem xsA_head (k : Nat) : (xsA k).head? = some 120 := by
  unfold xsA
  rw [List.head?_replicate, if_neg (by have := Nat.pow_pos (n := k) (show 0 < 2 by decide); omega)]
theorem pow20 : (2 : Nat) ^ 20 = 1048576 := by decide
theorem pow_low {k : Nat} (h : k < 20) : 2 ^ k < 1048576 := by
  rw [← pow20]
  exact Nat.pow_lt_pow_right (by decide) h
theorem file_xs : fileF (xsA 20) = .error (4, 1) := file_one (xsA_not 20) (xsA_head 20) (by rw [xsA_len, pow20]; exact Nat.le_refl _)
theorem file_xs1 : fileF (xsA 20 ++ [120]) = .error (5, 0) := by
  unfold fileF
  rw [if_pos (by rw [List.length_append, xsA_len, pow20]; decide)]
end Go.Bus.dumpK
namespace Go.Proofs.YtbhhfdajaoemnaaGreatDoor
open Go.RowKit Go.Bus Go.Bus.cellK Go.Bus.dumpK Go.Bus.textK
set_option linter.unusedVariables false
set_option linter.unusedSimpArgs false
namespace dumpW
def strLen : Value → Nat
  | .string s => s.size
  | _ => 0
set_option maxRecDepth 100000 in
set_option maxHeartbeats 4000000 in
theorem many_any (w : World) (hM : Mx w) (hR : laidK.Rng w) (hE : asK.ErrT w) : Calls Tryz.prog 17 #[] w fun e w' => e = .returned (.bool true) ∧ Below w.heap.size w w' := by
  have HM := Lib.hid hM
  have HR := Lib.hid hR
  have HE := Lib.hid hE
  have HF1 : Hid (∀ W, Below w.heap.size w W → Calls Tryz.prog 9 #[.string ⟨(rpA 4096).toArray⟩] W fun e w' => ∃ A c, e = .returned (.tuple #[.slice A 4096 c, .nilIface]) ∧ Below W.heap.size W w') := Lib.hid (fun W hw => (file_ok (file_rpA (Nat.le_refl _)) (by rw [rpA_len]; omega) W (HM.out.at_below hw) (HR.out.at_below hw)).mono (by
    rintro e w' ⟨A, c, xs, rfl, -, -, hb⟩
    rw [List.length_replicate]
    exact ⟨A, c, rfl, hb⟩))
  have HF2 : Hid (∀ W, Below w.heap.size w W → Calls Tryz.prog 9 #[.string ((⟨(rpA 4096).toArray⟩ : ByteArray) ++ ⟨#[40, 48, 46, 48, 48, 48, 48, 48, 48, 41, 32, 97, 32, 48, 48, 49, 35, 10]⟩)] W fun e w' => e = .returned (.tuple #[.slice none 0 0, .iface 74 (.int .i64 5)]) ∧ Below W.heap.size W w') := Lib.hid (fun W hw => by
    rw [show ((⟨(rpA 4096).toArray⟩ : ByteArray) ++ ⟨#[40, 48, 46, 48, 48, 48, 48, 48, 48, 41, 32, 97, 32, 48, 48, 49, 35, 10]⟩) = ⟨(rpA 4096 ++ sA).toArray⟩ from strApp _ _, rpA_next]
    exact file_many file_over (by rw [rpA_len]; omega) W (HM.out.at_below hw) (HR.out.at_below hw))
  have HF3 : Hid (∀ W, Below w.heap.size w W → Calls Tryz.prog 9 #[.string ⟨(xsA 20).toArray⟩] W fun e w' => e = .returned (.tuple #[.slice none 0 0, .iface 78 (.agg #[.int .i64 4, .int .i64 1, .int .i64 0])]) ∧ Below W.heap.size W w') := Lib.hid (fun W hw => file_err file_xs (by decide) (by rw [xsA_len, pow20]; omega) W (HM.out.at_below hw) (HR.out.at_below hw))
  have HF4 : Hid (∀ W, Below w.heap.size w W → Calls Tryz.prog 9 #[.string ((⟨(xsA 20).toArray⟩ : ByteArray) ++ ⟨#[120]⟩)] W fun e w' => e = .returned (.tuple #[.slice none 0 0, .iface 74 (.int .i64 5)]) ∧ Below W.heap.size W w') := Lib.hid (fun W hw => by
    rw [show ((⟨(xsA 20).toArray⟩ : ByteArray) ++ ⟨#[120]⟩) = ⟨(xsA 20 ++ [120]).toArray⟩ from strApp _ _]
    exact file_many file_xs1 (by rw [List.length_append, xsA_len, pow20]; decide) W (HM.out.at_below hw) (HR.out.at_below hw))
  clear hM hR hE
  go_enter Tryz.func17, Tryz.ntmps17
  go_wp2
  go_loop [2, 3] (fun tv iv => ∃ i : Nat, tv = .string ⟨(rpA i).toArray⟩ ∧ iv = .int .i64 (i : Nat) ∧ i ≤ 64) (fun _ iv => 64 - (intOf iv).toNat)
  case atStart => exact ⟨0, rfl, rfl, by decide⟩
  case round =>
    obtain ⟨i, rfl, rfl, hi⟩ := hrel
    have hln := rpA_len i
    by_cases hlt : i < 64
    · have hst : ((⟨(rpA i).toArray⟩ : ByteArray) ++ ⟨#[40, 48, 46, 48, 48, 48, 48, 48, 48, 41, 32, 97, 32, 48, 48, 49, 35, 10]⟩) = ⟨(rpA (i + 1)).toArray⟩ := by rw [show ((⟨(rpA i).toArray⟩ : ByteArray) ++ ⟨#[40, 48, 46, 48, 48, 48, 48, 48, 48, 41, 32, 97, 32, 48, 48, 49, 35, 10]⟩) = ⟨(rpA i ++ sA).toArray⟩ from strApp _ _, rpA_next]
      have hcat : ¬ 9223372036854775807 < (rpA i).length + 18 := by omega
      have HST := Lib.hid hst
      clear hst
      go_wp2
      go_roundw
      case rel => exact ⟨i + 1, by rw [← HST.out], by go_num, by omega⟩
      case measure => simp [intOf]; omega
    · obtain rfl : i = 64 := by omega
      clear hln hlt hi
      go_wp2
      go_loop [4, 5] (fun tv iv => ∃ i : Nat, tv = .string ⟨(rpA (64 * i)).toArray⟩ ∧ iv = .int .i64 (i : Nat) ∧ i ≤ 64) (fun _ iv => 64 - (intOf iv).toNat)
      case atStart => exact ⟨0, rfl, rfl, by decide⟩
      case round =>
        obtain ⟨i, rfl, rfl, hi⟩ := hrel
        have hln := rpA_len (64 * i)
        have hl64 := rpA_len 64
        by_cases hlt : i < 64
        · have HST : Hid (((⟨(rpA (64 * i)).toArray⟩ : ByteArray) ++ ⟨(rpA 64).toArray⟩) = ⟨(rpA (64 * (i + 1))).toArray⟩) := Lib.hid (by rw [strApp, rpA_add]; rfl)
          have hcat : ¬ 9223372036854775807 < (rpA (64 * i)).length + (rpA 64).length := by omega
          clear hln hl64
          go_wp2
          go_roundw
          case rel => exact ⟨i + 1, by rw [← HST.out], by go_num, by omega⟩
          case measure => simp [intOf]; omega
        · obtain rfl : i = 64 := by omega
          have hcat : ¬ 9223372036854775807 < (rpA 4096).length + 18 := by rw [rpA_len]; omega
          clear hln hl64 hlt hi
          go_wp2_with fail
          refine (HF1.out w (Below.refl _ _)).mono ?_
          rintro e w1 ⟨A1, c1, rfl, hb⟩
          have HB1 := Lib.hid hb
          clear hb
          go_wp2_with fail
          refine (HF2.out _ HB1.out).mono ?_
          rintro e w2 ⟨rfl, hb⟩
          have HB2 := Lib.hid (HB1.out.trans (hb.mono HB1.out.size))
          clear hb hcat
          go_wp2
          go_loop [10] (fun sv => ∃ k : Nat, sv = .string ⟨(xsA k).toArray⟩ ∧ k ≤ 20) (fun sv => 1048576 - strLen sv)
          case atStart => exact ⟨0, rfl, by decide⟩
          case round =>
            obtain ⟨k, rfl, hk⟩ := hrel
            have hln := xsA_len k
            by_cases hlt : k < 20
            · have hp := pow_low hlt
              have HM1 : Hid (1048576 - strLen (.string ⟨(xsA (k + 1)).toArray⟩) < 1048576 - strLen (.string ⟨(xsA k).toArray⟩)) := Lib.hid (by
                have e1 : ∀ j, strLen (.string ⟨(xsA j).toArray⟩) = 2 ^ j := fun j => by show (xsA j).toArray.size = _; rw [List.size_toArray, xsA_len]
                rw [e1, e1, Nat.pow_succ]
                have hp0 : 0 < 2 ^ k := Nat.pow_pos (by decide)
                generalize 2 ^ k = p at hp hp0 ⊢
                omega)
              have HST : Hid (((⟨(xsA k).toArray⟩ : ByteArray) ++ ⟨(xsA k).toArray⟩) = ⟨(xsA (k + 1)).toArray⟩) := Lib.hid (by rw [strApp, xsA_next])
              have d1 : decide (((xsA k).length : Int) < 1048576) = true := by simp; omega
              have d2 : decide ((xsA k).length < 1048576) = true := by simp; omega
              have hcat : ¬ 9223372036854775807 < (xsA k).length + (xsA k).length := by omega
              clear hln hp
              go_wp2
              go_roundw
              case rel => exact ⟨k + 1, by rw [← HST.out], by omega⟩
              case measure => rw [HST.out]; exact HM1.out
            · obtain rfl : k = 20 := by omega
              have d1 : decide (((xsA 20).length : Int) < 1048576) = false := by rw [hln, pow20]; decide
              have d2 : decide ((xsA 20).length < 1048576) = false := by rw [hln, pow20]; decide
              have hcat : ¬ 9223372036854775807 < (xsA 20).length + 1 := by rw [hln, pow20]; decide
              clear hln hlt hk
              go_wp2_with fail
              refine (HF3.out _ HB2.out).mono ?_
              rintro e w3 ⟨rfl, hb⟩
              have HB3 := Lib.hid (HB2.out.trans (hb.mono HB2.out.size))
              clear hb
              go_wp2_with fail
              refine (HF4.out _ HB3.out).mono ?_
              rintro e w4 ⟨rfl, hb⟩
              have HB4 := Lib.hid (HB3.out.trans (hb.mono HB3.out.size))
              clear hb
              go_wp2_with fail
              refine (asK.plain_no 5 _ (by decide) (by decide) (HE.out.at_below HB4.out)).mono ?_
              rintro e w5 ⟨rfl, hb⟩
              have HB5 := Lib.hid (HB4.out.trans (hb.mono HB4.out.size))
              clear hb
              go_wp2_with fail
              refine (asK.at_fault 4 1 0 _ (by decide) (by decide) (HE.out.at_below HB5.out)).mono ?_
              rintro e w6 ⟨rfl, hb⟩
              have HB6 := Lib.hid (HB5.out.trans (hb.mono HB5.out.size))
              clear hb
              go_wp2_with fail
              refine (asK.plain_no 5 _ (by decide) (by decide) (HE.out.at_below HB6.out)).mono ?_
              rintro e w7 ⟨rfl, hb⟩
              have HB7 := Lib.hid (HB6.out.trans (hb.mono HB6.out.size))
              clear hb
              go_wp2
              go_ret
              exact ⟨rfl, HB7.out⟩
end dumpW
end Go.Proofs.YtbhhfdajaoemnaaGreatDoor
