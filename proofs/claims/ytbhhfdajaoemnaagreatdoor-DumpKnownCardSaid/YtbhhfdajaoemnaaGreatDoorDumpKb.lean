/- Plain: DumpKnown's texts, and what is wrong with them. No program in sight. -/
import Derived.Test.YtbhhfdajaoemnaaGreatDoorDumpKm
namespace Go.Bus.dumpK
open Go.Bus.hexK Go.Bus.textK Go.Lib Go.Proofs.YtbhhfdajaoemnaaGreatDoor.dumpW
set_option linter.unusedVariables false
def forms : List (List UInt8) := [[40, 49, 46, 53, 41, 32, 97, 32, 49, 50, 51, 35], [40, 48, 49, 46, 53, 48, 48, 48, 48, 48, 41, 32, 97, 32, 49, 50, 51, 35], [40, 49, 46, 53, 48, 48, 48, 48, 48, 41, 32, 97, 32, 49, 50, 35], [40, 49, 46, 53, 48, 48, 48, 48, 48, 41, 32, 97, 32, 49, 50, 51, 35, 97, 48], [40, 49, 46, 53, 48, 48, 48, 48, 48, 41, 32, 97, 32, 49, 50, 51, 35, 65], [40, 49, 46, 53, 48, 48, 48, 48, 48, 41, 32, 32, 49, 50, 51, 35], [], [40], [40, 46, 53, 48, 48, 48, 48, 48, 41, 32, 97, 32, 49, 50, 51, 35], [40, 49, 46, 53, 48, 48, 48, 48, 48, 41, 97, 32, 49, 50, 51, 35], [40, 49, 46, 53, 48, 48, 48, 48, 48, 41, 32, 97, 49, 50, 51, 35], [40, 49, 46, 53, 48, 48, 48, 48, 48, 41, 32, 97, 32, 49, 50, 51], [40, 45, 49, 46, 53, 48, 48, 48, 48, 48, 41, 32, 97, 32, 49, 50, 51, 35], [40, 49, 46, 53, 48, 48, 48, 48, 48, 41, 32, 97, 32, 49, 50, 51, 35, 32], [40, 49, 46, 53, 48, 48, 48, 48, 48, 48, 41, 32, 97, 32, 49, 50, 51, 35], [40, 49, 46, 53, 48, 48, 48, 48, 48, 41, 32, 97, 32, 48, 49, 50, 51, 35]]
theorem forms_bad : ∀ S ∈ forms, noOfK S = 4 ∧ S.length ≤ 100 := by decide +kernel
theorem text1 : noOfK [40, 49, 56, 52, 52, 54, 55, 52, 52, 48, 55, 51, 55, 48, 57, 46, 53, 53, 49, 54, 49, 54, 41, 32, 120, 32, 55, 70, 70, 35] = 9 := by decide +kernel
theorem text2 : noOfK [40, 49, 46, 53, 48, 48, 48, 48, 48, 41, 32, 49, 97, 32, 70, 70, 70, 35] = 11 := by decide +kernel
theorem text3 : noOfK [40, 49, 46, 53, 48, 48, 48, 48, 48, 41, 32, 97, 32, 70, 70, 70, 35] = 26 := by decide +kernel
theorem text4 : noOfK [40, 49, 46, 53, 48, 48, 48, 48, 48, 41, 32, 97, 32, 56, 48, 48, 35] = 26 := by decide +kernel
theorem text5 : noOfK [40, 49, 46, 53, 48, 48, 48, 48, 48, 41, 32, 97, 32, 50, 48, 48, 48, 48, 48, 48, 48, 35] = 26 := by decide +kernel
theorem text6 : noOfK [40, 49, 46, 53, 48, 48, 48, 48, 48, 41, 32, 97, 32, 49, 70, 70, 70, 70, 70, 70, 70, 35] = 0 := by decide +kernel
theorem text7 : noOfK [40, 49, 46, 53, 48, 48, 48, 48, 48, 41, 32, 97, 32, 49, 50, 51, 35, 48, 48, 48, 48, 48, 48, 48, 48, 48, 48, 48, 48, 48, 48, 48, 48, 48, 48] = 15 := by decide +kernel
theorem text8 : noOfK [40, 49, 46, 53, 48, 48, 48, 48, 48, 41, 32, 97, 32, 49, 50, 51, 35, 48, 48, 48, 48, 48, 48, 48, 48, 48, 48, 48, 48, 48, 48, 48, 48] = 0 := by decide +kernel
theorem f_empty : fileF [] = .ok [] := by
  unfold fileF
  rw [if_neg (by decide), show linesF [] = [] from by decide, if_neg (by decide), goF]
theorem f_two : fileF [40, 48, 46, 48, 48, 48, 48, 48, 48, 41, 32, 97, 32, 48, 48, 49, 35, 10, 10] = .error (4, 2) := by
  have h1 : parseF [40, 48, 46, 48, 48, 48, 48, 48, 48, 41, 32, 97, 32, 48, 48, 49, 35] = .ok lnA := by
    have h := there lnA_ok.1 lnA_ok.2
    rwa [lnA_line] at h
  have h2 : linesF [40, 48, 46, 48, 48, 48, 48, 48, 48, 41, 32, 97, 32, 48, 48, 49, 35, 10, 10] = [[40, 48, 46, 48, 48, 48, 48, 48, 48, 41, 32, 97, 32, 48, 48, 49, 35], []] := by decide +kernel
  unfold fileF
  rw [if_neg (by decide), h2, if_neg (by decide), goF, h1]
  rfl
theorem f_nl : fileF [10] = .error (4, 1) := by
  unfold fileF
  rw [if_neg (by decide), show linesF [10] = [[]] from by decide, if_neg (by decide), goF]
  rfl
theorem f_line : fileF [40, 48, 46, 48, 48, 48, 48, 48, 48, 41, 32, 97, 32, 48, 48, 49, 35] = .ok [lnA] := by
  have h1 : parseF [40, 48, 46, 48, 48, 48, 48, 48, 48, 41, 32, 97, 32, 48, 48, 49, 35] = .ok lnA := by
    have h := there lnA_ok.1 lnA_ok.2
    rwa [lnA_line] at h
  have h2 : linesF [40, 48, 46, 48, 48, 48, 48, 48, 48, 41, 32, 97, 32, 48, 48, 49, 35] = [[40, 48, 46, 48, 48, 48, 48, 48, 48, 41, 32, 97, 32, 48, 48, 49, 35]] := by decide +kernel
  unfold fileF
  rw [if_neg (by decide), h2, if_neg (by decide), goF, h1]
  rfl
def ln1 : Ln := ⟨0, [97], 1, true, []⟩
def ln2 : Ln := ⟨18446744073709551615, [120], 2047, false, [0]⟩
theorem dec_two (u : Nat) (h : 10 ≤ u) : decDigits u = decDigits (u / 10) ++ [dgt u] := dec_big (by omega)
theorem ln1_line : lineD ln1 = [40, 48, 46, 48, 48, 48, 48, 48, 48, 41, 32, 97, 32, 48, 48, 48, 48, 48, 48, 48, 49, 35] := by
  have h1 : secs 0 = [48] := by unfold secs; rw [show 0 / 1000000 = 0 from rfl, dec_small (by decide)]; rfl
  unfold lineD ln1
  simp only [h1]
  decide
theorem ln2_line : lineD ln2 = [40, 49, 56, 52, 52, 54, 55, 52, 52, 48, 55, 51, 55, 48, 57, 46, 53, 53, 49, 54, 49, 53, 41, 32, 120, 32, 55, 70, 70, 35, 48, 48] := by
  have h1 : secs 18446744073709551615 = [49, 56, 52, 52, 54, 55, 52, 52, 48, 55, 51, 55, 48, 57] := by
    unfold secs
    rw [show 18446744073709551615 / 1000000 = 18446744073709 from rfl]
    have h := dec_val
    have key : decDigits (val [49, 56, 52, 52, 54, 55, 52, 52, 48, 55, 51, 55, 48, 57]) = [49, 56, 52, 52, 54, 55, 52, 52, 48, 55, 51, 55, 48, 57] := Go.Bus.textK.back (by decide)
    rwa [show val [49, 56, 52, 52, 54, 55, 52, 52, 48, 55, 51, 55, 48, 57] = 18446744073709 from by decide] at key
  unfold lineD ln2
  simp only [h1]
  decide
theorem ln1_ok : ln1.Ok ∧ wrong ln1 = 0 := ⟨⟨by decide, by decide, by decide⟩, by decide⟩
theorem ln2_ok : ln2.Ok ∧ wrong ln2 = 0 := ⟨⟨by decide, by decide, by decide⟩, by decide⟩
def ln3 : Ln := ⟨0, [49], 2147483648, false, [0, 0, 0, 0, 0, 0, 0, 0, 0]⟩
def ln4 : Ln := ⟨0, [97], 2048, false, [0, 0, 0, 0, 0, 0, 0, 0, 0]⟩
def ln5 : Ln := ⟨0, [97], 2047, false, [0, 0, 0, 0, 0, 0, 0, 0, 0]⟩
theorem ln3_ok : ln3.Ok ∧ wrong ln3 = 11 := ⟨⟨by decide, by decide, by decide⟩, by decide⟩
theorem ln4_ok : ln4.Ok ∧ wrong ln4 = 26 := ⟨⟨by decide, by decide, by decide⟩, by decide⟩
theorem ln5_ok : ln5.Ok ∧ wrong ln5 = 15 := ⟨⟨by decide, by decide, by decide⟩, by decide⟩
end Go.Bus.dumpK
