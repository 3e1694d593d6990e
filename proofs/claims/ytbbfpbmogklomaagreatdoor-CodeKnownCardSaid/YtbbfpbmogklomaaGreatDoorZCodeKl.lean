/- busbarlaw12.knownLines. Conditions: the library's tables and some of its errors are laid, variables of the library's hold some ints. -/
import Derived.Test.YtbbfpbmogklomaaGreatDoorZKy
import Derived.Test.YtbbfpbmogklomaaGreatDoorZKw
namespace Go.Proofs.YtbbfpbmogklomaaGreatDoor
open Go.RowKit Go.Bus Go.Bus.cellK Go.Bus.codeK
set_option linter.unusedVariables false
set_option linter.unusedSimpArgs false
namespace codeW
def linesK : List (List UInt8) := [[], [32], [106, 117, 109, 112], [104, 97, 108, 116, 32], [32, 104, 97, 108, 116], [104, 97, 108, 116, 32, 49], [99, 111, 110, 115, 116], [99, 111, 110, 115, 116, 32, 114, 51], [99, 111, 110, 115, 116, 32, 114, 51, 32, 51, 48, 48], [99, 111, 110, 115, 116, 32, 114, 51, 32, 48, 120], [99, 111, 110, 115, 116, 32, 114, 51, 32, 48, 120, 48], [99, 111, 110, 115, 116, 32, 114, 51, 32, 48, 120, 48, 48], [99, 111, 110, 115, 116, 32, 114, 51, 32, 48, 120, 70, 70], [99, 111, 110, 115, 116, 32, 114, 51, 32, 48, 120, 102, 102, 102, 102, 102, 102, 102, 102, 102, 102, 102, 102, 102, 102, 102, 102], [99, 111, 110, 115, 116, 32, 114, 51, 32, 48, 120, 49, 48, 48, 48, 48, 48, 48, 48, 48, 48, 48, 48, 48, 48, 48, 48, 48], [99, 111, 110, 115, 116, 32, 114, 48, 51, 32, 48, 120, 49], [99, 111, 110, 115, 116, 32, 114, 49, 54, 32, 48, 120, 49], [99, 111, 110, 115, 116, 32, 32, 114, 51, 32, 48, 120, 49], [99, 111, 110, 115, 116, 32, 114, 51, 32, 48, 120, 49, 32], [109, 111, 118, 101, 32, 114, 49, 54, 32, 114, 48], [109, 111, 118, 101, 32, 114, 49, 32, 50], [108, 111, 97, 100, 32, 114, 48, 32, 55, 32, 50], [108, 111, 97, 100, 32, 114, 48, 32, 55, 32, 49], [108, 111, 97, 100, 32, 114, 48, 32, 48, 32, 56], [108, 111, 97, 100, 32, 114, 48, 32, 48, 32, 57], [115, 104, 108, 32, 114, 49, 32, 54, 51], [115, 104, 108, 32, 114, 49, 32, 54, 52], [115, 105, 103, 110, 32, 114, 49, 32, 48], [115, 105, 103, 110, 32, 114, 49, 32, 54, 52], [105, 110, 32, 114, 49, 32, 54, 51], [105, 110, 32, 114, 49, 32, 54, 52], [102, 105, 116, 115, 32, 114, 49, 32, 50, 32, 51, 32, 115, 105, 103, 110, 101, 100], [102, 105, 116, 115, 32, 114, 49, 32, 50, 32, 51, 32, 117, 110, 115, 105, 103, 110, 101, 100], [102, 105, 116, 115, 32, 114, 49, 32, 50, 32, 51, 32, 48, 120, 49], [115, 107, 105, 112, 32, 48, 48, 55], [115, 107, 105, 112, 32, 49, 54, 51, 56, 52], [115, 107, 105, 112, 32, 49, 54, 51, 56, 53], [115, 107, 105, 112, 32, 45, 49], [115, 107, 105, 112, 32, 49, 56, 52, 52, 54, 55, 52, 52, 48, 55, 51, 55, 48, 57, 53, 53, 49, 54, 49, 55], [115, 107, 105, 112, 110, 101, 32, 114, 49, 32, 50, 32, 48, 120, 97], [104, 97, 108, 116, 0], [72, 65, 76, 84], [115, 116, 111, 114, 101, 32, 114, 49, 32, 50, 32, 51, 32, 48, 120, 49], [98, 108, 101, 110, 100, 32, 114, 49, 32, 50, 32, 51]]
theorem linesK_len : ∀ S ∈ linesK, S.length ≤ 2097152 := by decide
theorem linesK_cell : ∀ j (h : j < linesK.length), (#[.string ⟨#[]⟩, .string ⟨#[32]⟩, .string ⟨#[106, 117, 109, 112]⟩, .string ⟨#[104, 97, 108, 116, 32]⟩, .string ⟨#[32, 104, 97, 108, 116]⟩, .string ⟨#[104, 97, 108, 116, 32, 49]⟩, .string ⟨#[99, 111, 110, 115, 116]⟩, .string ⟨#[99, 111, 110, 115, 116, 32, 114, 51]⟩, .string ⟨#[99, 111, 110, 115, 116, 32, 114, 51, 32, 51, 48, 48]⟩, .string ⟨#[99, 111, 110, 115, 116, 32, 114, 51, 32, 48, 120]⟩, .string ⟨#[99, 111, 110, 115, 116, 32, 114, 51, 32, 48, 120, 48]⟩, .string ⟨#[99, 111, 110, 115, 116, 32, 114, 51, 32, 48, 120, 48, 48]⟩, .string ⟨#[99, 111, 110, 115, 116, 32, 114, 51, 32, 48, 120, 70, 70]⟩, .string ⟨#[99, 111, 110, 115, 116, 32, 114, 51, 32, 48, 120, 102, 102, 102, 102, 102, 102, 102, 102, 102, 102, 102, 102, 102, 102, 102, 102]⟩, .string ⟨#[99, 111, 110, 115, 116, 32, 114, 51, 32, 48, 120, 49, 48, 48, 48, 48, 48, 48, 48, 48, 48, 48, 48, 48, 48, 48, 48, 48]⟩, .string ⟨#[99, 111, 110, 115, 116, 32, 114, 48, 51, 32, 48, 120, 49]⟩, .string ⟨#[99, 111, 110, 115, 116, 32, 114, 49, 54, 32, 48, 120, 49]⟩, .string ⟨#[99, 111, 110, 115, 116, 32, 32, 114, 51, 32, 48, 120, 49]⟩, .string ⟨#[99, 111, 110, 115, 116, 32, 114, 51, 32, 48, 120, 49, 32]⟩, .string ⟨#[109, 111, 118, 101, 32, 114, 49, 54, 32, 114, 48]⟩, .string ⟨#[109, 111, 118, 101, 32, 114, 49, 32, 50]⟩, .string ⟨#[108, 111, 97, 100, 32, 114, 48, 32, 55, 32, 50]⟩, .string ⟨#[108, 111, 97, 100, 32, 114, 48, 32, 55, 32, 49]⟩, .string ⟨#[108, 111, 97, 100, 32, 114, 48, 32, 48, 32, 56]⟩, .string ⟨#[108, 111, 97, 100, 32, 114, 48, 32, 48, 32, 57]⟩, .string ⟨#[115, 104, 108, 32, 114, 49, 32, 54, 51]⟩, .string ⟨#[115, 104, 108, 32, 114, 49, 32, 54, 52]⟩, .string ⟨#[115, 105, 103, 110, 32, 114, 49, 32, 48]⟩, .string ⟨#[115, 105, 103, 110, 32, 114, 49, 32, 54, 52]⟩, .string ⟨#[105, 110, 32, 114, 49, 32, 54, 51]⟩, .string ⟨#[105, 110, 32, 114, 49, 32, 54, 52]⟩, .string ⟨#[102, 105, 116, 115, 32, 114, 49, 32, 50, 32, 51, 32, 115, 105, 103, 110, 101, 100]⟩, .string ⟨#[102, 105, 116, 115, 32, 114, 49, 32, 50, 32, 51, 32, 117, 110, 115, 105, 103, 110, 101, 100]⟩, .string ⟨#[102, 105, 116, 115, 32, 114, 49, 32, 50, 32, 51, 32, 48, 120, 49]⟩, .string ⟨#[115, 107, 105, 112, 32, 48, 48, 55]⟩, .string ⟨#[115, 107, 105, 112, 32, 49, 54, 51, 56, 52]⟩, .string ⟨#[115, 107, 105, 112, 32, 49, 54, 51, 56, 53]⟩, .string ⟨#[115, 107, 105, 112, 32, 45, 49]⟩, .string ⟨#[115, 107, 105, 112, 32, 49, 56, 52, 52, 54, 55, 52, 52, 48, 55, 51, 55, 48, 57, 53, 53, 49, 54, 49, 55]⟩, .string ⟨#[115, 107, 105, 112, 110, 101, 32, 114, 49, 32, 50, 32, 48, 120, 97]⟩, .string ⟨#[104, 97, 108, 116, 0]⟩, .string ⟨#[72, 65, 76, 84]⟩, .string ⟨#[115, 116, 111, 114, 101, 32, 114, 49, 32, 50, 32, 51, 32, 48, 120, 49]⟩, .string ⟨#[98, 108, 101, 110, 100, 32, 114, 49, 32, 50, 32, 51]⟩] : Array Value)[j]? = some (.string ⟨(linesK[j]).toArray⟩) := by
  intro j h
  have hn : j < 44 := h
  match j, hn with
  | 0, _ => rfl
  | 1, _ => rfl
  | 2, _ => rfl
  | 3, _ => rfl
  | 4, _ => rfl
  | 5, _ => rfl
  | 6, _ => rfl
  | 7, _ => rfl
  | 8, _ => rfl
  | 9, _ => rfl
  | 10, _ => rfl
  | 11, _ => rfl
  | 12, _ => rfl
  | 13, _ => rfl
  | 14, _ => rfl
  | 15, _ => rfl
  | 16, _ => rfl
  | 17, _ => rfl
  | 18, _ => rfl
  | 19, _ => rfl
  | 20, _ => rfl
  | 21, _ => rfl
  | 22, _ => rfl
  | 23, _ => rfl
  | 24, _ => rfl
  | 25, _ => rfl
  | 26, _ => rfl
  | 27, _ => rfl
  | 28, _ => rfl
  | 29, _ => rfl
  | 30, _ => rfl
  | 31, _ => rfl
  | 32, _ => rfl
  | 33, _ => rfl
  | 34, _ => rfl
  | 35, _ => rfl
  | 36, _ => rfl
  | 37, _ => rfl
  | 38, _ => rfl
  | 39, _ => rfl
  | 40, _ => rfl
  | 41, _ => rfl
  | 42, _ => rfl
  | 43, _ => rfl
  | m + 44, h => omega
set_option maxRecDepth 100000 in
set_option maxHeartbeats 4000000 in
theorem knownlines_any (w : World) (hT : Tabs w) (hS : Sp w) (hM : Mx w) (hE : Errs w) (hG : asK.ErrT w) : Calls Tryz.prog 7 #[] w fun e w' => e = .returned (.bool true) ∧ Below w.heap.size w w' := by
  have HP : Hid (∀ W, Below w.heap.size w W → ∀ S ∈ linesK, Calls Tryz.prog 20 #[.string ⟨S.toArray⟩] W fun e w' => e = .returned (.bool true) ∧ Below W.heap.size W w') := Lib.hid (fun W hw S h => parses_any W (linesK_len S h) (hT.at_below hw) (hS.at_below hw) (hM.at_below hw) (hE.at_below hw) (hG.at_below hw))
  have HL : Hid (∀ W, Below w.heap.size w W → ∀ S ∈ linesK, Calls Tryz.prog 21 #[.string ⟨S.toArray⟩] W fun e w' => e = .returned (.bool true) ∧ Below W.heap.size W w') := Lib.hid (fun W hw S h => line_any W (linesK_len S h) (hT.at_below hw) (hS.at_below hw) (hM.at_below hw) (hE.at_below hw))
  clear hT hS hM hE hG
  go_enter Tryz.func7, Tryz.ntmps7
  go_wp2
  go_loopw [2] (fun iv wr => ∃ i : Nat, iv = .int .i64 (i : Nat) ∧ i ≤ 44 ∧ Hid (Below w.heap.size w wr) ∧ Hid (Has wr w.heap.size 9 #[.string ⟨#[]⟩, .string ⟨#[32]⟩, .string ⟨#[106, 117, 109, 112]⟩, .string ⟨#[104, 97, 108, 116, 32]⟩, .string ⟨#[32, 104, 97, 108, 116]⟩, .string ⟨#[104, 97, 108, 116, 32, 49]⟩, .string ⟨#[99, 111, 110, 115, 116]⟩, .string ⟨#[99, 111, 110, 115, 116, 32, 114, 51]⟩, .string ⟨#[99, 111, 110, 115, 116, 32, 114, 51, 32, 51, 48, 48]⟩, .string ⟨#[99, 111, 110, 115, 116, 32, 114, 51, 32, 48, 120]⟩, .string ⟨#[99, 111, 110, 115, 116, 32, 114, 51, 32, 48, 120, 48]⟩, .string ⟨#[99, 111, 110, 115, 116, 32, 114, 51, 32, 48, 120, 48, 48]⟩, .string ⟨#[99, 111, 110, 115, 116, 32, 114, 51, 32, 48, 120, 70, 70]⟩, .string ⟨#[99, 111, 110, 115, 116, 32, 114, 51, 32, 48, 120, 102, 102, 102, 102, 102, 102, 102, 102, 102, 102, 102, 102, 102, 102, 102, 102]⟩, .string ⟨#[99, 111, 110, 115, 116, 32, 114, 51, 32, 48, 120, 49, 48, 48, 48, 48, 48, 48, 48, 48, 48, 48, 48, 48, 48, 48, 48, 48]⟩, .string ⟨#[99, 111, 110, 115, 116, 32, 114, 48, 51, 32, 48, 120, 49]⟩, .string ⟨#[99, 111, 110, 115, 116, 32, 114, 49, 54, 32, 48, 120, 49]⟩, .string ⟨#[99, 111, 110, 115, 116, 32, 32, 114, 51, 32, 48, 120, 49]⟩, .string ⟨#[99, 111, 110, 115, 116, 32, 114, 51, 32, 48, 120, 49, 32]⟩, .string ⟨#[109, 111, 118, 101, 32, 114, 49, 54, 32, 114, 48]⟩, .string ⟨#[109, 111, 118, 101, 32, 114, 49, 32, 50]⟩, .string ⟨#[108, 111, 97, 100, 32, 114, 48, 32, 55, 32, 50]⟩, .string ⟨#[108, 111, 97, 100, 32, 114, 48, 32, 55, 32, 49]⟩, .string ⟨#[108, 111, 97, 100, 32, 114, 48, 32, 48, 32, 56]⟩, .string ⟨#[108, 111, 97, 100, 32, 114, 48, 32, 48, 32, 57]⟩, .string ⟨#[115, 104, 108, 32, 114, 49, 32, 54, 51]⟩, .string ⟨#[115, 104, 108, 32, 114, 49, 32, 54, 52]⟩, .string ⟨#[115, 105, 103, 110, 32, 114, 49, 32, 48]⟩, .string ⟨#[115, 105, 103, 110, 32, 114, 49, 32, 54, 52]⟩, .string ⟨#[105, 110, 32, 114, 49, 32, 54, 51]⟩, .string ⟨#[105, 110, 32, 114, 49, 32, 54, 52]⟩, .string ⟨#[102, 105, 116, 115, 32, 114, 49, 32, 50, 32, 51, 32, 115, 105, 103, 110, 101, 100]⟩, .string ⟨#[102, 105, 116, 115, 32, 114, 49, 32, 50, 32, 51, 32, 117, 110, 115, 105, 103, 110, 101, 100]⟩, .string ⟨#[102, 105, 116, 115, 32, 114, 49, 32, 50, 32, 51, 32, 48, 120, 49]⟩, .string ⟨#[115, 107, 105, 112, 32, 48, 48, 55]⟩, .string ⟨#[115, 107, 105, 112, 32, 49, 54, 51, 56, 52]⟩, .string ⟨#[115, 107, 105, 112, 32, 49, 54, 51, 56, 53]⟩, .string ⟨#[115, 107, 105, 112, 32, 45, 49]⟩, .string ⟨#[115, 107, 105, 112, 32, 49, 56, 52, 52, 54, 55, 52, 52, 48, 55, 51, 55, 48, 57, 53, 53, 49, 54, 49, 55]⟩, .string ⟨#[115, 107, 105, 112, 110, 101, 32, 114, 49, 32, 50, 32, 48, 120, 97]⟩, .string ⟨#[104, 97, 108, 116, 0]⟩, .string ⟨#[72, 65, 76, 84]⟩, .string ⟨#[115, 116, 111, 114, 101, 32, 114, 49, 32, 50, 32, 51, 32, 48, 120, 49]⟩, .string ⟨#[98, 108, 101, 110, 100, 32, 114, 49, 32, 50, 32, 51]⟩])) (fun iv _ => 44 - (intOf iv).toNat)
  case atStart => exact ⟨0, rfl, by decide, Lib.hid (by repeat' (first | (with_reducible assumption) | (with_reducible refine Below.setCell ?_ ?_ _) | (with_reducible refine Below.alloc ?_ ?_ _) | (with_reducible refine Below.drew ?_) | (with_reducible refine below_drewN ?_ _) | (with_reducible exact Below.refl _ _) | (show _ ≤ _; (try simp); (try omega); done) | exact Below.refl _ _ | assumption)), Lib.hid (by exact Has.new w _ _)⟩
  case round =>
    obtain ⟨i, rfl, hi, HBr, HH⟩ := hrel
    have zr : w.heap.size < wr.heap.size := HH.out.lt
    by_cases hlt : i < 44
    · have hfl : i < linesK.length := hlt
      have cx : wr.cell? ⟨w.heap.size, i, none⟩ = some (.string ⟨(linesK[i]).toArray⟩) := by
        rw [HH.out.cell i]; exact linesK_cell i hfl
      have hmem : linesK[i] ∈ linesK := List.getElem_mem hfl
      have HC := Lib.hid (HP.out wr HBr.out _ hmem)
      have HD := Lib.hid (fun W hw => HL.out W hw _ hmem)
      clear hmem
      generalize linesK[i] = X at *
      go_wp2_with fail
      refine (HC.out).mono ?_
      rintro e w1 ⟨rfl, hb⟩
      have HB1 : Hid (Below w.heap.size w w1) := Lib.hid (HBr.out.trans (hb.mono HBr.out.size))
      have HH1 := Lib.hid (HH.out.below hb zr)
      have z1 : w.heap.size < w1.heap.size := HH1.out.lt
      have cx1 : w1.cell? ⟨w.heap.size, i, none⟩ = some (.string ⟨X.toArray⟩) := (hb.cell (p := ⟨w.heap.size, i, none⟩) zr).trans cx
      clear hb
      go_wp2_with fail
      refine (HD.out _ HB1.out).mono ?_
      rintro e w2 ⟨rfl, hb⟩
      have HB2 : Hid (Below w.heap.size w w2) := Lib.hid (HB1.out.trans (hb.mono HB1.out.size))
      have HH2 := Lib.hid (HH1.out.below hb z1)
      clear hb
      go_wp2
      go_roundw
      case rel => exact ⟨i + 1, by go_num, by omega, HB2, HH2⟩
      case measure => simp [intOf]; omega
    · obtain rfl : i = 44 := by omega
      go_wp2
      go_ret
      exact ⟨rfl, HBr.out⟩
end codeW
end Go.Proofs.YtbbfpbmogklomaaGreatDoor
