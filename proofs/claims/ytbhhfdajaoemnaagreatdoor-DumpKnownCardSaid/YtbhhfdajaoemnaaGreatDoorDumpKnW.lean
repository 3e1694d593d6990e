/- DumpKnown's walk. Conditions: the library's tables and some of its errors are laid, one variable of the library's holds some int. -/
import Derived.Test.YtbhhfdajaoemnaaGreatDoorDumpKb
import Derived.Test.YtbhhfdajaoemnaaGreatDoorDumpWk
namespace Go.Proofs.YtbhhfdajaoemnaaGreatDoor
open Go.RowKit Go.Bus Go.Bus.cellK Go.Bus.dumpK Go.Bus.textK
set_option linter.unusedVariables false
set_option linter.unusedSimpArgs false
namespace dumpW
def TrueB (w : World) (e : Ending) (w' : World) : Prop := e = .returned (.bool true) ∧ Below w.heap.size w w'
theorem sl_has {w : World} {g : Nat} {xs : List Int} (h : Has w g 5 (xs.map (Value.int .u8)).toArray) (hl : xs.length ≤ 9223372036854775807) : Sl w w.heap.size (Value.int .u8) (.slice (some ⟨g, 0, none⟩) xs.length xs.length) xs := by
  refine ⟨_, _, rfl, Nat.le_refl _, by unfold maxLen; omega, fun _ => ⟨g, 0, rfl, h.lt, fun i x hi => ?_⟩⟩
  rw [h.cell]
  simp [hi]
theorem print_good {l : Ln} {t : List UInt8} (ho : l.Ok ∧ wrong l = 0) (ht : lineD l = t) (v : Value) (w : World) (hs : Sl w w.heap.size (Value.int .u8) v l.data) (hp : l.port.length ≤ 140737488351232) (hT : fmtK.Tab w) (hZ : hexW.Tz w) : Calls Tryz.prog 14 #[.agg (lnC l v).toArray] w fun e w' => e = .returned (.tuple #[.string ⟨t.toArray⟩, .nilIface]) ∧ Below w.heap.size w w' := by
  refine (dprint_any l ho.1 v w hs hp hT hZ).mono ?_
  rintro e w' ⟨hb, ⟨-, rfl⟩ | ⟨hw, -⟩⟩
  · rw [ht]; exact ⟨rfl, hb⟩
  · exact absurd ho.2 hw
theorem print_bad {l : Ln} {n : Int} (ho : l.Ok ∧ wrong l = n) (hn : n ≠ 0) (v : Value) (w : World) (hs : Sl w w.heap.size (Value.int .u8) v l.data) (hp : l.port.length ≤ 140737488351232) (hT : fmtK.Tab w) (hZ : hexW.Tz w) : Calls Tryz.prog 14 #[.agg (lnC l v).toArray] w fun e w' => e = .returned (.tuple #[.string ⟨#[]⟩, .iface 74 (.int .i64 n)]) ∧ Below w.heap.size w w' := by
  refine (dprint_any l ho.1 v w hs hp hT hZ).mono ?_
  rintro e w' ⟨hb, ⟨hw, -⟩ | ⟨-, rfl⟩⟩
  · exact absurd (ho.2.symm.trans hw) hn
  · rw [ho.2]; exact ⟨rfl, hb⟩
set_option maxRecDepth 100000 in
set_option maxHeartbeats 16000000 in
theorem known_any (w : World) (hT : fmtK.Tab w) (hZ : hexW.Tz w) (hM : Mx w) (hR : laidK.Rng w) (hE : asK.ErrT w) : Calls Tryz.prog 4 #[] w (TrueB w) := by
  have HT := Lib.hid hT
  have HZ := Lib.hid hZ
  have HM := Lib.hid hM
  have HR := Lib.hid hR
  have HE := Lib.hid hE
  have HP1 : Hid (∀ W, Below w.heap.size w W → Calls Tryz.prog 14 #[.agg #[.int .u64 0, .string ⟨#[97]⟩, .int .u32 1, .bool true, .slice none 0 0]] W fun e w' => e = .returned (.tuple #[.string ⟨#[40, 48, 46, 48, 48, 48, 48, 48, 48, 41, 32, 97, 32, 48, 48, 48, 48, 48, 48, 48, 49, 35]⟩, .nilIface]) ∧ Below W.heap.size W w') := Lib.hid (fun W hw => print_good ln1_ok ln1_line (.slice none 0 0) W (Sl.nil_ _ _ _) (by decide) (HT.out.at_below hw) (HZ.out.at_below hw))
  have HP2 : Hid (∀ W (g : Nat), Below w.heap.size w W → Has W g 5 #[.int .u8 0] → Calls Tryz.prog 14 #[.agg #[.int .u64 18446744073709551615, .string ⟨#[120]⟩, .int .u32 2047, .bool false, .slice (some ⟨g, 0, none⟩) 1 1]] W fun e w' => e = .returned (.tuple #[.string ⟨#[40, 49, 56, 52, 52, 54, 55, 52, 52, 48, 55, 51, 55, 48, 57, 46, 53, 53, 49, 54, 49, 53, 41, 32, 120, 32, 55, 70, 70, 35, 48, 48]⟩, .nilIface]) ∧ Below W.heap.size W w') := Lib.hid (fun W g hw hg => print_good ln2_ok ln2_line (.slice (some ⟨g, 0, none⟩) 1 1) W (sl_has (xs := [0]) hg (by decide)) (by decide) (HT.out.at_below hw) (HZ.out.at_below hw))
  have HP3 : Hid (∀ W (g : Nat), Below w.heap.size w W → Has W g 5 #[.int .u8 0, .int .u8 0, .int .u8 0, .int .u8 0, .int .u8 0, .int .u8 0, .int .u8 0, .int .u8 0, .int .u8 0] → Calls Tryz.prog 14 #[.agg #[.int .u64 0, .string ⟨#[49]⟩, .int .u32 2147483648, .bool false, .slice (some ⟨g, 0, none⟩) 9 9]] W fun e w' => e = .returned (.tuple #[.string ⟨#[]⟩, .iface 74 (.int .i64 11)]) ∧ Below W.heap.size W w') := Lib.hid (fun W g hw hg => print_bad ln3_ok (by decide) (.slice (some ⟨g, 0, none⟩) 9 9) W (sl_has (xs := [0, 0, 0, 0, 0, 0, 0, 0, 0]) hg (by decide)) (by decide) (HT.out.at_below hw) (HZ.out.at_below hw))
  have HP4 : Hid (∀ W (g : Nat), Below w.heap.size w W → Has W g 5 #[.int .u8 0, .int .u8 0, .int .u8 0, .int .u8 0, .int .u8 0, .int .u8 0, .int .u8 0, .int .u8 0, .int .u8 0] → Calls Tryz.prog 14 #[.agg #[.int .u64 0, .string ⟨#[97]⟩, .int .u32 2048, .bool false, .slice (some ⟨g, 0, none⟩) 9 9]] W fun e w' => e = .returned (.tuple #[.string ⟨#[]⟩, .iface 74 (.int .i64 26)]) ∧ Below W.heap.size W w') := Lib.hid (fun W g hw hg => print_bad ln4_ok (by decide) (.slice (some ⟨g, 0, none⟩) 9 9) W (sl_has (xs := [0, 0, 0, 0, 0, 0, 0, 0, 0]) hg (by decide)) (by decide) (HT.out.at_below hw) (HZ.out.at_below hw))
  have HP5 : Hid (∀ W (g : Nat), Below w.heap.size w W → Has W g 5 #[.int .u8 0, .int .u8 0, .int .u8 0, .int .u8 0, .int .u8 0, .int .u8 0, .int .u8 0, .int .u8 0, .int .u8 0] → Calls Tryz.prog 14 #[.agg #[.int .u64 0, .string ⟨#[97]⟩, .int .u32 2047, .bool false, .slice (some ⟨g, 0, none⟩) 9 9]] W fun e w' => e = .returned (.tuple #[.string ⟨#[]⟩, .iface 74 (.int .i64 15)]) ∧ Below W.heap.size W w') := Lib.hid (fun W g hw hg => print_bad ln5_ok (by decide) (.slice (some ⟨g, 0, none⟩) 9 9) W (sl_has (xs := [0, 0, 0, 0, 0, 0, 0, 0, 0]) hg (by decide)) (by decide) (HT.out.at_below hw) (HZ.out.at_below hw))
  have HN1 : Hid (∀ W, Below w.heap.size w W → Calls Tryz.prog 15 #[.string ⟨#[40, 49, 56, 52, 52, 54, 55, 52, 52, 48, 55, 51, 55, 48, 57, 46, 53, 53, 49, 54, 49, 54, 41, 32, 120, 32, 55, 70, 70, 35]⟩, .int .i64 9] W (TrueB W)) := Lib.hid (fun W hw => no_at text1 (by decide) W (HM.out.at_below hw) (HR.out.at_below hw) (HE.out.at_below hw))
  have HN2 : Hid (∀ W, Below w.heap.size w W → Calls Tryz.prog 15 #[.string ⟨#[40, 49, 46, 53, 48, 48, 48, 48, 48, 41, 32, 49, 97, 32, 70, 70, 70, 35]⟩, .int .i64 11] W (TrueB W)) := Lib.hid (fun W hw => no_at text2 (by decide) W (HM.out.at_below hw) (HR.out.at_below hw) (HE.out.at_below hw))
  have HN3 : Hid (∀ W, Below w.heap.size w W → Calls Tryz.prog 15 #[.string ⟨#[40, 49, 46, 53, 48, 48, 48, 48, 48, 41, 32, 97, 32, 70, 70, 70, 35]⟩, .int .i64 26] W (TrueB W)) := Lib.hid (fun W hw => no_at text3 (by decide) W (HM.out.at_below hw) (HR.out.at_below hw) (HE.out.at_below hw))
  have HN4 : Hid (∀ W, Below w.heap.size w W → Calls Tryz.prog 15 #[.string ⟨#[40, 49, 46, 53, 48, 48, 48, 48, 48, 41, 32, 97, 32, 56, 48, 48, 35]⟩, .int .i64 26] W (TrueB W)) := Lib.hid (fun W hw => no_at text4 (by decide) W (HM.out.at_below hw) (HR.out.at_below hw) (HE.out.at_below hw))
  have HN5 : Hid (∀ W, Below w.heap.size w W → Calls Tryz.prog 15 #[.string ⟨#[40, 49, 46, 53, 48, 48, 48, 48, 48, 41, 32, 97, 32, 50, 48, 48, 48, 48, 48, 48, 48, 35]⟩, .int .i64 26] W (TrueB W)) := Lib.hid (fun W hw => no_at text5 (by decide) W (HM.out.at_below hw) (HR.out.at_below hw) (HE.out.at_below hw))
  have HN6 : Hid (∀ W, Below w.heap.size w W → Calls Tryz.prog 15 #[.string ⟨#[40, 49, 46, 53, 48, 48, 48, 48, 48, 41, 32, 97, 32, 49, 70, 70, 70, 70, 70, 70, 70, 35]⟩, .int .i64 0] W (TrueB W)) := Lib.hid (fun W hw => no_at text6 (by decide) W (HM.out.at_below hw) (HR.out.at_below hw) (HE.out.at_below hw))
  have HN7 : Hid (∀ W, Below w.heap.size w W → Calls Tryz.prog 15 #[.string ⟨#[40, 49, 46, 53, 48, 48, 48, 48, 48, 41, 32, 97, 32, 49, 50, 51, 35, 48, 48, 48, 48, 48, 48, 48, 48, 48, 48, 48, 48, 48, 48, 48, 48, 48, 48]⟩, .int .i64 15] W (TrueB W)) := Lib.hid (fun W hw => no_at text7 (by decide) W (HM.out.at_below hw) (HR.out.at_below hw) (HE.out.at_below hw))
  have HN8 : Hid (∀ W, Below w.heap.size w W → Calls Tryz.prog 15 #[.string ⟨#[40, 49, 46, 53, 48, 48, 48, 48, 48, 41, 32, 97, 32, 49, 50, 51, 35, 48, 48, 48, 48, 48, 48, 48, 48, 48, 48, 48, 48, 48, 48, 48, 48]⟩, .int .i64 0] W (TrueB W)) := Lib.hid (fun W hw => no_at text8 (by decide) W (HM.out.at_below hw) (HR.out.at_below hw) (HE.out.at_below hw))
  have HNF : Hid (∀ W, Below w.heap.size w W → ∀ S ∈ forms, Calls Tryz.prog 15 #[.string ⟨S.toArray⟩, .int .i64 4] W (TrueB W)) := Lib.hid (fun W hw S hS => no_at (forms_bad S hS).1 (by have := (forms_bad S hS).2; omega) W (HM.out.at_below hw) (HR.out.at_below hw) (HE.out.at_below hw))
  have HF1 : Hid (∀ W, Below w.heap.size w W → Calls Tryz.prog 9 #[.string ⟨#[]⟩] W fun e w' => (∃ A c, e = .returned (.tuple #[.slice A 0 c, .nilIface])) ∧ Below W.heap.size W w') := Lib.hid (fun W hw => (file_ok f_empty (by decide) W (HM.out.at_below hw) (HR.out.at_below hw)).mono (by rintro e w' ⟨A, c, xs, rfl, -, -, hb⟩; exact ⟨⟨A, c, rfl⟩, hb⟩))
  have HF2 : Hid (∀ W, Below w.heap.size w W → Calls Tryz.prog 9 #[.string ⟨#[40, 48, 46, 48, 48, 48, 48, 48, 48, 41, 32, 97, 32, 48, 48, 49, 35, 10, 10]⟩] W fun e w' => e = .returned (.tuple #[.slice none 0 0, .iface 78 (.agg #[.int .i64 4, .int .i64 2, .int .i64 0])]) ∧ Below W.heap.size W w') := Lib.hid (fun W hw => file_err f_two (by decide) (by decide) W (HM.out.at_below hw) (HR.out.at_below hw))
  have HF3 : Hid (∀ W, Below w.heap.size w W → Calls Tryz.prog 9 #[.string ⟨#[10]⟩] W fun e w' => e = .returned (.tuple #[.slice none 0 0, .iface 78 (.agg #[.int .i64 4, .int .i64 1, .int .i64 0])]) ∧ Below W.heap.size W w') := Lib.hid (fun W hw => file_err f_nl (by decide) (by decide) W (HM.out.at_below hw) (HR.out.at_below hw))
  have HF4 : Hid (∀ W, Below w.heap.size w W → Calls Tryz.prog 9 #[.string ⟨#[40, 48, 46, 48, 48, 48, 48, 48, 48, 41, 32, 97, 32, 48, 48, 49, 35]⟩] W fun e w' => (∃ A c, e = .returned (.tuple #[.slice A 1 c, .nilIface])) ∧ Below W.heap.size W w') := Lib.hid (fun W hw => (file_ok f_line (by decide) W (HM.out.at_below hw) (HR.out.at_below hw)).mono (by rintro e w' ⟨A, c, xs, rfl, -, -, hb⟩; exact ⟨⟨A, c, rfl⟩, hb⟩))
  have HMY : Hid (∀ W, Below w.heap.size w W → Calls Tryz.prog 17 #[] W (TrueB W)) := Lib.hid (fun W hw => many_any W (HM.out.at_below hw) (HR.out.at_below hw) (HE.out.at_below hw))
  have HPL11 : Hid (∀ W, Below w.heap.size w W → Calls Tryz.prog 16 #[.iface 74 (.int .i64 11), .int .i64 11] W (TrueB W)) := Lib.hid (fun W hw => asK.plain_no 11 W (by decide) (by decide) (HE.out.at_below hw))
  have HPL26 : Hid (∀ W, Below w.heap.size w W → Calls Tryz.prog 16 #[.iface 74 (.int .i64 26), .int .i64 26] W (TrueB W)) := Lib.hid (fun W hw => asK.plain_no 26 W (by decide) (by decide) (HE.out.at_below hw))
  have HPL15 : Hid (∀ W, Below w.heap.size w W → Calls Tryz.prog 16 #[.iface 74 (.int .i64 15), .int .i64 15] W (TrueB W)) := Lib.hid (fun W hw => asK.plain_no 15 W (by decide) (by decide) (HE.out.at_below hw))
  have HAT2 : Hid (∀ W, Below w.heap.size w W → Calls Tryz.prog 11 #[.iface 78 (.agg #[.int .i64 4, .int .i64 2, .int .i64 0]), .int .i64 4, .int .i64 2, .int .i64 0] W (TrueB W)) := Lib.hid (fun W hw => asK.at_fault 4 2 0 W (by decide) (by decide) (HE.out.at_below hw))
  have HAT1 : Hid (∀ W, Below w.heap.size w W → Calls Tryz.prog 11 #[.iface 78 (.agg #[.int .i64 4, .int .i64 1, .int .i64 0]), .int .i64 4, .int .i64 1, .int .i64 0] W (TrueB W)) := Lib.hid (fun W hw => asK.at_fault 4 1 0 W (by decide) (by decide) (HE.out.at_below hw))
  clear hT hZ hM hR hE HT HZ HM HR HE
  go_enter Tryz.func4, Tryz.ntmps4
  go_wp2_with fail
  refine (HP1.out _ (Below.refl _ _)).mono ?_
  rintro e w1 ⟨rfl, hb⟩
  have HB1 : Hid (Below w.heap.size w w1) := Lib.hid hb
  clear hb
  go_wp2_with fail
  refine (HP2.out _ _ (by have hB := HB1.out; have hs := hB.size; exact (by repeat' (first | (with_reducible assumption) | (with_reducible refine Below.setCell ?_ ?_ _) | (with_reducible refine Below.alloc ?_ ?_ _) | (with_reducible refine Below.drew ?_) | (with_reducible refine below_drewN ?_ _) | (with_reducible exact Below.refl _ _) | (show _ ≤ _; (try simp); (try omega); done) | exact Below.refl _ _ | assumption))) (by exact Has.new w1 _ _)).mono ?_
  rintro e w2 ⟨rfl, hb⟩
  have HB2 : Hid (Below w.heap.size w w2) := Lib.hid (Below.trans (by have hB := HB1.out; have hs := hB.size; exact (by repeat' (first | (with_reducible assumption) | (with_reducible refine Below.setCell ?_ ?_ _) | (with_reducible refine Below.alloc ?_ ?_ _) | (with_reducible refine Below.drew ?_) | (with_reducible refine below_drewN ?_ _) | (with_reducible exact Below.refl _ _) | (show _ ≤ _; (try simp); (try omega); done) | exact Below.refl _ _ | assumption))) (hb.mono (by have := HB1.out.size; simp; omega)))
  clear hb
  go_wp2
  go_loopw [6] (fun iv wr => ∃ i : Nat, iv = .int .i64 (i : Nat) ∧ i ≤ 16 ∧ Hid (Below w.heap.size w wr) ∧ Hid (Has wr w2.heap.size 9 #[.string ⟨#[40, 49, 46, 53, 41, 32, 97, 32, 49, 50, 51, 35]⟩, .string ⟨#[40, 48, 49, 46, 53, 48, 48, 48, 48, 48, 41, 32, 97, 32, 49, 50, 51, 35]⟩, .string ⟨#[40, 49, 46, 53, 48, 48, 48, 48, 48, 41, 32, 97, 32, 49, 50, 35]⟩, .string ⟨#[40, 49, 46, 53, 48, 48, 48, 48, 48, 41, 32, 97, 32, 49, 50, 51, 35, 97, 48]⟩, .string ⟨#[40, 49, 46, 53, 48, 48, 48, 48, 48, 41, 32, 97, 32, 49, 50, 51, 35, 65]⟩, .string ⟨#[40, 49, 46, 53, 48, 48, 48, 48, 48, 41, 32, 32, 49, 50, 51, 35]⟩, .string ⟨#[]⟩, .string ⟨#[40]⟩, .string ⟨#[40, 46, 53, 48, 48, 48, 48, 48, 41, 32, 97, 32, 49, 50, 51, 35]⟩, .string ⟨#[40, 49, 46, 53, 48, 48, 48, 48, 48, 41, 97, 32, 49, 50, 51, 35]⟩, .string ⟨#[40, 49, 46, 53, 48, 48, 48, 48, 48, 41, 32, 97, 49, 50, 51, 35]⟩, .string ⟨#[40, 49, 46, 53, 48, 48, 48, 48, 48, 41, 32, 97, 32, 49, 50, 51]⟩, .string ⟨#[40, 45, 49, 46, 53, 48, 48, 48, 48, 48, 41, 32, 97, 32, 49, 50, 51, 35]⟩, .string ⟨#[40, 49, 46, 53, 48, 48, 48, 48, 48, 41, 32, 97, 32, 49, 50, 51, 35, 32]⟩, .string ⟨#[40, 49, 46, 53, 48, 48, 48, 48, 48, 48, 41, 32, 97, 32, 49, 50, 51, 35]⟩, .string ⟨#[40, 49, 46, 53, 48, 48, 48, 48, 48, 41, 32, 97, 32, 48, 49, 50, 51, 35]⟩])) (fun iv _ => 16 - (intOf iv).toNat)
  case atStart => exact ⟨0, rfl, by decide, Lib.hid (by have hB := HB2.out; have hs := hB.size; exact (by repeat' (first | (with_reducible assumption) | (with_reducible refine Below.setCell ?_ ?_ _) | (with_reducible refine Below.alloc ?_ ?_ _) | (with_reducible refine Below.drew ?_) | (with_reducible refine below_drewN ?_ _) | (with_reducible exact Below.refl _ _) | (show _ ≤ _; (try simp); (try omega); done) | exact Below.refl _ _ | assumption))), Lib.hid (by exact Has.new w2 _ _)⟩
  case round =>
    obtain ⟨i, rfl, hi, HBr, HH⟩ := hrel
    have HB2s := HB2.out.size
    have zr : w2.heap.size < wr.heap.size := HH.out.lt
    by_cases hlt : i < 16
    · have hfl : i < forms.length := hlt
      have cx : wr.cell? ⟨w2.heap.size, i, none⟩ = some (.string ⟨(forms[i]).toArray⟩) := by
        rw [HH.out.cell i]
        have key : ∀ j (h : j < forms.length), (#[.string ⟨#[40, 49, 46, 53, 41, 32, 97, 32, 49, 50, 51, 35]⟩, .string ⟨#[40, 48, 49, 46, 53, 48, 48, 48, 48, 48, 41, 32, 97, 32, 49, 50, 51, 35]⟩, .string ⟨#[40, 49, 46, 53, 48, 48, 48, 48, 48, 41, 32, 97, 32, 49, 50, 35]⟩, .string ⟨#[40, 49, 46, 53, 48, 48, 48, 48, 48, 41, 32, 97, 32, 49, 50, 51, 35, 97, 48]⟩, .string ⟨#[40, 49, 46, 53, 48, 48, 48, 48, 48, 41, 32, 97, 32, 49, 50, 51, 35, 65]⟩, .string ⟨#[40, 49, 46, 53, 48, 48, 48, 48, 48, 41, 32, 32, 49, 50, 51, 35]⟩, .string ⟨#[]⟩, .string ⟨#[40]⟩, .string ⟨#[40, 46, 53, 48, 48, 48, 48, 48, 41, 32, 97, 32, 49, 50, 51, 35]⟩, .string ⟨#[40, 49, 46, 53, 48, 48, 48, 48, 48, 41, 97, 32, 49, 50, 51, 35]⟩, .string ⟨#[40, 49, 46, 53, 48, 48, 48, 48, 48, 41, 32, 97, 49, 50, 51, 35]⟩, .string ⟨#[40, 49, 46, 53, 48, 48, 48, 48, 48, 41, 32, 97, 32, 49, 50, 51]⟩, .string ⟨#[40, 45, 49, 46, 53, 48, 48, 48, 48, 48, 41, 32, 97, 32, 49, 50, 51, 35]⟩, .string ⟨#[40, 49, 46, 53, 48, 48, 48, 48, 48, 41, 32, 97, 32, 49, 50, 51, 35, 32]⟩, .string ⟨#[40, 49, 46, 53, 48, 48, 48, 48, 48, 48, 41, 32, 97, 32, 49, 50, 51, 35]⟩, .string ⟨#[40, 49, 46, 53, 48, 48, 48, 48, 48, 41, 32, 97, 32, 48, 49, 50, 51, 35]⟩] : Array Value)[j]? = some (.string ⟨(forms[j]).toArray⟩) := by
          intro j h
          have h16 : j < 16 := h
          match j, h16 with
          | 0, _ => rfl | 1, _ => rfl | 2, _ => rfl | 3, _ => rfl | 4, _ => rfl | 5, _ => rfl | 6, _ => rfl | 7, _ => rfl | 8, _ => rfl | 9, _ => rfl | 10, _ => rfl | 11, _ => rfl | 12, _ => rfl | 13, _ => rfl | 14, _ => rfl | 15, _ => rfl
          | n + 16, h => omega
        exact key i hfl
      have HC := Lib.hid (HNF.out wr HBr.out _ (List.getElem_mem hfl))
      generalize forms[i] = X at *
      go_wp2_with fail
      refine (HC.out).mono ?_
      rintro e wx ⟨rfl, hb⟩
      have HBx : Hid (Below w.heap.size w wx) := Lib.hid (HBr.out.trans (hb.mono HBr.out.size))
      have HHx := Lib.hid (HH.out.below hb zr)
      clear hb
      go_wp2
      go_roundw
      case rel => exact ⟨i + 1, by go_num, by omega, HBx, HHx⟩
      case measure => simp [intOf]; omega
    · obtain rfl : i = 16 := by omega
      obtain ⟨w3, rfl⟩ : ∃ w3 : World, w3 = wr := ⟨_, rfl⟩
      have HB3 := HBr
      clear hlt hi HBr HH
      go_wp2_with fail
      refine (HN1.out _ HB3.out).mono ?_
      rintro e w4 ⟨rfl, hb⟩
      have HB4 : Hid (Below w.heap.size w w4) := Lib.hid (HB3.out.trans (hb.mono HB3.out.size))
      clear hb
      go_wp2_with fail
      refine (HN2.out _ HB4.out).mono ?_
      rintro e w5 ⟨rfl, hb⟩
      have HB5 : Hid (Below w.heap.size w w5) := Lib.hid (HB4.out.trans (hb.mono HB4.out.size))
      clear hb
      go_wp2_with fail
      refine (HN3.out _ HB5.out).mono ?_
      rintro e w6 ⟨rfl, hb⟩
      have HB6 : Hid (Below w.heap.size w w6) := Lib.hid (HB5.out.trans (hb.mono HB5.out.size))
      clear hb
      go_wp2_with fail
      refine (HN4.out _ HB6.out).mono ?_
      rintro e w7 ⟨rfl, hb⟩
      have HB7 : Hid (Below w.heap.size w w7) := Lib.hid (HB6.out.trans (hb.mono HB6.out.size))
      clear hb
      go_wp2_with fail
      refine (HN5.out _ HB7.out).mono ?_
      rintro e w8 ⟨rfl, hb⟩
      have HB8 : Hid (Below w.heap.size w w8) := Lib.hid (HB7.out.trans (hb.mono HB7.out.size))
      clear hb
      go_wp2_with fail
      refine (HN6.out _ HB8.out).mono ?_
      rintro e w9 ⟨rfl, hb⟩
      have HB9 : Hid (Below w.heap.size w w9) := Lib.hid (HB8.out.trans (hb.mono HB8.out.size))
      clear hb
      go_wp2_with fail
      refine (HN7.out _ HB9.out).mono ?_
      rintro e w10 ⟨rfl, hb⟩
      have HB10 : Hid (Below w.heap.size w w10) := Lib.hid (HB9.out.trans (hb.mono HB9.out.size))
      clear hb
      go_wp2_with fail
      refine (HN8.out _ HB10.out).mono ?_
      rintro e w11 ⟨rfl, hb⟩
      have HB11 : Hid (Below w.heap.size w w11) := Lib.hid (HB10.out.trans (hb.mono HB10.out.size))
      clear hb
      go_wp2_with fail
      refine (HF1.out _ HB11.out).mono ?_
      rintro e w12 ⟨⟨fA1, fc1, rfl⟩, hb⟩
      have HB12 : Hid (Below w.heap.size w w12) := Lib.hid (HB11.out.trans (hb.mono HB11.out.size))
      clear hb
      go_wp2_with fail
      refine (HF2.out _ HB12.out).mono ?_
      rintro e w13 ⟨rfl, hb⟩
      have HB13 : Hid (Below w.heap.size w w13) := Lib.hid (HB12.out.trans (hb.mono HB12.out.size))
      clear hb
      go_wp2_with fail
      refine (HF3.out _ HB13.out).mono ?_
      rintro e w14 ⟨rfl, hb⟩
      have HB14 : Hid (Below w.heap.size w w14) := Lib.hid (HB13.out.trans (hb.mono HB13.out.size))
      clear hb
      go_wp2_with fail
      refine (HF4.out _ HB14.out).mono ?_
      rintro e w15 ⟨⟨fA4, fc4, rfl⟩, hb⟩
      have HB15 : Hid (Below w.heap.size w w15) := Lib.hid (HB14.out.trans (hb.mono HB14.out.size))
      clear hb
      go_wp2_with fail
      refine (HAT2.out _ HB15.out).mono ?_
      rintro e w16 ⟨rfl, hb⟩
      have HB16 : Hid (Below w.heap.size w w16) := Lib.hid (HB15.out.trans (hb.mono HB15.out.size))
      clear hb
      go_wp2_with fail
      refine (HAT1.out _ HB16.out).mono ?_
      rintro e w17 ⟨rfl, hb⟩
      have HB17 : Hid (Below w.heap.size w w17) := Lib.hid (HB16.out.trans (hb.mono HB16.out.size))
      clear hb
      go_wp2_with fail
      refine (HP3.out _ _ (by have hB := HB17.out; have hs := hB.size; exact (by repeat' (first | (with_reducible assumption) | (with_reducible refine Below.setCell ?_ ?_ _) | (with_reducible refine Below.alloc ?_ ?_ _) | (with_reducible refine Below.drew ?_) | (with_reducible refine below_drewN ?_ _) | (with_reducible exact Below.refl _ _) | (show _ ≤ _; (try simp); (try omega); done) | exact Below.refl _ _ | assumption))) (by exact Has.new w17 _ _)).mono ?_
      rintro e w18 ⟨rfl, hb⟩
      have HB18 : Hid (Below w.heap.size w w18) := Lib.hid (Below.trans (by have hB := HB17.out; have hs := hB.size; exact (by repeat' (first | (with_reducible assumption) | (with_reducible refine Below.setCell ?_ ?_ _) | (with_reducible refine Below.alloc ?_ ?_ _) | (with_reducible refine Below.drew ?_) | (with_reducible refine below_drewN ?_ _) | (with_reducible exact Below.refl _ _) | (show _ ≤ _; (try simp); (try omega); done) | exact Below.refl _ _ | assumption))) (hb.mono (by have := HB17.out.size; simp; omega)))
      clear hb
      go_wp2_with fail
      refine (HP4.out _ _ (by have hB := HB18.out; have hs := hB.size; exact (by repeat' (first | (with_reducible assumption) | (with_reducible refine Below.setCell ?_ ?_ _) | (with_reducible refine Below.alloc ?_ ?_ _) | (with_reducible refine Below.drew ?_) | (with_reducible refine below_drewN ?_ _) | (with_reducible exact Below.refl _ _) | (show _ ≤ _; (try simp); (try omega); done) | exact Below.refl _ _ | assumption))) (by exact Has.new w18 _ _)).mono ?_
      rintro e w19 ⟨rfl, hb⟩
      have HB19 : Hid (Below w.heap.size w w19) := Lib.hid (Below.trans (by have hB := HB18.out; have hs := hB.size; exact (by repeat' (first | (with_reducible assumption) | (with_reducible refine Below.setCell ?_ ?_ _) | (with_reducible refine Below.alloc ?_ ?_ _) | (with_reducible refine Below.drew ?_) | (with_reducible refine below_drewN ?_ _) | (with_reducible exact Below.refl _ _) | (show _ ≤ _; (try simp); (try omega); done) | exact Below.refl _ _ | assumption))) (hb.mono (by have := HB18.out.size; simp; omega)))
      clear hb
      go_wp2_with fail
      refine (HP5.out _ _ (by have hB := HB19.out; have hs := hB.size; exact (by repeat' (first | (with_reducible assumption) | (with_reducible refine Below.setCell ?_ ?_ _) | (with_reducible refine Below.alloc ?_ ?_ _) | (with_reducible refine Below.drew ?_) | (with_reducible refine below_drewN ?_ _) | (with_reducible exact Below.refl _ _) | (show _ ≤ _; (try simp); (try omega); done) | exact Below.refl _ _ | assumption))) (by exact Has.new w19 _ _)).mono ?_
      rintro e w20 ⟨rfl, hb⟩
      have HB20 : Hid (Below w.heap.size w w20) := Lib.hid (Below.trans (by have hB := HB19.out; have hs := hB.size; exact (by repeat' (first | (with_reducible assumption) | (with_reducible refine Below.setCell ?_ ?_ _) | (with_reducible refine Below.alloc ?_ ?_ _) | (with_reducible refine Below.drew ?_) | (with_reducible refine below_drewN ?_ _) | (with_reducible exact Below.refl _ _) | (show _ ≤ _; (try simp); (try omega); done) | exact Below.refl _ _ | assumption))) (hb.mono (by have := HB19.out.size; simp; omega)))
      clear hb
      go_wp2_with fail
      refine (HPL11.out _ HB20.out).mono ?_
      rintro e w21 ⟨rfl, hb⟩
      have HB21 : Hid (Below w.heap.size w w21) := Lib.hid (HB20.out.trans (hb.mono HB20.out.size))
      clear hb
      go_wp2_with fail
      refine (HPL26.out _ HB21.out).mono ?_
      rintro e w22 ⟨rfl, hb⟩
      have HB22 : Hid (Below w.heap.size w w22) := Lib.hid (HB21.out.trans (hb.mono HB21.out.size))
      clear hb
      go_wp2_with fail
      refine (HPL15.out _ HB22.out).mono ?_
      rintro e w23 ⟨rfl, hb⟩
      have HB23 : Hid (Below w.heap.size w w23) := Lib.hid (HB22.out.trans (hb.mono HB22.out.size))
      clear hb
      go_wp2_with fail
      refine (HMY.out _ HB23.out).mono ?_
      rintro e w24 ⟨rfl, hb⟩
      have HB24 : Hid (Below w.heap.size w w24) := Lib.hid (HB23.out.trans (hb.mono HB23.out.size))
      clear hb
      go_wp2
      go_ret
      exact ⟨rfl, HB24.out⟩
end dumpW
end Go.Proofs.YtbhhfdajaoemnaaGreatDoor
