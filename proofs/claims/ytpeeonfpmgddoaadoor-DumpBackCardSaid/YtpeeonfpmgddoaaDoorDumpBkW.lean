/- DumpBack's walk: of any line. Conditions: the library's tables and one of its errors are laid, one variable of the library's holds some int, numbers within their types' bounds. -/
import Derived.Test.YtpeeonfpmgddoaaDoorDumpPa
import Derived.Test.YtpeeonfpmgddoaaDoorDumpWk
namespace Go.Bus.dumpK
open Go.Bus.textK
set_option linter.unusedVariables false
theorem line_len {l : Ln} (ho : l.Ok) (h : wrong l = 0) : (lineD l).length ≤ 200 := by
  obtain ⟨hn, -, hd⟩ := right_of h
  have h1 : l.port.length ≤ 64 := by
    unfold nameB at hn
    rw [Bool.and_eq_true] at hn
    exact of_decide_eq_true hn.1
  have h2 := secs_len ho.time
  have h3 := data_len l.data
  have h4 : wid l.wide ≤ 8 := by cases l.wide <;> decide
  unfold lineD
  simp only [List.length_cons, List.length_append, numN_len, h3]
  omega
end Go.Bus.dumpK
namespace Go.Proofs.YtpeeonfpmgddoaaDoor
open Go.RowKit Go.Bus Go.Bus.dumpK Go.Bus.textK
set_option linter.unusedVariables false
set_option linter.unusedSimpArgs false
namespace dumpW
set_option maxRecDepth 100000 in
set_option maxHeartbeats 4000000 in
theorem back_any (l : Ln) (ho : l.Ok) (v : Value) (w : World) (hs : Sl w w.heap.size (Value.int .u8) v l.data) (hpl : l.port.length ≤ 140737488351232) (hT : fmtK.Tab w) (hZ : hexW.Tz w) (hM : Mx w) (hR : laidK.Rng w) : Calls Tryd.prog 4 #[.agg (lnC l v).toArray] w fun e w' => e = .returned (.bool true) ∧ Below w.heap.size w w' := by
  obtain ⟨A, cap, rfl, hcap, hmax⟩ := hs.form
  have HS := Lib.hid hs
  have HWK := Lib.hid (fun (W : World) (hb : Below w.heap.size w W) => works_any W (hT.at_below hb) (hZ.at_below hb))
  have HPR0 := Lib.hid (fun (W : World) (hb : Below w.heap.size w W) => dprint_any l ho _ W (HS.out.at_below hb) hpl (hT.at_below hb) (hZ.at_below hb))
  unfold lnC at HPR0 ⊢
  have HJ0 := Lib.hid (Has.new w 28 #[.int .u64 (l.time : Nat), .string ⟨l.port.toArray⟩, .int .u32 (l.id : Nat), .bool l.wide, .slice A l.data.length cap])
  by_cases hw : wrong l = 0
  · have HPR : Hid (∀ W, Below w.heap.size w W → Calls Tryd.prog 9 #[.agg #[.int .u64 (l.time : Nat), .string ⟨l.port.toArray⟩, .int .u32 (l.id : Nat), .bool l.wide, .slice A l.data.length cap]] W fun e w' => e = .returned (.tuple #[.string ⟨(lineD l).toArray⟩, .nilIface]) ∧ Below W.heap.size W w') := Lib.hid (fun W hb => (HPR0.out W hb).mono (by
      rintro e w' ⟨hb, ⟨-, rfl⟩ | ⟨hw', -⟩⟩
      · exact ⟨rfl, hb⟩
      · exact absurd hw hw'))
    have HPA := Lib.hid (fun (W : World) (hb : Below w.heap.size w W) => dparse_any (lineD l) (by have := line_len ho hw; omega) W (hM.at_below hb) (hR.at_below hb))
    have HTH := Lib.hid (there ho hw)
    obtain ⟨SB, hSB⟩ : ∃ SB : ByteArray, SB = ⟨(lineD l).toArray⟩ := ⟨_, rfl⟩
    rw [← hSB] at HPA HPR
    clear hs hpl hT hZ hM hR ho hw hSB HPR0 hcap hmax
    go_enter Tryd.func4, Tryd.ntmps4
    go_wp2_with (first
      | (go_at_call 12; refine (HWK.out _ (by repeat' (first | (with_reducible assumption) | (with_reducible refine Below.setCell ?_ ?_ _) | (with_reducible refine Below.alloc ?_ ?_ _) | (with_reducible refine Below.drew ?_) | (with_reducible refine below_drewN ?_ _) | (with_reducible exact Below.refl _ _) | (show _ ≤ _; (try simp); (try omega); done) | exact Below.refl _ _ | assumption))).mono ?_; rintro e w1 ⟨rfl, hb⟩; have hj1 := HJ0.out.below hb HJ0.out.lt; have b0w1 : w1.cell? ⟨w.heap.size, 0, none⟩ = some (.int .u64 (l.time : Nat)) := hj1.cell 0; have b1w1 : w1.cell? ⟨w.heap.size, 1, none⟩ = some (.string ⟨l.port.toArray⟩) := hj1.cell 1; have b2w1 : w1.cell? ⟨w.heap.size, 2, none⟩ = some (.int .u32 (l.id : Nat)) := hj1.cell 2; have b3w1 : w1.cell? ⟨w.heap.size, 3, none⟩ = some (.bool l.wide) := hj1.cell 3; have b4w1 : w1.cell? ⟨w.heap.size, 4, none⟩ = some (.slice A l.data.length cap) := hj1.cell 4; have z1 : w.heap.size < w1.heap.size := hj1.lt; have HJ1 := Lib.hid hj1; have HB : Hid (Below w.heap.size w w1) := Lib.hid (Below.trans (by repeat' (first | (with_reducible assumption) | (with_reducible refine Below.setCell ?_ ?_ _) | (with_reducible refine Below.alloc ?_ ?_ _) | (with_reducible refine Below.drew ?_) | (with_reducible refine below_drewN ?_ _) | (with_reducible exact Below.refl _ _) | (show _ ≤ _; (try simp); (try omega); done) | exact Below.refl _ _ | assumption)) (hb.mono (by (try simp); (try omega)))); clear hb hj1)
      | (go_at_call 9; refine (HPR.out _ HB.out).mono ?_; rintro e w2 ⟨rfl, hb⟩; have hj2 := HJ1.out.below hb z1; have b0w2 : w2.cell? ⟨w.heap.size, 0, none⟩ = some (.int .u64 (l.time : Nat)) := hj2.cell 0; have b1w2 : w2.cell? ⟨w.heap.size, 1, none⟩ = some (.string ⟨l.port.toArray⟩) := hj2.cell 1; have b2w2 : w2.cell? ⟨w.heap.size, 2, none⟩ = some (.int .u32 (l.id : Nat)) := hj2.cell 2; have b3w2 : w2.cell? ⟨w.heap.size, 3, none⟩ = some (.bool l.wide) := hj2.cell 3; have b4w2 : w2.cell? ⟨w.heap.size, 4, none⟩ = some (.slice A l.data.length cap) := hj2.cell 4; have z2 : w.heap.size < w2.heap.size := hj2.lt; have HJ2 := Lib.hid hj2; have HB2 : Hid (Below w.heap.size w w2) := Lib.hid (HB.out.trans (hb.mono HB.out.size)); clear hb hj2))
    refine (HPA.out _ HB2.out).mono ?_
    rintro e w3 ⟨hb, hp⟩
    rw [HTH.out] at hp
    obtain ⟨v', rfl, hown⟩ := hp
    have hs3 := Sl.of_own hown
    obtain ⟨A', cap', rfl, -, -⟩ := hs3.form
    have HS3 := Lib.hid hs3
    have hj3 := HJ2.out.below hb z2
    have b0w3 : w3.cell? ⟨w.heap.size, 0, none⟩ = some (.int .u64 (l.time : Nat)) := hj3.cell 0
    have b1w3 : w3.cell? ⟨w.heap.size, 1, none⟩ = some (.string ⟨l.port.toArray⟩) := hj3.cell 1
    have b2w3 : w3.cell? ⟨w.heap.size, 2, none⟩ = some (.int .u32 (l.id : Nat)) := hj3.cell 2
    have b3w3 : w3.cell? ⟨w.heap.size, 3, none⟩ = some (.bool l.wide) := hj3.cell 3
    have b4w3 : w3.cell? ⟨w.heap.size, 4, none⟩ = some (.slice A l.data.length cap) := hj3.cell 4
    have z3 : w.heap.size < w3.heap.size := hj3.lt
    have HB3 : Hid (Below w.heap.size w w3) := Lib.hid (HB2.out.trans (hb.mono HB2.out.size))
    have hz3 : w.heap.size ≤ w3.heap.size := by omega
    have HSL : Hid (∀ W, Below w3.heap.size w3 W → Calls Tryd.prog 14 #[.agg #[.int .u64 (l.time : Nat), .string ⟨l.port.toArray⟩, .int .u32 (l.id : Nat), .bool l.wide, .slice A' l.data.length cap'], .agg #[.int .u64 (l.time : Nat), .string ⟨l.port.toArray⟩, .int .u32 (l.id : Nat), .bool l.wide, .slice A l.data.length cap]] W fun e w' => e = .returned (.bool true) ∧ Below W.heap.size W w') := Lib.hid (fun W hb' => same_line l _ _ W (HS3.out.at_below hb') (HS.out.at_below (HB3.out.trans (hb'.mono hz3))))
    clear hb hs3 hown hj3
    unfold lnC
    go_wp2_with (go_at_call 14; refine (HSL.out _ (by repeat' (first | (with_reducible assumption) | (with_reducible refine Below.setCell ?_ ?_ _) | (with_reducible refine Below.alloc ?_ ?_ _) | (with_reducible refine Below.drew ?_) | (with_reducible refine below_drewN ?_ _) | (with_reducible exact Below.refl _ _) | (show _ ≤ _; (try simp); (try omega); done) | exact Below.refl _ _ | assumption))).mono ?_; rintro e w4 ⟨rfl, hb⟩; have HB4 : Hid (Below w.heap.size w w4) := Lib.hid (Below.trans (by have hB := HB3.out; exact (by repeat' (first | (with_reducible assumption) | (with_reducible refine Below.setCell ?_ ?_ _) | (with_reducible refine Below.alloc ?_ ?_ _) | (with_reducible refine Below.drew ?_) | (with_reducible refine below_drewN ?_ _) | (with_reducible exact Below.refl _ _) | (show _ ≤ _; (try simp); (try omega); done) | exact Below.refl _ _ | assumption))) (hb.mono (by (try simp); (try omega)))); clear hb)
    go_ret
    exact ⟨rfl, HB4.out⟩
  · have HPR : Hid (∀ W, Below w.heap.size w W → Calls Tryd.prog 9 #[.agg #[.int .u64 (l.time : Nat), .string ⟨l.port.toArray⟩, .int .u32 (l.id : Nat), .bool l.wide, .slice A l.data.length cap]] W fun e w' => e = .returned (.tuple #[.string ⟨#[]⟩, .iface 54 (.int .i64 (wrong l))]) ∧ Below W.heap.size W w') := Lib.hid (fun W hb => (HPR0.out W hb).mono (by
      rintro e w' ⟨hb, ⟨hw', -⟩ | ⟨-, rfl⟩⟩
      · exact absurd hw' hw
      · exact ⟨rfl, hb⟩))
    clear hs hpl hT hZ hM hR ho hw HPR0 hcap hmax
    go_enter Tryd.func4, Tryd.ntmps4
    go_wp2_with (first
      | (go_at_call 12; refine (HWK.out _ (by repeat' (first | (with_reducible assumption) | (with_reducible refine Below.setCell ?_ ?_ _) | (with_reducible refine Below.alloc ?_ ?_ _) | (with_reducible refine Below.drew ?_) | (with_reducible refine below_drewN ?_ _) | (with_reducible exact Below.refl _ _) | (show _ ≤ _; (try simp); (try omega); done) | exact Below.refl _ _ | assumption))).mono ?_; rintro e w1 ⟨rfl, hb⟩; have hj1 := HJ0.out.below hb HJ0.out.lt; have b0w1 : w1.cell? ⟨w.heap.size, 0, none⟩ = some (.int .u64 (l.time : Nat)) := hj1.cell 0; have b1w1 : w1.cell? ⟨w.heap.size, 1, none⟩ = some (.string ⟨l.port.toArray⟩) := hj1.cell 1; have b2w1 : w1.cell? ⟨w.heap.size, 2, none⟩ = some (.int .u32 (l.id : Nat)) := hj1.cell 2; have b3w1 : w1.cell? ⟨w.heap.size, 3, none⟩ = some (.bool l.wide) := hj1.cell 3; have b4w1 : w1.cell? ⟨w.heap.size, 4, none⟩ = some (.slice A l.data.length cap) := hj1.cell 4; have z1 : w.heap.size < w1.heap.size := hj1.lt; have HJ1 := Lib.hid hj1; have HB : Hid (Below w.heap.size w w1) := Lib.hid (Below.trans (by repeat' (first | (with_reducible assumption) | (with_reducible refine Below.setCell ?_ ?_ _) | (with_reducible refine Below.alloc ?_ ?_ _) | (with_reducible refine Below.drew ?_) | (with_reducible refine below_drewN ?_ _) | (with_reducible exact Below.refl _ _) | (show _ ≤ _; (try simp); (try omega); done) | exact Below.refl _ _ | assumption)) (hb.mono (by (try simp); (try omega)))); clear hb hj1)
      | (go_at_call 9; refine (HPR.out _ HB.out).mono ?_; rintro e w2 ⟨rfl, hb⟩; have hj2 := HJ1.out.below hb z1; have b0w2 : w2.cell? ⟨w.heap.size, 0, none⟩ = some (.int .u64 (l.time : Nat)) := hj2.cell 0; have b1w2 : w2.cell? ⟨w.heap.size, 1, none⟩ = some (.string ⟨l.port.toArray⟩) := hj2.cell 1; have b2w2 : w2.cell? ⟨w.heap.size, 2, none⟩ = some (.int .u32 (l.id : Nat)) := hj2.cell 2; have b3w2 : w2.cell? ⟨w.heap.size, 3, none⟩ = some (.bool l.wide) := hj2.cell 3; have b4w2 : w2.cell? ⟨w.heap.size, 4, none⟩ = some (.slice A l.data.length cap) := hj2.cell 4; have z2 : w.heap.size < w2.heap.size := hj2.lt; have HJ2 := Lib.hid hj2; have HB2 : Hid (Below w.heap.size w w2) := Lib.hid (HB.out.trans (hb.mono HB.out.size)); clear hb hj2))
    go_ret
    exact ⟨rfl, HB2.out⟩
end dumpW
end Go.Proofs.YtpeeonfpmgddoaaDoor
