/- Proves FrameOnlySaid: what is decoded is just what its frame is encoded as. No condition. -/
import Derived.Test.YthjjockimpndbaaDoorRows
import Derived.Test.YthjjockimpndbaaDoorZKit
import Derived.Test.YthjjockimpndbaaDoorZWorks
import Derived.Test.YthjjockimpndbaaDoorZDecode
namespace Go.Proofs.YthjjockimpndbaaDoor.frameOnly
open Go.RowKit Go.Bus Go.Bus.bitK Go.Bus.crcLaw Go.Bus.decK Go.Bus.stuffK Go.ChangeShapes Go.WideShapes Go.ChangeAt Go.Joins
set_option linter.unusedVariables false

theorem err_form (x : Err) : ∃ T v, decW.errV x = .iface T v := by
  obtain ⟨k, n⟩ := x
  cases n with
  | none => exact ⟨_, _, rfl⟩
  | some n => exact ⟨_, _, rfl⟩

set_option maxRecDepth 100000 in
set_option maxHeartbeats 1000000 in
theorem walk (v : Value) (l : List Bool) (w : World) (h : Sl w w.heap.size Value.bool v l) (hlen : l.length ≤ 140737488351232) :
    Calls Tryd.prog 69 #[v] w fun e w' => e = .returned (.bool true) ∧ Below w.heap.size w w' := by
  obtain ⟨A, cap, rfl, hcap, hmax⟩ := h.form
  have HL := Lib.hid h; clear h
  cases hr : allF l with
  | error x =>
    have HR := Lib.hid hr; clear hr
    obtain ⟨T, y, hx⟩ := err_form x
    have HX := Lib.hid hx; clear hx
    go_enter Tryd.func69, Tryd.ntmps69
    go_wp2_with fail
    refine (decW.dec_any _ l _ HL.out hlen).mono ?_
    intro e w1 hD
    rw [HR.out] at hD
    obtain ⟨he, hb_w1⟩ := hD
    rw [HX.out] at he
    unfold decW.noFrame at he
    subst he
    obtain ⟨hc_w1, hf_w1⟩ := bcell hb_w1; have hz_w1 := hb_w1.size; (try simp at hz_w1); have hB_w1 : Below w.heap.size w w1 := Below.trans (by repeat (first | exact Below.refl _ _ | assumption | refine Below.drew ?_ | refine below_drewN ?_ _ | (refine Below.alloc ?_ (by (try simp); (try omega)) _) | (refine Below.setCell ?_ (by (try simp); (try omega)) _))) (hb_w1.mono (by (try simp); (try omega)))
    go_wp2_with fail
    refine (worksW.works_yes _).mono ?_
    rintro e w2 ⟨rfl, hb_w2⟩
    obtain ⟨hc_w2, hf_w2⟩ := bcell hb_w2; have hz_w2 := hb_w2.size; (try simp at hz_w2); have hB_w2 : Below w.heap.size w w2 := Below.trans (by repeat (first | exact Below.refl _ _ | assumption | refine Below.drew ?_ | refine below_drewN ?_ _ | (refine Below.alloc ?_ (by (try simp); (try omega)) _) | (refine Below.setCell ?_ (by (try simp); (try omega)) _))) (hb_w2.mono (by (try simp); (try omega))); have z_w2_0 : w1.heap.size < w2.heap.size := (by omega)
    go_wp2_with fail
    refine (worksW.works_yes _).mono ?_
    rintro e w3 ⟨rfl, hb_w3⟩
    obtain ⟨hc_w3, hf_w3⟩ := bcell hb_w3; have hz_w3 := hb_w3.size; (try simp at hz_w3); have hB_w3 : Below w.heap.size w w3 := Below.trans (by repeat (first | exact Below.refl _ _ | assumption | refine Below.drew ?_ | refine below_drewN ?_ _ | (refine Below.alloc ?_ (by (try simp); (try omega)) _) | (refine Below.setCell ?_ (by (try simp); (try omega)) _))) (hb_w3.mono (by (try simp); (try omega))); have z_w3_0 : w1.heap.size < w3.heap.size := (by omega)
    go_wp2
    go_ret
    exact ⟨rfl, hB_w3⟩
  | ok f =>
    obtain ⟨i, W, ys⟩ := f
    obtain ⟨a1, a2, a3, a4, a5⟩ := all_only hr
    have HR := Lib.hid hr; clear hr
    have A5 := Lib.hid a5; clear a5
    have A2 := Lib.hid a2; clear a2
    have a6 : i ≤ 536870911 := by split at a4 <;> omega
    have A7 : Hid (W = false → i ≤ 2047) := by intro e; rw [e] at a4; simp at a4; omega
    clear a4
    go_enter Tryd.func69, Tryd.ntmps69
    go_wp2_with fail
    refine (decW.dec_any _ l _ HL.out hlen).mono ?_
    intro e w1 hD
    rw [HR.out] at hD
    obtain ⟨v1, rfl, hown1, hb_w1⟩ := hD
    have hs1 := Sl.of_own hown1
    obtain ⟨C1, c1, rfl, hc1, hm1⟩ := hs1.form
    have S1 := Lib.hid hs1; clear hs1 hown1
    obtain ⟨hc_w1, hf_w1⟩ := bcell hb_w1; have hz_w1 := hb_w1.size; (try simp at hz_w1); have hB_w1 : Below w.heap.size w w1 := Below.trans (by repeat (first | exact Below.refl _ _ | assumption | refine Below.drew ?_ | refine below_drewN ?_ _ | (refine Below.alloc ?_ (by (try simp); (try omega)) _) | (refine Below.setCell ?_ (by (try simp); (try omega)) _))) (hb_w1.mono (by (try simp); (try omega)))
    go_wp2_with fail
    refine (worksW.works_yes _).mono ?_
    rintro e w2 ⟨rfl, hb_w2⟩
    have hb12 : Below w1.heap.size w1 w2 := Below.trans (b := _) (by repeat (first | exact Below.refl _ _ | assumption | refine Below.drew ?_ | refine below_drewN ?_ _ | (refine Below.alloc ?_ (by (try simp); (try omega)) _) | (refine Below.setCell ?_ (by (try simp); (try omega)) _))) (hb_w2.mono (by (try simp); (try omega)))
    have S2 : Hid (Sl w2 w2.heap.size (Value.int .u8) (.slice C1 ys.length c1) ys) := S1.out.at_below hb12
    clear S1 hb12
    obtain ⟨hc_w2, hf_w2⟩ := bcell hb_w2; have hz_w2 := hb_w2.size; (try simp at hz_w2); have hB_w2 : Below w.heap.size w w2 := Below.trans (by repeat (first | exact Below.refl _ _ | assumption | refine Below.drew ?_ | refine below_drewN ?_ _ | (refine Below.alloc ?_ (by (try simp); (try omega)) _) | (refine Below.setCell ?_ (by (try simp); (try omega)) _))) (hb_w2.mono (by (try simp); (try omega))); have z_w2_0 : w1.heap.size < w2.heap.size := (by omega)
    go_wp2_with fail
    refine (wireW.encode_ok i W _ ys _ (S2.out.at_below (by repeat (first | exact Below.refl _ _ | assumption | refine Below.drew ?_ | refine below_drewN ?_ _ | (refine Below.alloc ?_ (by (try simp); (try omega)) _) | (refine Below.setCell ?_ (by (try simp); (try omega)) _)))) a3 a6 A7.out a1 A2.out).mono ?_
    rintro e w3 ⟨v3, rfl, hown3, hb_w3⟩
    have hs3 := Sl.of_own hown3
    obtain ⟨C3, c3, rfl, hc3, hm3⟩ := hs3.form
    have S3 := Lib.hid hs3; clear hs3 hown3
    obtain ⟨hc_w3, hf_w3⟩ := bcell hb_w3; have hz_w3 := hb_w3.size; (try simp at hz_w3); have hB_w3 : Below w.heap.size w w3 := Below.trans (by repeat (first | exact Below.refl _ _ | assumption | refine Below.drew ?_ | refine below_drewN ?_ _ | (refine Below.alloc ?_ (by (try simp); (try omega)) _) | (refine Below.setCell ?_ (by (try simp); (try omega)) _))) (hb_w3.mono (by (try simp); (try omega))); have z_w3_0 : w1.heap.size < w3.heap.size := (by omega)
    have S4 := Lib.hid (HL.out.at_below hB_w3)
    have HB := Lib.hid hB_w3
    go_wp2_with fail
    refine (sameW.bools_any _ _ (wireW.wireF (bitsF i W ys)) l _ w3.heap.size S3.out S4.out).mono ?_
    rintro e w4 ⟨rfl, n, rfl⟩
    rw [decide_eq_true (show wireW.wireF (bitsF i W ys) = l from A5.out)]
    go_wp2
    go_ret
    exact ⟨rfl, below_drewN HB.out _⟩


end Go.Proofs.YthjjockimpndbaaDoor.frameOnly
