/- busbarlaw22.works: true. -/
import Derived.Test.YthjjockimpndbaaDoorZWire
namespace Go.Proofs.YthjjockimpndbaaDoor
open Go.RowKit Go.Bus Go.Bus.bitK Go.Bus.stuffK
set_option linter.unusedVariables false
namespace worksW
theorem none_set : bitsF 0 false [] = List.replicate 34 false := by decide +kernel
theorem wire_len : (wireW.wireF (List.replicate 34 false)).length = 50 := by decide +kernel

set_option maxRecDepth 100000 in
set_option maxHeartbeats 1000000 in
theorem works_yes (w : World) : Calls Tryd.prog 65 #[] w fun e w' => e = .returned (.bool true) ∧ Below w.heap.size w w' := by
  go_enter Tryd.func65, Tryd.ntmps65
  go_wp2_with fail
  refine (bitsW.bits_ok 0 false _ [] _ (Sl.nil_ _ _ _) (by omega) (by omega) (by intro _; omega) (by simp) (by intro x hx; cases hx)).mono ?_
  rintro e w1 ⟨v1, rfl, hown1, hb_w1⟩
  rw [none_set] at hown1
  have hs1 := Sl.of_own hown1
  obtain ⟨A1, c1, rfl, hc1, hm1⟩ := hs1.form
  have HS1 := Lib.hid hs1; clear hs1 hown1
  obtain ⟨hc_w1, hf_w1⟩ := bcell hb_w1; have hz_w1 := hb_w1.size; (try simp at hz_w1); have hB_w1 : Below w.heap.size w w1 := Below.trans (by repeat (first | exact Below.refl _ _ | assumption | refine Below.drew ?_ | refine below_drewN ?_ _ | (refine Below.alloc ?_ (by (try simp); (try omega)) _) | (refine Below.setCell ?_ (by (try simp); (try omega)) _))) (hb_w1.mono (by (try simp); (try omega)))
  go_wp2_with fail
  refine (wireW.encode_ok 0 false _ [] _ (Sl.nil_ _ _ _) (by omega) (by omega) (by intro _; omega) (by simp) (by intro x hx; cases hx)).mono ?_
  rintro e w2 ⟨v2, rfl, hown2, hb_w2⟩
  rw [none_set] at hown2
  have hl2 := wire_len
  have hs2 := Sl.of_own hown2
  obtain ⟨A2, c2, rfl, hc2, hm2⟩ := hs2.form
  rw [hl2]
  have HS2 : Hid (Sl w2 w2.heap.size Value.bool (.slice A1 (List.replicate 34 false).length c1) (List.replicate 34 false)) := HS1.out.at_below (Below.trans (b := _) (by repeat (first | exact Below.refl _ _ | assumption | refine Below.drew ?_ | refine below_drewN ?_ _ | (refine Below.alloc ?_ (by (try simp); (try omega)) _) | (refine Below.setCell ?_ (by (try simp); (try omega)) _))) (hb_w2.mono (by (try simp); (try omega))))
  have hB2 : Below w.heap.size w w2 := Below.trans hB_w1 (Below.trans (b := _) (by repeat (first | exact Below.refl _ _ | assumption | refine Below.drew ?_ | refine below_drewN ?_ _ | (refine Below.alloc ?_ (by (try simp); (try omega)) _) | (refine Below.setCell ?_ (by (try simp); (try omega)) _))) (hb_w2.mono (by (try simp); (try omega))))
  clear hs2 hown2 HS1 hl2 hc2 hm2
  go_wp2
  go_loopw [5] (fun i wr => ∃ k : Nat, k ≤ 34 ∧ i = .int .i64 k ∧ wr = w2) (fun i _ => 34 - (intOf i).toNat)
  case atStart => exact ⟨0, Nat.zero_le _, rfl, rfl⟩
  case round =>
    obtain ⟨k, hk, rfl, rfl⟩ := hrel
    by_cases hlt : k < 34
    · obtain ⟨b, off, rfl, hb, hc⟩ := HS2.out.at_ (show k < (List.replicate 34 false).length by simpa using hlt)
      rw [List.getElem_replicate] at hc
      go_wp2
      go_roundw
      case rel => exact ⟨k + 1, by omega, by go_num, by first | rfl | trivial⟩
      case measure => first | (simp [intOf]; done) | (simp [intOf]; omega)
    · obtain rfl : k = 34 := by omega
      go_wp2
      go_ret
      exact ⟨rfl, hB2⟩
end worksW
end Go.Proofs.YthjjockimpndbaaDoor
