/- DumpForm's walk: of any text. Conditions: the library's tables and one of its errors are laid, one variable of the library's holds some int. -/
import Derived.Test.YtpeeonfpmgddoaaDoorDumpPa
import Derived.Test.YtpeeonfpmgddoaaDoorDumpWk
namespace Go.Proofs.YtpeeonfpmgddoaaDoor
open Go.RowKit Go.Bus Go.Bus.dumpK Go.Bus.textK
set_option linter.unusedVariables false
set_option linter.unusedSimpArgs false
namespace dumpW
def ln0 : Ln := ⟨0, [], 0, false, []⟩
set_option maxRecDepth 100000 in
set_option maxHeartbeats 4000000 in
theorem form_any (S : List UInt8) (w : World) (hT : fmtK.Tab w) (hZ : hexW.Tz w) (hM : Mx w) (hR : laidK.Rng w) : Calls Tryd.prog 5 #[.string ⟨S.toArray⟩] w fun e w' => e = .returned (.bool true) ∧ Below w.heap.size w w' := by
  have HWK := Lib.hid (works_any w hT hZ)
  have HT := Lib.hid hT
  have HZ := Lib.hid hZ
  have HM := Lib.hid hM
  have HR := Lib.hid hR
  clear hT hZ hM hR
  by_cases hl : 16777216 < S.length
  · have d1 : decide ((16777216 : Int) < (S.length : Int)) = true := by simp; omega
    have d2 : decide (16777216 < S.length) = true := by simp; omega
    go_enter Tryd.func5, Tryd.ntmps5
    go_wp2_with (go_at_call 12; refine (HWK.out).mono ?_; rintro e w1 ⟨rfl, hb⟩; have HB := Lib.hid hb; clear hb)
    go_ret
    exact ⟨rfl, HB.out⟩
  · have d1 : decide ((16777216 : Int) < (S.length : Int)) = false := by simp; omega
    have d2 : decide (16777216 < S.length) = false := by simp; omega
    have HPA := Lib.hid (fun (W : World) (hb : Below w.heap.size w W) => dparse_any S (by omega) W (HM.out.at_below hb) (HR.out.at_below hb))
    obtain ⟨SB, hSB⟩ : ∃ SB : ByteArray, SB = ⟨S.toArray⟩ := ⟨_, rfl⟩
    have HSB := Lib.hid hSB
    have hsz : SB.size = S.length := by rw [hSB]; show S.toArray.size = S.length; simp
    rw [← hSB] at HPA ⊢
    clear hl hSB
    go_enter Tryd.func5, Tryd.ntmps5
    go_wp2_with (go_at_call 12; refine (HWK.out).mono ?_; rintro e w1 ⟨rfl, hb⟩; have HB := Lib.hid hb; clear hb)
    refine (HPA.out _ HB.out).mono ?_
    rintro e w2 ⟨hb, hp⟩
    have HB2 : Hid (Below w.heap.size w w2) := Lib.hid (HB.out.trans (hb.mono HB.out.size))
    have hz2 : w.heap.size ≤ w2.heap.size := HB2.out.size
    cases hpf : parseF S with
    | error no =>
      rw [hpf] at hp
      unfold zeroL at hp
      subst hp
      have HSL : Hid (∀ W, Calls Tryd.prog 14 #[.agg #[.int .u64 0, .string ⟨#[]⟩, .int .u32 0, .bool false, .slice none 0 0], .agg #[.int .u64 0, .string ⟨#[]⟩, .int .u32 0, .bool false, .slice none 0 0]] W fun e w' => e = .returned (.bool true) ∧ Below W.heap.size W w') := Lib.hid (fun W => same_line ln0 _ _ W (Sl.nil_ _ _ _) (Sl.nil_ _ _ _))
      clear hb hpf HB
      go_wp2_with (go_at_call 14; refine (HSL.out _).mono ?_; rintro e w3 ⟨rfl, hb⟩; have HB3 : Hid (Below w.heap.size w w3) := Lib.hid (Below.trans (by have hB := HB2.out; exact (by repeat' (first | (with_reducible assumption) | (with_reducible refine Below.setCell ?_ ?_ _) | (with_reducible refine Below.alloc ?_ ?_ _) | (with_reducible refine Below.drew ?_) | (with_reducible refine below_drewN ?_ _) | (with_reducible exact Below.refl _ _) | (show _ ≤ _; (try simp); (try omega); done) | exact Below.refl _ _ | assumption))) (hb.mono (by (try simp); (try omega)))); clear hb)
      go_ret
      exact ⟨rfl, HB3.out⟩
    | ok l =>
      rw [hpf] at hp
      obtain ⟨v, rfl, hown⟩ := hp
      obtain ⟨h1, h2, h3⟩ := back hpf
      have hs := Sl.of_own hown
      obtain ⟨A, cap, rfl, hcap, hmax⟩ := hs.form
      have HS := Lib.hid hs
      have HO := Lib.hid h3
      have hpl : l.port.length ≤ 140737488351232 := by
        obtain ⟨hn, _, _⟩ := right_of h2
        unfold nameB at hn
        rw [Bool.and_eq_true] at hn
        have := of_decide_eq_true hn.1
        omega
      have HPR : Hid (∀ W, Below w2.heap.size w2 W → Calls Tryd.prog 9 #[.agg #[.int .u64 (l.time : Nat), .string ⟨l.port.toArray⟩, .int .u32 (l.id : Nat), .bool l.wide, .slice A l.data.length cap]] W fun e w' => e = .returned (.tuple #[.string SB, .nilIface]) ∧ Below W.heap.size W w') := Lib.hid (fun W hb' => (dprint_any l HO.out _ W (HS.out.at_below hb') hpl (HT.out.at_below (HB2.out.trans (hb'.mono HB2.out.size))) (HZ.out.at_below (HB2.out.trans (hb'.mono HB2.out.size)))).mono (by
        rintro e w' ⟨hb, ⟨-, rfl⟩ | ⟨hw, -⟩⟩
        · exact ⟨by rw [h1, HSB.out], hb⟩
        · exact absurd h2 hw))
      have hee : (SB.toList == SB.toList) = true := by simp
      clear hb hpf HB hown hs h1 h2 h3 hcap hmax hpl
      unfold lnC
      go_wp2_with (go_at_call 9; refine (HPR.out _ (by repeat' (first | (with_reducible assumption) | (with_reducible refine Below.setCell ?_ ?_ _) | (with_reducible refine Below.alloc ?_ ?_ _) | (with_reducible refine Below.drew ?_) | (with_reducible refine below_drewN ?_ _) | (with_reducible exact Below.refl _ _) | (show _ ≤ _; (try simp); (try omega); done) | exact Below.refl _ _ | assumption))).mono ?_; rintro e w3 ⟨rfl, hb⟩; have HB3 : Hid (Below w.heap.size w w3) := Lib.hid (Below.trans (by have hB := HB2.out; exact (by repeat' (first | (with_reducible assumption) | (with_reducible refine Below.setCell ?_ ?_ _) | (with_reducible refine Below.alloc ?_ ?_ _) | (with_reducible refine Below.drew ?_) | (with_reducible refine below_drewN ?_ _) | (with_reducible exact Below.refl _ _) | (show _ ≤ _; (try simp); (try omega); done) | exact Below.refl _ _ | assumption))) (hb.mono (by (try simp); (try omega)))); clear hb)
      go_ret
      exact ⟨rfl, HB3.out⟩
end dumpW
end Go.Proofs.YtpeeonfpmgddoaaDoor
