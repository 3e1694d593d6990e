/- CodeOnly's walk. No condition. -/
import Derived.Test.YtdjippdcgfcfgaaDoorCodeWk
namespace Go.Proofs.YtdjippdcgfcfgaaDoor
open Go.RowKit Go.Bus Go.Bus.cellK Go.Bus.codeK
set_option linter.unusedVariables false
set_option linter.unusedSimpArgs false
namespace codeW
set_option maxRecDepth 100000 in
set_option maxHeartbeats 1000000 in
theorem only_any {v : Value} {bs : List Int} (w : World) (h : Sl w w.heap.size byteV v bs) (hb : ∀ c ∈ bs, Byte c) : Calls Tryd.prog 4 #[v] w fun e w' => e = .returned (.bool true) ∧ Below w.heap.size w w' := by
  have HD := Lib.hid (decode_any w h hb)
  have HS := Lib.hid h
  cases hd : decGo bs.length bs [] with
  | error ek =>
    obtain ⟨no, k⟩ := ek
    have HDD : Hid (Calls Tryd.prog 8 #[v] w fun e w' => e = .returned (.tuple #[.slice none 0 0, faultV no k]) ∧ Below w.heap.size w w') := Lib.hid (HD.out.mono fun e w' h => by unfold DecPost at h; rw [hd] at h; exact h)
    clear hd HD h hb
    go_enter Tryd.func4, Tryd.ntmps4
    go_wp2_with (first
      | (go_at_call 8; refine HDD.out.mono ?_; unfold faultV; rintro e w1 ⟨rfl, hB⟩; have HB := Lib.hid hB; clear hB)
      | (go_at_call 6; refine (works_any _).mono ?_; rintro e w2 ⟨rfl, hB2⟩; have HB2 := Lib.hid hB2; clear hB2))
    go_ret
    exact ⟨rfl, HB.out.trans (HB2.out.mono HB.out.size)⟩
  | ok p =>
    obtain ⟨p', hp1, hp2, hp3, hp4⟩ := dec_only bs.length bs.length bs [] p (Nat.le_refl _) hb (by simp) hd
    rw [List.nil_append] at hp1
    subst hp1
    have hok := dec_ok bs.length bs.length bs [] p (Nat.le_refl _) hb (by simp) hd
    have HDD : Hid (Calls Tryd.prog 8 #[v] w fun e w' => ∃ u, e = .returned (.tuple #[u, .nilIface]) ∧ w'.ownsRow w.heap.size 31 5 u p.length (p.flatMap insC) ∧ Below w.heap.size w w') := Lib.hid (HD.out.mono fun e w' h => by unfold DecPost at h; rw [hd] at h; exact h)
    have HP2 := Lib.hid hp2
    have HP3 := Lib.hid hp3
    have HP4 := Lib.hid hp4
    have HOK := Lib.hid hok
    clear hd HD h hb hp2 hp3 hp4 hok
    go_enter Tryd.func4, Tryd.ntmps4
    go_wp2_with (first
      | (go_at_call 8; refine HDD.out.mono ?_; rintro e w1 ⟨u, rfl, ho, hB⟩; have HI := Lib.hid (ins_of_own ho); have HB := Lib.hid hB; clear ho hB)
      | (go_at_call 5; refine (encode_any _ HI.out HOK.out HP4.out).mono ?_; intro e w2 h; obtain ⟨u2, rfl, ho2, hB2⟩ := h.yes (bad_none HP3.out); rw [← HP2.out] at ho2; have HO2 := Lib.hid ho2; have HB2 := Lib.hid hB2; clear h ho2 hB2)
      | (go_at_call 6; refine (works_any _).mono ?_; rintro e w3 ⟨rfl, hB3⟩; have HB3 := Lib.hid hB3; clear hB3)
      | (go_at_call 7; refine (samebytes_any (l := bs) (m := bs) _ (((Sl.of_own HO2.out).below HB3.out).more HB3.out.size) ((HS.out.below (HB.out.trans ((HB2.out.mono HB.out.size).trans (HB3.out.mono (Nat.le_trans HB.out.size HB2.out.size))))).more (Nat.le_trans HB.out.size (Nat.le_trans HB2.out.size HB3.out.size)))).mono ?_; rw [decide_eq_true rfl]; rintro e w4 ⟨rfl, hB4⟩; have HB4 := Lib.hid hB4; clear hB4))
    go_ret
    exact ⟨rfl, HB.out.trans ((HB2.out.mono HB.out.size).trans ((HB3.out.mono (Nat.le_trans HB.out.size HB2.out.size)).trans (HB4.out.mono (Nat.le_trans HB.out.size (Nat.le_trans HB2.out.size HB3.out.size)))))⟩
end codeW
end Go.Proofs.YtdjippdcgfcfgaaDoor
