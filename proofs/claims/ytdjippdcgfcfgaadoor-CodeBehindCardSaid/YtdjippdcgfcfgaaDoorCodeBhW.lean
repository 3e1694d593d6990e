/- CodeBehind's walk. Condition: no more instructions than the form's reach. -/
import Derived.Test.YtdjippdcgfcfgaaDoorCodeBh
namespace Go.Proofs.YtdjippdcgfcfgaaDoor
open Go.RowKit Go.Bus Go.Bus.cellK Go.Bus.codeK
set_option linter.unusedVariables false
set_option linter.unusedSimpArgs false
namespace codeW
theorem encode_some {p : List Ins} {v : Value} (w : World) (h : SlK 5 insE w (Old w.heap.size) v p) (hp : ∀ x ∈ p, x.Ok) : Calls Tryd.prog 5 #[v] w fun e w' => ∃ u ev, e = .returned (.tuple #[u, ev]) ∧ Below w.heap.size w w' := by
  by_cases hg : good p
  · exact (encode_good w h hp hg).mono fun e w' ⟨A, c, he, _, hb⟩ => ⟨_, _, he, hb⟩
  · exact (encode_bad w h hp hg).mono fun e w' ⟨ev, he, _, hb⟩ => ⟨_, _, he, hb⟩
set_option maxRecDepth 100000 in
set_option maxHeartbeats 1000000 in
theorem behind_p {p q : List Ins} {v u : Value} (w : World) (h : SlK 5 insE w (Old w.heap.size) v p) (h' : SlK 5 insE w (Old w.heap.size) u q) (hp : ∀ x ∈ p, x.Ok) (hq : ∀ x ∈ q, x.Ok) (hg : ¬ good p) : Calls Tryd.prog 3 #[v, u] w fun e w' => e = .returned (.bool true) ∧ Below w.heap.size w w' := by
  have HE := Lib.hid (encode_bad w h hp hg)
  have HQ := Lib.hid h'
  have HQO := Lib.hid hq
  clear h h' hp hq hg
  go_enter Tryd.func3, Tryd.ntmps3
  go_wp2_with fail
  refine HE.out.mono ?_
  rintro e w1 ⟨ev, rfl, hbad, hB⟩
  have HB := Lib.hid hB
  have HQ1 := Lib.hid (HQ.out.later insE_mono hB)
  clear hB
  cases hbad
  all_goals
    (try unfold faultV)
    go_wp2_with (first
      | (go_at_call 5; refine (encode_some _ HQ1.out HQO.out).mono ?_; rintro e w2 ⟨u2, ev2, rfl, hB2⟩; have HB2 := Lib.hid hB2; clear hB2)
      | (go_at_call 6; refine (works_any _).mono ?_; rintro e w3 ⟨rfl, hB3⟩; have HB3 := Lib.hid hB3; clear hB3))
    go_ret
    exact ⟨rfl, HB.out.trans ((HB2.out.mono HB.out.size).trans (HB3.out.mono (Nat.le_trans HB.out.size HB2.out.size)))⟩
set_option maxRecDepth 100000 in
set_option maxHeartbeats 1000000 in
theorem behind_q {p q : List Ins} {v u : Value} (w : World) (h : SlK 5 insE w (Old w.heap.size) v p) (h' : SlK 5 insE w (Old w.heap.size) u q) (hp : ∀ x ∈ p, x.Ok) (hq : ∀ x ∈ q, x.Ok) (hg : good p) (hg' : ¬ good q) : Calls Tryd.prog 3 #[v, u] w fun e w' => e = .returned (.bool true) ∧ Below w.heap.size w w' := by
  have HE := Lib.hid (encode_good w h hp hg)
  have HQ := Lib.hid h'
  have HQO := Lib.hid hq
  have HG := Lib.hid hg'
  clear h h' hp hq hg hg'
  go_enter Tryd.func3, Tryd.ntmps3
  go_wp2_with fail
  refine HE.out.mono ?_
  rintro e w1 ⟨A1, c1, rfl, _, hB⟩
  have HB := Lib.hid hB
  have HQ1 := Lib.hid (HQ.out.later insE_mono hB)
  clear hB
  go_wp2_with fail
  refine (encode_bad _ HQ1.out HQO.out HG.out).mono ?_
  rintro e w2 ⟨ev, rfl, hbad, hB2⟩
  have HB2 := Lib.hid hB2
  clear hB2
  cases hbad
  all_goals
    (try unfold faultV)
    go_wp2_with (go_at_call 6; refine (works_any _).mono ?_; rintro e w3 ⟨rfl, hB3⟩; have HB3 := Lib.hid hB3; clear hB3)
    go_ret
    exact ⟨rfl, HB.out.trans ((HB2.out.mono HB.out.size).trans (HB3.out.mono (Nat.le_trans HB.out.size HB2.out.size)))⟩
end codeW
end Go.Proofs.YtdjippdcgfcfgaaDoor
