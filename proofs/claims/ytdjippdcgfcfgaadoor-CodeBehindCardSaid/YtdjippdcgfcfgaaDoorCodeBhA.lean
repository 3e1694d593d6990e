/- CodeBehind: of any two programs. No condition. -/
import Derived.Test.YtdjippdcgfcfgaaDoorCodeBhM
namespace Go.Proofs.YtdjippdcgfcfgaaDoor
open Go.RowKit Go.Bus Go.Bus.cellK Go.Bus.codeK
set_option linter.unusedVariables false
set_option linter.unusedSimpArgs false
namespace codeW
set_option maxRecDepth 100000 in
set_option maxHeartbeats 1000000 in
theorem behind_sum {p q : List Ins} {v u : Value} (w : World) (h : SlK 5 insE w (Old w.heap.size) v p) (h' : SlK 5 insE w (Old w.heap.size) u q) (hp : ∀ x ∈ p, x.Ok) (hq : ∀ x ∈ q, x.Ok) (hg : good p) (hg' : good q) (hs : 16384 < p.length + q.length) : Calls Tryd.prog 3 #[v, u] w fun e w' => e = .returned (.bool true) ∧ Below w.heap.size w w' := by
  obtain ⟨A, cap, rfl, _, _⟩ := h.form
  obtain ⟨A', cap', rfl, _, _⟩ := h'.form
  have HE := Lib.hid (encode_good w h hp hg)
  have HQ := Lib.hid h'
  have HQO := Lib.hid hq
  have HG' := Lib.hid hg'
  have z1 : p.length ≤ 16384 := hg.1
  have z2 : q.length ≤ 16384 := hg'.1
  have ds : decide (16384 < (p.length : Int) + (q.length : Int)) = true := by simp; omega
  clear h h' hp hq hg hg'
  go_enter Tryd.func3, Tryd.ntmps3
  go_wp2_with fail
  refine HE.out.mono ?_
  rintro e w1 ⟨A1, c1, rfl, ho1, hB⟩
  have HB := Lib.hid hB
  have HQ1 := Lib.hid (HQ.out.later insE_mono hB)
  clear hB ho1
  go_wp2_with fail
  refine (encode_good _ HQ1.out HQO.out HG'.out).mono ?_
  rintro e w2 ⟨A2, c2, rfl, ho2, hB2⟩
  have HB2 := Lib.hid (HB.out.trans (hB2.mono HB.out.size))
  clear hB2 ho2
  go_wp2_with fail
  refine (works_any _).mono ?_
  rintro e w3 ⟨rfl, hB3⟩
  have HB3 := Lib.hid (HB2.out.trans (hB3.mono HB2.out.size))
  clear hB3
  go_wp2
  go_ret
  exact ⟨rfl, HB3.out⟩
theorem behind_any {p q : List Ins} {v u : Value} (w : World) (h : SlK 5 insE w (Old w.heap.size) v p) (h' : SlK 5 insE w (Old w.heap.size) u q) (hp : ∀ x ∈ p, x.Ok) (hq : ∀ x ∈ q, x.Ok) : Calls Tryd.prog 3 #[v, u] w fun e w' => e = .returned (.bool true) ∧ Below w.heap.size w w' := by
  by_cases hg : good p
  · by_cases hg' : good q
    · rcases Nat.lt_or_ge 16384 (p.length + q.length) with hs | hs
      · exact behind_sum w h h' hp hq hg hg' hs
      · exact behind_main w h h' hp hq hg hg' hs
    · exact behind_q w h h' hp hq hg hg'
  · exact behind_p w h h' hp hq hg
end codeW
end Go.Proofs.YtdjippdcgfcfgaaDoor
