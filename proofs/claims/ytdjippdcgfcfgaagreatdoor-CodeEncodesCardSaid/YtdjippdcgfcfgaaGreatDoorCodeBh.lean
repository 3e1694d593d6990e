/- CodeBehind: pieces. No condition. -/
import Derived.Test.YtdjippdcgfcfgaaGreatDoorCodeWk
namespace Go.Proofs.YtdjippdcgfcfgaaGreatDoor
open Go.RowKit Go.Bus Go.Bus.cellK Go.Bus.codeK
set_option linter.unusedVariables false
set_option linter.unusedSimpArgs false
namespace codeW
set_option maxRecDepth 100000 in
set_option maxHeartbeats 1000000 in
theorem encode_many {p : List Ins} {v : Value} (w : World) (h : SlK 5 insE w (Old w.heap.size) v p) (hl : 16384 < p.length) : Calls Tryz.prog 6 #[v] w fun e w' => e = .returned (.tuple #[.slice none 0 0, .iface 54 (.int .i64 5)]) ∧ Below w.heap.size w w' := by
  obtain ⟨A, cap, rfl, hcap, hmax⟩ := h.form
  clear h
  unfold maxLen at hmax
  have d1 : decide (16384 < (p.length : Int)) = true := by simp; omega
  go_enter Tryz.func6, Tryz.ntmps6
  go_wp2
  go_ret2
  exact ⟨rfl, Below.refl _ _⟩
/-- What Encode comes to, of any program, where it is no bytes. -/
inductive Bad : Value → Prop
  | many : Bad (.iface 54 (.int .i64 5))
  | op (i : Nat) : Bad (faultV 20 i)
def good (p : List Ins) : Prop := p.length ≤ 16384 ∧ ∀ x ∈ p, rightB x = true
theorem firstBad_none {p : List Ins} (h : firstBad p = none) : ∀ x ∈ p, rightB x = true := by
  unfold firstBad at h
  rw [List.findIdx?_eq_none_iff] at h
  intro x hx
  have := h x hx
  simpa using this
theorem encode_bad {p : List Ins} {v : Value} (w : World) (h : SlK 5 insE w (Old w.heap.size) v p) (hp : ∀ x ∈ p, x.Ok) (hg : ¬ good p) : Calls Tryz.prog 6 #[v] w fun e w' => ∃ ev, e = .returned (.tuple #[.slice none 0 0, ev]) ∧ Bad ev ∧ Below w.heap.size w w' := by
  by_cases hl : p.length ≤ 16384
  · refine (encode_any w h hp hl).mono fun e w' he => ?_
    unfold EncPost at he
    cases hb : firstBad p with
    | none => exact absurd ⟨hl, firstBad_none hb⟩ hg
    | some i => rw [hb] at he; exact ⟨_, he.1, .op i, he.2⟩
  · refine (encode_many w h (by omega)).mono fun e w' he => ?_
    exact ⟨_, he.1, .many, he.2⟩
theorem encode_good {p : List Ins} {v : Value} (w : World) (h : SlK 5 insE w (Old w.heap.size) v p) (hp : ∀ x ∈ p, x.Ok) (hg : good p) : Calls Tryz.prog 6 #[v] w fun e w' => ∃ A c, e = .returned (.tuple #[.slice A (encP p).length c, .nilIface]) ∧ w'.ownsRow w.heap.size 5 1 (.slice A (encP p).length c) (encP p).length ((encP p).map byteV) ∧ Below w.heap.size w w' := by
  refine (encode_any w h hp hg.1).mono fun e w' he => ?_
  obtain ⟨u, rfl, ho, hB⟩ := he.yes (bad_none hg.2)
  obtain ⟨A, c, rfl⟩ := own_slice ho
  exact ⟨A, c, rfl, ho, hB⟩
end codeW
end Go.Proofs.YtdjippdcgfcfgaaGreatDoor
