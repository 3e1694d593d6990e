/- A step of a still region by way of the plain walk. No condition. -/
import Derived.StillTailTactics
import Derived.BigFrame
namespace Go.Bus
/-- operations that yield a value and call nothing -/
def plainOp : Op → Bool
  | .move _ | .assign _ | .alloc _ | .box _ _ | .build _ _ | .buildSlice _ _ _ | .load _ _ | .binOp _ _ _ _ _ | .unOp _ _ _ | .convert _ _ _ | .slice _ _ _ _ _ | .fieldAddr _ _ _ | .field _ _ _ | .indexAddr _ _ _ | .index _ _ _ | .extract _ _ => true
  | _ => false
theorem exec_plain {o : Oper} (h : plainOp o.op = true) (ρ : Operand → Value) : ∃ s : Sem Value, execOp ρ o = (do let v ← s; pure (.value v)) := by
  obtain ⟨d, op, t, p, af, g⟩ := o
  cases op
  case move x => exact ⟨pure (ρ x), by simp [execOp]⟩
  case assign x => exact ⟨pure (ρ x), by simp [execOp]⟩
  all_goals first | exact ⟨_, rfl⟩ | (simp [plainOp] at h)
theorem still_go {P : Program} {ops : Array Oper} {Q : Act → Prop} {w : World} {a : Act} {o : Oper} {rest : List Oper} (hg : o.guard = none) (hp : plainOp o.op = true)
    (h : ∀ K : Act → World → Prop, (∀ a' w', w' = w → wpStill P ops w Q rest a' → K a' w') → o.wp P a w K (fun _ _ _ => False)) : wpStill P ops w Q (o :: rest) a := by
  obtain ⟨s, hs⟩ := exec_plain hp a.eval
  have hw : Region.wanted o (yielded ops a.tmps) = true := by unfold Region.wanted; rw [hg]
  unfold wpStill
  rw [if_pos hw]
  have h1 := h (fun a' w' => w' = w ∧ wpStill P ops w Q rest a') (fun a' w' e hr => ⟨e, hr⟩)
  unfold Oper.wp at h1
  unfold Oper.still
  have e : (do let v ← s; pure (Next.value v) : Sem Next).run P w = (s.run P w).andThen (fun v w' => .ok (.value v) w') := by
    simp [go_sem]
  rw [hs, e] at h1 ⊢
  generalize s.run P w = r at h1 ⊢
  cases r with
  | ok v w' => exact h1
  | halt x w' => cases x <;> exact False.elim h1
end Go.Bus
