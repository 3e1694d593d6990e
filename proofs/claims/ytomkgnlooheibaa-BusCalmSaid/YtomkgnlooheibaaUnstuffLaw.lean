/- Taking the stuffed bits out again: as a function; it answers a row just where the row was stuffed. Plain. -/
import Derived.Test.YtomkgnlooheibaaStuffLaw
namespace Go.Bus.stuffK
set_option linter.unusedVariables false
/-- What stuffing puts out from a state on. -/
def emit : Bool × Nat → List Bool → List Bool
  | _, [] => []
  | s, b :: l => if (seeN s b).2 = 5 then b :: (!b) :: emit (!b, 1) l else b :: emit (seeN s b) l
/-- Unstuffing from a state on, `at_` bits read: the row, or which fault (0: short, 1: ill stuffed) and where. -/
def unF : Bool × Nat → Nat → List Bool → Except (Nat × Nat) (List Bool)
  | _, _, [] => .ok []
  | s, n, [b] => if (seeN s b).2 = 5 then .error (0, n + 1) else .ok [b]
  | s, n, b :: c :: r =>
    if (seeN s b).2 = 5 then
      if c = b then .error (1, n + 1) else (unF (!b, 1) (n + 2) r).map (b :: ·)
    else (unF (seeN s b) (n + 1) (c :: r)).map (b :: ·)
theorem run_emit : ∀ (l : List Bool) (s : Bool × Nat) (o : List Bool), (l.foldl stepS (s, o)).2 = o ++ emit s l
  | [], s, o => by simp [emit]
  | b :: l, s, o => by
    rw [List.foldl_cons]
    by_cases h : (seeN s b).2 = 5
    · rw [show stepS (s, o) b = ((!b, 1), o ++ [b, !b]) from if_pos h, run_emit l, emit, if_pos h]; simp
    · rw [show stepS (s, o) b = (seeN s b, o ++ [b]) from if_neg h, run_emit l, emit, if_neg h]; simp
theorem stuff_emit (l : List Bool) : stuffF l = emit (false, 0) l := by
  have := run_emit l (false, 0) []
  simpa [stuffF, runS] using this
theorem un_emit : ∀ (l : List Bool) (s : Bool × Nat) (n : Nat), unF s n (emit s l) = .ok l
  | [], s, n => rfl
  | b :: l, s, n => by
    unfold emit
    split
    · rename_i h
      have hb : ¬ (!b) = b := by cases b <;> decide
      rw [unF, if_pos h, if_neg hb, un_emit l]; rfl
    · rename_i h
      cases l with
      | nil => simp only [emit]; rw [unF, if_neg h]
      | cons c l =>
        have ih := un_emit (c :: l) (seeN s b) (n + 1)
        obtain ⟨d, r, hd⟩ : ∃ d r, emit (seeN s b) (c :: l) = d :: r := by unfold emit; split <;> exact ⟨_, _, rfl⟩
        rw [hd] at ih ⊢
        rw [unF, if_neg h, ih]; rfl
theorem un_stuff (l : List Bool) : unF (false, 0) 0 (stuffF l) = .ok l := by rw [stuff_emit]; exact un_emit _ _ _
theorem un_only : ∀ (k : Nat) (r : List Bool) (s : Bool × Nat) (n : Nat) (l : List Bool), r.length ≤ k → unF s n r = .ok l → emit s l = r
  | _, [], s, n, l, _, h => by
    simp only [unF, Except.ok.injEq] at h
    subst h; rfl
  | 0, b :: r, s, n, l, hk, h => by simp at hk
  | k + 1, [b], s, n, l, _, h => by
    rw [unF] at h
    split at h
    · cases h
    · rename_i h5
      simp only [Except.ok.injEq] at h
      subst h
      simp [emit, h5]
  | k + 1, b :: c :: r, s, n, l, hk, h => by
    rw [unF] at h
    split at h
    · rename_i h5
      split at h
      · cases h
      · rename_i hc
        cases hu : unF (!b, 1) (n + 2) r with
        | error e => rw [hu] at h; cases h
        | ok m =>
          rw [hu] at h
          obtain rfl : b :: m = l := by simpa [Except.map] using h
          have ih := un_only k r _ _ m (by simp at hk; omega) hu
          unfold emit
          rw [if_pos h5, ih]
          have : (!b) = c := by cases b <;> cases c <;> simp_all
          rw [this]
    · rename_i h5
      cases hu : unF (seeN s b) (n + 1) (c :: r) with
      | error e => rw [hu] at h; cases h
      | ok m =>
        rw [hu] at h
        obtain rfl : b :: m = l := by simpa [Except.map] using h
        have ih := un_only k (c :: r) _ _ m (by simp at hk ⊢; omega) hu
        unfold emit
        rw [if_neg h5, ih]
theorem stuff_only {r l : List Bool} (h : unF (false, 0) 0 r = .ok l) : stuffF l = r := by rw [stuff_emit]; exact un_only _ _ _ _ _ (Nat.le_refl _) h
end Go.Bus.stuffK
