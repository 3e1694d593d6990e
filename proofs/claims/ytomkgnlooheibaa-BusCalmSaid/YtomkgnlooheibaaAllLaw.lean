/- Reading a whole row of the wire, as a function; it answers a frame just where the row is that frame's. Plain. -/
import Derived.Test.YtomkgnlooheibaaDecBits
import Derived.Test.YtomkgnlooheibaaUnstuffLaw
import Derived.Test.YtomkgnlooheibaaOnLaw
namespace Go.Bus.decK
open Go.RowKit Go.Bus.bitK Go.Bus.crcLaw Go.Bus.numK Go.Bus.stuffK
set_option linter.unusedVariables false
/-- An error: its number, and the place that it tells. -/
abbrev Err := Nat × Option Nat
def unErr (x : Nat × Nat) : Err := (if x.1 = 0 then 2 else 22, some x.2)
def decE (m : List Bool) : Except Err (Int × Bool × List Int) := match decF m with | .error k => .error (k, none) | .ok f => .ok f
def allF (l : List Bool) : Except Err (Int × Bool × List Int) :=
  if l.length < 10 then .error (2, none)
  else if nb l (l.length - 10) 10 ≠ 1023 then .error (4, none)
  else match unF (false, 0) 0 (l.take (l.length - 10)) with
    | .error x => .error (unErr x)
    | .ok m => decE m
theorem all_on (t : List Bool) : allF (onF t) = decE t := by
  unfold allF
  have h1 : ¬ (onF t).length < 10 := by rw [onF_length]; omega
  have h2 : (onF t).length - 10 = (stuffF t).length := by rw [onF_length]; omega
  have h3 : (nb (onF t) (stuffF t).length 10 : Int) = 1023 := by
    unfold onF
    rw [← List.append_nil (msb 1023 10)]
    exact nb_at rfl (by omega) (by decide)
  rw [if_neg h1, h2, if_neg (by omega)]
  have h4 : (onF t).take (stuffF t).length = stuffF t := List.take_left' rfl
  rw [h4, un_stuff]
theorem all_bits (id : Int) (wide : Bool) (l : List Int) (h8 : l.length ≤ 8) (hb : ∀ x ∈ l, 0 ≤ x ∧ x < 256) (h0 : 0 ≤ id) (h1 : id < (if wide = true then 536870912 else 2048)) :
    allF (onF (bitsF id wide l)) = .ok (id, wide, l) := by
  rw [all_on, decE, dec_bits id wide l h8 hb h0 h1]
theorem all_only {r : List Bool} {i : Int} {w : Bool} {l : List Int} (h : allF r = .ok (i, w, l)) :
    l.length ≤ 8 ∧ (∀ x ∈ l, 0 ≤ x ∧ x < 256) ∧ 0 ≤ i ∧ i < (if w = true then 536870912 else 2048) ∧ onF (bitsF i w l) = r := by
  unfold allF at h
  split at h
  · cases h
  rename_i h1
  split at h
  · cases h
  rename_i h2
  cases hu : unF (false, 0) 0 (r.take (r.length - 10)) with
  | error x => rw [hu] at h; cases h
  | ok m =>
    rw [hu] at h
    unfold decE at h
    cases hd : decF m with
    | error k => simp only [hd] at h; cases h
    | ok f =>
      simp only [hd] at h
      obtain rfl : f = (i, w, l) := by simpa using h
      obtain ⟨a1, a2, a3, a4, rfl⟩ := dec_only hd
      refine ⟨a1, a2, a3, a4, ?_⟩
      have hs := stuff_only hu
      unfold onF
      rw [hs]
      have hn : nb r (r.length - 10) 10 = 1023 := by omega
      have hseg := seg_num (m := r) (a := r.length - 10) (n := 10) (by omega)
      rw [hn] at hseg
      have h3 : msb 1023 10 = seg r (r.length - 10) 10 := hseg
      rw [h3]
      unfold seg
      have h4 : (r.drop (r.length - 10)).take 10 = r.drop (r.length - 10) := List.take_of_length_le (by rw [List.length_drop]; omega)
      rw [h4, List.take_append_drop]
theorem err_decE {m : List Bool} {x : Err} (h : decE m = .error x) : 2 ≤ x.1 ∧ x.1 ≤ 26 := by
  unfold decE at h
  have ht : ∀ (id : Int) (wide : Bool) (a k : Nat), tailF m id wide a = .error k → 2 ≤ k ∧ k ≤ 26 := by
    intro id wide a k hk
    unfold tailF at hk
    repeat' split at hk
    all_goals first | (cases hk; omega) | cases hk
  have hd : ∀ k, decF m = .error k → 2 ≤ k ∧ k ≤ 26 := by
    intro k hk
    unfold decF at hk
    repeat' split at hk
    all_goals first | exact ht _ _ _ _ hk | (cases hk; omega)
  cases hk : decF m with
  | error k => simp only [hk] at h; cases h; exact hd k hk
  | ok f => simp only [hk] at h; cases h
/-- Turning one place turns one place of the difference. -/
theorem diff_set : ∀ (X Y : List Bool) (k : Nat) (b : Bool), X.length = Y.length → (diff X (Y.set k b)).count true ≤ (diff X Y).count true + 1
  | [], [], k, b, _ => by simp [diff]
  | x :: X, y :: Y, 0, b, h => by
    simp only [List.set_cons_zero, diff, List.count_cons]
    split <;> split <;> omega
  | x :: X, y :: Y, k + 1, b, h => by
    have := diff_set X Y k b (by simpa using h)
    simp only [List.set_cons_succ, diff, List.count_cons]
    omega
  | [], _ :: _, _, _, h => by simp at h
  | _ :: _, [], _, _, h => by simp at h
theorem diff_self : ∀ X : List Bool, (diff X X).count true = 0
  | [] => rfl
  | b :: X => by rw [diff, List.count_cons, diff_self X]; cases b <;> rfl
/-- At most five places of a frame's bits turned: it is the frame, or no frame at all. -/
theorem five_seen {i : Int} {w : Bool} {l : List Int} {t : List Bool} (h8 : l.length ≤ 8) (hl : t.length = (bitsF i w l).length) (hc : (diff (bitsF i w l) t).count true ≤ 5) (hne : t ≠ bitsF i w l) :
    ∃ x, decE t = .error x := by
  cases hd : decE t with
  | error x => exact ⟨x, rfl⟩
  | ok f =>
    exfalso
    unfold decE at hd
    cases hk : decF t with
    | error k => simp only [hk] at hd; cases hd
    | ok g =>
      obtain ⟨j, v, m⟩ := g
      obtain ⟨a1, a2, a3, a4, rfl⟩ := dec_only hk
      rw [bitsF_length, bitsF_length] at hl
      have hv : v = w ∧ m.length = l.length := by
        cases v <;> cases w <;> simp at hl ⊢ <;> omega
      obtain ⟨rfl, hm⟩ := hv
      exact hne (few_none hm.symm h8 hc).symm
end Go.Bus.decK
