/- Taking the stuffed bits out, bit by bit: what one round does. Plain. -/
import Derived.Test.YtomkgnlooheibaaUnstuffLaw
namespace Go.Bus.stuffK
set_option linter.unusedVariables false
abbrev UnR := Except (Nat × Nat) (List Bool)
def pre (xs : List Bool) (r : UnR) : UnR := r.map (xs ++ ·)
theorem pre_nil (r : UnR) : pre [] r = r := by cases r <;> rfl
theorem pre_err (xs : List Bool) (x : Nat × Nat) : pre xs (.error x) = .error x := rfl
theorem pre_ok (xs l : List Bool) : pre xs (.ok l) = .ok (xs ++ l) := rfl
theorem pre_map (xs : List Bool) (b : Bool) (r : UnR) : pre xs (r.map (b :: ·)) = pre (xs ++ [b]) r := by
  cases r with
  | error x => rfl
  | ok l => show Except.ok (xs ++ b :: l) = Except.ok (xs ++ [b] ++ l); simp
theorem un_on {s : Bool × Nat} {n : Nat} {b : Bool} {xs r : List Bool} (h : ¬ (seeN s b).2 = 5) : pre xs (unF s n (b :: r)) = pre (xs ++ [b]) (unF (seeN s b) (n + 1) r) := by
  rw [← pre_map]
  cases r with
  | nil => simp only [unF, if_neg h]; rfl
  | cons c r => rw [unF, if_neg h]
theorem un_short {s : Bool × Nat} {n : Nat} {b : Bool} {xs : List Bool} (h : (seeN s b).2 = 5) : pre xs (unF s n [b]) = .error (0, n + 1) := by rw [unF, if_pos h]; rfl
theorem un_ill {s : Bool × Nat} {n : Nat} {b : Bool} {xs r : List Bool} (h : (seeN s b).2 = 5) : pre xs (unF s n (b :: b :: r)) = .error (1, n + 1) := by rw [unF, if_pos h, if_pos rfl]; rfl
theorem un_skip {s : Bool × Nat} {n : Nat} {b c : Bool} {xs r : List Bool} (h : (seeN s b).2 = 5) (hc : ¬ c = b) : pre xs (unF s n (b :: c :: r)) = pre (xs ++ [b]) (unF (!b, 1) (n + 2) r) := by
  rw [unF, if_pos h, if_neg hc, pre_map]
theorem see_le {s : Bool × Nat} (b : Bool) (h : s.2 ≤ 4) : (seeN s b).2 ≤ 5 := by unfold seeN; split <;> simp <;> omega
/-- What a call answers, by what the whole row comes to. -/
theorem drop_cons {l : List Bool} {k : Nat} (h : k < l.length) : l.drop k = l[k] :: l.drop (k + 1) := List.drop_eq_getElem_cons h
end Go.Bus.stuffK
