/- Plain: a trace's text, line by line; two texts one behind the other; lines printed one behind the other. No program in sight. -/
import Derived.Test.YtbhhfdajaoemnaaGreatDoorDumpTx
import Derived.Lib.IndexMore
namespace Go.Bus.dumpK
open Go.Bus.hexK Go.Bus.textK Go.Lib
set_option linter.unusedVariables false
/-- What stands between the bytes c. -/
def cutN (c : UInt8) : List UInt8 → List (List UInt8)
  | [] => [[]]
  | x :: r => if x = c then [] :: cutN c r else match cutN c r with
    | [] => [[x]]
    | h :: t => (x :: h) :: t
theorem cutN_ne (c : UInt8) (S : List UInt8) : ∃ h t, cutN c S = h :: t := by
  cases S with
  | nil => exact ⟨[], [], rfl⟩
  | cons x r =>
    unfold cutN
    split
    · exact ⟨_, _, rfl⟩
    · split <;> exact ⟨_, _, rfl⟩
theorem cutN_not {c : UInt8} : ∀ (a : List UInt8), c ∉ a → cutN c a = [a]
  | [], _ => rfl
  | x :: a, h => by
    have hx : x ≠ c := fun e => h (by rw [e]; exact List.mem_cons_self ..)
    rw [cutN, if_neg hx, cutN_not a (fun e => h (List.mem_cons_of_mem _ e))]
/-- Two texts with a c between them. -/
theorem cutN_app (c : UInt8) (b : List UInt8) : ∀ (a : List UInt8), cutN c (a ++ c :: b) = cutN c a ++ cutN c b
  | [] => by simp [cutN]
  | x :: a => by
    rw [List.cons_append, cutN, cutN_app c b a]
    conv => rhs; rw [cutN]
    split
    · rfl
    · obtain ⟨h, t, e⟩ := cutN_ne c a
      rw [e]; rfl
def linesF (S : List UInt8) : List (List UInt8) := if (cutN 10 S).getLast? = some [] then (cutN 10 S).dropLast else cutN 10 S
theorem linesF_nl (a : List UInt8) : linesF (a ++ [10]) = cutN 10 a := by
  unfold linesF
  rw [show a ++ [10] = a ++ 10 :: [] from rfl, cutN_app]
  have e : cutN 10 [] = [[]] := rfl
  rw [e, List.getLast?_append, if_pos (by simp), List.dropLast_concat]
theorem linesF_join (a b : List UInt8) : linesF ((a ++ [10]) ++ b) = linesF (a ++ [10]) ++ linesF b := by
  rw [linesF_nl]
  unfold linesF
  rw [List.append_assoc, show [10] ++ b = 10 :: b from rfl, cutN_app]
  obtain ⟨h, t, e⟩ := cutN_ne 10 b
  have hne : cutN 10 b ≠ [] := by rw [e]; exact List.cons_ne_nil _ _
  have hl : (cutN 10 a ++ cutN 10 b).getLast? = (cutN 10 b).getLast? := by
    rw [List.getLast?_append]
    cases hq : (cutN 10 b).getLast? with
    | none => exact absurd (List.getLast?_eq_none_iff.1 hq) hne
    | some q => rfl
  rw [hl]
  split
  · rw [List.dropLast_append_of_ne_nil hne]
  · rfl
/-- The lines read; or the first error, and its line. -/
def goF : List (List UInt8) → Nat → Except (Int × Nat) (List Ln)
  | [], _ => .ok []
  | s :: r, i => match parseF s with
    | .error no => .error (no, i + 1)
    | .ok l => match goF r (i + 1) with
      | .error e => .error e
      | .ok ls => .ok (l :: ls)
def fileF (S : List UInt8) : Except (Int × Nat) (List Ln) :=
  if 1048576 < S.length then .error (5, 0) else if 4096 < (linesF S).length then .error (5, 0) else goF (linesF S) 0
theorem goF_app : ∀ (x y : List (List UInt8)) (i : Nat), goF (x ++ y) i = match goF x i with
    | .error e => .error e
    | .ok l => match goF y (i + x.length) with
      | .error e => .error e
      | .ok m => .ok (l ++ m)
  | [], y, i => by
    simp only [List.nil_append, goF, List.length_nil, Nat.add_zero]
    cases goF y i <;> rfl
  | s :: x, y, i => by
    rw [List.cons_append, goF]
    conv => rhs; rw [goF]
    cases parseF s with
    | error no => rfl
    | ok l =>
      simp only
      rw [goF_app x y (i + 1), List.length_cons, show i + (x.length + 1) = i + 1 + x.length from by omega]
      cases goF x (i + 1) with
      | error e => rfl
      | ok ls =>
        simp only
        cases goF y (i + 1 + x.length) <;> rfl
theorem goF_at : ∀ (x : List (List UInt8)) (i : Nat), goF x i = match goF x 0 with
    | .error e => .error (e.1, e.2 + i)
    | .ok l => .ok l
  | [], i => rfl
  | s :: x, i => by
    rw [goF]
    conv => rhs; rw [goF]
    cases parseF s with
    | error no => simp only; congr 2; omega
    | ok l =>
      simp only
      rw [goF_at x (i + 1), goF_at x (0 + 1)]
      cases goF x 0 with
      | error e => simp only; congr 2; omega
      | ok ls => rfl
/-- What is printed has no end of a line in it. -/
theorem line_nl {l : Ln} (h : nameB l.port = true) (hd : ∀ c ∈ l.data, 0 ≤ c ∧ c < 256) : (10 : UInt8) ∉ lineD l := by
  have h1 : (10 : UInt8) ∉ secs l.time := mem_allD (b := 10) (by rw [allD_dig]; exact dec_all _) (by decide)
  have h2 : (10 : UInt8) ∉ numN 10 6 (l.time % 1000000) := mem_allD (allD_numN (by decide) (by decide) _ _) (by decide)
  have h3 : (10 : UInt8) ∉ l.port := name_mem h (by decide) (by decide)
  have h4 : (10 : UInt8) ∉ numN 16 (wid l.wide) l.id := mem_allD (allD_numN (by decide) (by decide) _ _) (by decide)
  have h5 : (10 : UInt8) ∉ dataT l.data := mem_allD (pairs_data l.data hd).2.1 (by decide)
  unfold lineD
  simp only [List.mem_cons, List.mem_append, not_or]
  exact ⟨by decide, h1, by decide, h2, by decide, by decide, h3, by decide, h4, by decide, h5⟩
theorem lines_printed : ∀ (ls : List Ln), (∀ l ∈ ls, l.Ok ∧ wrong l = 0) → linesF (ls.flatMap fun l => lineD l ++ [10]) = ls.map lineD ∧ goF (ls.map lineD) 0 = .ok ls
  | [], _ => ⟨rfl, rfl⟩
  | l :: ls, h => by
    obtain ⟨ho, hw⟩ := h l (List.mem_cons_self ..)
    obtain ⟨i1, i2⟩ := lines_printed ls fun x hx => h x (List.mem_cons_of_mem _ hx)
    refine ⟨?_, ?_⟩
    · rw [List.flatMap_cons, linesF_join, linesF_nl, cutN_not _ (line_nl (right_of hw).1 ho.data), i1]; rfl
    · rw [List.map_cons, goF, there ho hw]
      simp only
      rw [goF_at, i2]
end Go.Bus.dumpK
