/- Plain: how many lines a text has; two texts one behind the other; lines printed one behind the other are read as they. No program in sight. -/
import Derived.Test.YtbhhfdajaoemnaaGreatDoorDumpFl
import Derived.Test.YtbhhfdajaoemnaaGreatDoorDumpPr
namespace Go.Bus.dumpK
open Go.Bus.hexK Go.Bus.textK Go.Lib
set_option linter.unusedVariables false
theorem cut_count (c : UInt8) : ∀ S : List UInt8, (cutN c S).length = S.count c + 1
  | [] => rfl
  | x :: r => by
    have ih := cut_count c r
    obtain ⟨h, t, e⟩ := cutN_ne c r
    rw [cutN]
    by_cases hx : x = c
    · subst hx
      rw [if_pos rfl, List.length_cons, ih, List.count_cons_self]
    · rw [if_neg hx, List.count_cons_of_ne hx, ← ih, e]
      rfl
theorem linesF_le (S : List UInt8) : (linesF S).length ≤ S.count 10 + 1 := by
  rw [← cut_count]
  unfold linesF
  split
  · rw [List.length_dropLast]; omega
  · exact Nat.le_refl _
theorem parseF_no {S : List UInt8} {no : Int} (h : parseF S = .error no) : 1 ≤ no ∧ no ≤ 26 := by
  unfold parseF at h
  repeat' split at h
  all_goals first | (cases h; decide) | cases h
theorem goF_no : ∀ (L : List (List UInt8)) (i : Nat) (no : Int) (k : Nat), goF L i = .error (no, k) → (1 ≤ no ∧ no ≤ 26) ∧ i < k ∧ k ≤ i + L.length
  | [], i, no, k, h => by cases h
  | s :: r, i, no, k, h => by
    rw [goF] at h
    cases hp : parseF s with
    | error n =>
      rw [hp] at h
      cases h
      exact ⟨parseF_no hp, by omega, by simp only [List.length_cons]; omega⟩
    | ok l =>
      rw [hp] at h
      simp only at h
      cases hg : goF r (i + 1) with
      | error e =>
        obtain ⟨n2, k2⟩ := e
        rw [hg] at h
        cases h
        obtain ⟨h1, h2, h3⟩ := goF_no r (i + 1) no k hg
        exact ⟨h1, by omega, by simp only [List.length_cons]; omega⟩
      | ok ls => rw [hg] at h; cases h
theorem goF_len : ∀ (L : List (List UInt8)) (i : Nat) (ls : List Ln), goF L i = .ok ls → ls.length = L.length
  | [], i, ls, h => by cases h; rfl
  | s :: r, i, ls, h => by
    rw [goF] at h
    cases hp : parseF s with
    | error n => rw [hp] at h; cases h
    | ok l =>
      rw [hp] at h
      simp only at h
      cases hg : goF r (i + 1) with
      | error e => rw [hg] at h; cases h
      | ok m =>
        rw [hg] at h
        cases h
        rw [List.length_cons, List.length_cons, goF_len r (i + 1) m hg]
/-- What is wrong with a whole text: its number, and where a line is told, which. -/
theorem fileF_no {S : List UInt8} {no : Int} {k : Nat} (h : fileF S = .error (no, k)) : 1 ≤ no ∧ no ≤ 26 := by
  unfold fileF at h
  split at h
  · cases h; decide
  · split at h
    · cases h; decide
    · exact (goF_no _ _ _ _ h).1
theorem fileF_join {a b : List UInt8} (ha : a.length ≤ 65536) (hb : b.length ≤ 65536) (na : a.count 10 ≤ 1000) (nb : b.count 10 ≤ 1000) :
    fileF (a ++ [10]) = goF (cutN 10 a) 0 ∧ fileF b = goF (linesF b) 0 ∧ fileF ((a ++ [10]) ++ b) = (match goF (cutN 10 a) 0 with
      | .error e => .error e
      | .ok l => match goF (linesF b) 0 with
        | .error e => .error (e.1, e.2 + (a.count 10 + 1))
        | .ok m => .ok (l ++ m)) := by
  have h1 := cut_count 10 a
  have h2 := linesF_le b
  refine ⟨?_, ?_, ?_⟩
  · unfold fileF
    rw [if_neg (by rw [List.length_append, List.length_singleton]; omega), linesF_nl, if_neg (by omega)]
  · unfold fileF
    rw [if_neg (by omega), if_neg (by omega)]
  · unfold fileF
    rw [if_neg (by rw [List.length_append, List.length_append, List.length_singleton]; omega), linesF_join, linesF_nl, if_neg (by rw [List.length_append]; omega), goF_app]
    cases goF (cutN 10 a) 0 with
    | error e => rfl
    | ok l =>
      simp only
      rw [goF_at, h1, Nat.zero_add]
      cases goF (linesF b) 0 with
      | error e => rfl
      | ok m => rfl
/-- Lines that may be printed, and their text. -/
def okL (ls : List Ln) : List Ln := ls.filter fun l => decide (wrong l = 0)
def textL (ls : List Ln) : List UInt8 := ls.flatMap fun l => lineD l ++ [10]
theorem okL_mem {ls : List Ln} {l : Ln} (h : l ∈ okL ls) : l ∈ ls ∧ wrong l = 0 := by
  unfold okL at h
  rw [List.mem_filter] at h
  exact ⟨h.1, of_decide_eq_true h.2⟩
theorem okL_good (ls : List Ln) {l : Ln} (h : wrong l = 0) : okL (ls ++ [l]) = okL ls ++ [l] := by
  unfold okL
  rw [List.filter_append]
  simp [h]
theorem okL_bad (ls : List Ln) {l : Ln} (h : wrong l ≠ 0) : okL (ls ++ [l]) = okL ls := by
  unfold okL
  rw [List.filter_append]
  simp [h]
theorem okL_len (ls : List Ln) : (okL ls).length ≤ ls.length := List.length_filter_le _ _
theorem textL_snoc (ls : List Ln) (l : Ln) : textL (ls ++ [l]) = textL ls ++ lineD l ++ [10] := by
  unfold textL
  rw [List.flatMap_append]
  simp
theorem line_len' {l : Ln} (ho : l.Ok) (h : wrong l = 0) : (lineD l).length ≤ 200 := by
  obtain ⟨hn, -, hd⟩ := right_of h
  have h1 : l.port.length ≤ 64 := by
    unfold nameB at hn
    rw [Bool.and_eq_true] at hn
    exact of_decide_eq_true hn.1
  have h2 := secs_len ho.time
  have h3 := data_len l.data
  have h4 : wid l.wide ≤ 8 := by cases l.wide <;> decide
  unfold lineD
  simp only [List.length_cons, List.length_append, numN_len, h3]
  omega
theorem textL_len : ∀ (ls : List Ln), (∀ l ∈ ls, l.Ok ∧ wrong l = 0) → (textL ls).length ≤ 201 * ls.length
  | [], _ => Nat.zero_le _
  | l :: ls, h => by
    have h1 := h l (List.mem_cons_self ..)
    have h2 := line_len' h1.1 h1.2
    have h3 := textL_len ls fun x hx => h x (List.mem_cons_of_mem _ hx)
    unfold textL at h3 ⊢
    rw [List.flatMap_cons, List.length_append, List.length_append, List.length_singleton, List.length_cons]
    omega
theorem fileF_printed {ls : List Ln} (h : ∀ l ∈ ls, l.Ok ∧ wrong l = 0) (hn : ls.length ≤ 4096) : fileF (textL ls) = .ok ls := by
  obtain ⟨h1, h2⟩ := lines_printed ls h
  have h3 := textL_len ls h
  unfold fileF
  rw [if_neg (by omega)]
  unfold textL
  rw [h1, if_neg (by rw [List.length_map]; omega), h2]
end Go.Bus.dumpK
