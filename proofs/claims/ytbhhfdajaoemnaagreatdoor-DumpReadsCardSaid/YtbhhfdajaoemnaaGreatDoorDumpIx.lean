/- Plain: the library's cutting and splitting at one byte, as the dump's law has them. No program in sight. -/
import Derived.Test.YtbhhfdajaoemnaaGreatDoorDumpFl
import Derived.Lib.IndexMore
import Derived.Lib.Split
import Derived.Lib.SplitLaws
import Derived.Lib.Strings
namespace Go.Bus.dumpK
open Go.Lib
set_option linter.unusedVariables false
theorem index_char (S : List UInt8) (c : UInt8) : (index S [c] = -1 ∧ c ∉ S) ∨ ∃ i : Nat, index S [c] = i ∧ i < S.length ∧ S = S.take i ++ c :: S.drop (i + 1) ∧ c ∉ S.take i := by
  rcases index_spec S [c] with ⟨hi, hno⟩ | ⟨i, hi, hle, ho, hno⟩
  · refine .inl ⟨hi, ?_⟩
    intro hm
    obtain ⟨j, hj, e⟩ := List.getElem_of_mem hm
    have h1 := hno j (by omega)
    unfold occAt at h1
    rw [List.drop_eq_getElem_cons hj, e] at h1
    simp at h1
  · have h1 := occAt_head (c := c) (t := []) rfl ho
    have hlt : i < S.length := by
      rcases Nat.lt_or_ge i S.length with h | h
      · exact h
      · rw [List.getElem?_eq_none h] at h1; cases h1
    have h3 : S[i] = c := by rw [List.getElem?_eq_getElem hlt] at h1; exact Option.some.inj h1
    refine .inr ⟨i, hi, hlt, ?_, ?_⟩
    · have h2 : S.drop i = S[i] :: S.drop (i + 1) := List.drop_eq_getElem_cons hlt
      rw [h3] at h2
      rw [← h2, List.take_append_drop]
    · intro hm
      obtain ⟨j, hj, e⟩ := List.getElem_of_mem hm
      rw [List.length_take] at hj
      have h4 := hno j (by omega)
      unfold occAt at h4
      have hj2 : j < S.length := by omega
      rw [List.getElem_take] at e
      rw [List.drop_eq_getElem_cons hj2, e] at h4
      simp at h4
theorem cutAt_none {c : UInt8} : ∀ {S : List UInt8}, c ∉ S → cutAt c S = none
  | [], _ => rfl
  | x :: r, h => by
    have hx : x ≠ c := fun e => h (by rw [e]; exact List.mem_cons_self ..)
    rw [cutAt, if_neg hx, cutAt_none (fun e => h (List.mem_cons_of_mem _ e))]
/-- The library's cut at one byte. -/
def cutV (c : UInt8) (S : List UInt8) : List UInt8 × List UInt8 × Bool := match cutAt c S with
  | some p => (p.1, p.2, true)
  | none => (S, [], false)
theorem lib_cut (S : List UInt8) (c : UInt8) : cut S [c] = cutV c S := by
  unfold cut cutV
  rcases index_char S c with ⟨hi, hno⟩ | ⟨i, hi, hlt, hS, hno⟩
  · rw [if_neg (by rw [hi]; decide), cutAt_none hno]
  · rw [if_pos (by rw [hi]; omega), hi]
    have h := cutAt_app c (S.drop (i + 1)) (S.take i) hno
    rw [← hS] at h
    rw [h]
    simp only [Int.toNat_natCast, List.length_cons, List.length_nil, Nat.zero_add]
theorem cutN_split (c : UInt8) : ∀ (n : Nat) (S : List UInt8), S.length ≤ n → splitK [c] 0 (count S [c]) S = cutN c S := by
  intro n
  induction n with
  | zero =>
    intro S hS
    obtain rfl := List.eq_nil_of_length_eq_zero (by omega : S.length = 0)
    rcases index_char [] c with ⟨hi, _⟩ | ⟨i, _, hlt, _⟩
    · rw [count_miss hi]; rfl
    · simp at hlt
  | succ n ih =>
    intro S hS
    rcases index_char S c with ⟨hi, hno⟩ | ⟨i, hi, hlt, hS2, hno⟩
    · rw [count_miss hi, cutN_not S hno]; rfl
    · have h5 := cutN_app c (S.drop (i + 1)) (S.take i)
      rw [← hS2] at h5
      rw [h5, cutN_not _ hno, ← ih (S.drop (i + 1)) (by rw [List.length_drop]; omega), count_hit (by simp) hi, Nat.add_comm, splitK]
      have hm : ¬ (index S [c] == -1) = true := by rw [hi]; simp
      rw [if_neg hm, hi]
      simp only [Int.toNat_natCast, Nat.add_zero, List.length_cons, List.length_nil, Nat.zero_add, List.singleton_append]
end Go.Bus.dumpK
