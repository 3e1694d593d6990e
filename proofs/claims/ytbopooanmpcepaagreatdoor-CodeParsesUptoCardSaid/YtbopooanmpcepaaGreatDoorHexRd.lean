/- Numbers to the base 16, read. Plain. No condition. -/
import Derived.Test.YtbopooanmpcepaaGreatDoorHexLaw
namespace Go.Bus.hexK
set_option linter.unusedVariables false
/-- The value of a digit, of either case. -/
def hexdig (c : UInt8) : Option Nat :=
  if 48 ≤ c.toNat ∧ c.toNat ≤ 57 then some (c.toNat - 48) else
  if 97 ≤ c.toNat ∧ c.toNat ≤ 102 then some (c.toNat - 87) else
  if 65 ≤ c.toNat ∧ c.toNat ≤ 70 then some (c.toNat - 55) else none
def hexRd : List UInt8 → Nat → Option Nat
  | [], n => some n
  | c :: r, n => match hexdig c with
    | none => none
    | some d => if n < 1152921504606846976 then hexRd r (n * 16 + d) else none
theorem hexdig_lt {c : UInt8} {d : Nat} (h : hexdig c = some d) : d < 16 := by
  unfold hexdig at h
  split at h
  · cases h; omega
  · split at h
    · cases h; omega
    · split at h
      · cases h; omega
      · cases h
theorem hexRd_append : ∀ (a b : List UInt8) (n : Nat), hexRd (a ++ b) n = (hexRd a n).bind fun m => hexRd b m
  | [], b, n => rfl
  | c :: a, b, n => by
    simp only [List.cons_append, hexRd]
    cases hexdig c with
    | none => rfl
    | some d =>
      simp only []
      by_cases h : n < 1152921504606846976
      · rw [if_pos h, if_pos h]; exact hexRd_append a b _
      · rw [if_neg h, if_neg h]; rfl
theorem hexdig_hexd : ∀ d : Nat, d < 16 → hexdig (hexd d) = some d := by
  have key : ∀ d : Fin 16, hexdig (hexd d.val) = some d.val := by decide
  intro d h
  exact key ⟨d, h⟩
theorem hexRd_hexs (m : Nat) : m < 18446744073709551616 → hexRd (hexs m) 0 = some m := by
  induction m using Nat.strongRecOn with
  | _ m ih =>
    intro hm
    by_cases h : m < 16
    · rw [hexs_lt h]
      simp only [hexRd, hexdig_hexd m h]
      simp
    · rw [hexs_ge h, hexRd_append, ih (m / 16) (by omega) (by omega)]
      simp only [Option.bind, hexRd, hexdig_hexd (m % 16) (by omega)]
      rw [if_pos (by omega)]
      congr 1; omega
end Go.Bus.hexK
