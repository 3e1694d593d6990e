/- The sum of 15 bits tells every row of at most 118 bits from every other one that differs in at most five places. Plain. -/
import Derived.WalkKit
import Derived.Test.YtomkgnlooheibaaBitLaw
namespace Go.Bus.crcLaw
open Go.RowKit Go.Bus.bitK
set_option linter.unusedVariables false
/-- The step on bit vectors. -/
def stepV (r : BitVec 15) (b : Bool) : BitVec 15 := if r.msb != b then (r <<< 1) ^^^ 0x4599#15 else r <<< 1
def sumV (r : BitVec 15) (l : List Bool) : BitVec 15 := l.foldl stepV r

theorem xor_left (a b c : BitVec 15) : a ^^^ (b ^^^ c) = b ^^^ (a ^^^ c) := by rw [← BitVec.xor_assoc, BitVec.xor_comm a b, BitVec.xor_assoc]
theorem xor_back (a b : BitVec 15) : a ^^^ (a ^^^ b) = b := by rw [← BitVec.xor_assoc, BitVec.xor_self, BitVec.zero_xor]
theorem stepV_xor (r s : BitVec 15) (b c : Bool) : stepV (r ^^^ s) (b != c) = stepV r b ^^^ stepV s c := by
  unfold stepV
  rw [BitVec.msb_xor, BitVec.shiftLeft_xor_distrib]
  have h1 := xor_left (r <<< 1) 0x4599#15 (s <<< 1)
  have h2 : r <<< 1 ^^^ 0x4599#15 ^^^ (s <<< 1 ^^^ 0x4599#15) = r <<< 1 ^^^ s <<< 1 := by
    rw [BitVec.xor_assoc, xor_left 0x4599#15 (s <<< 1) 0x4599#15, BitVec.xor_self, BitVec.xor_zero]
  cases r.msb <;> cases s.msb <;> cases b <;> cases c <;> simp [h2, BitVec.xor_assoc] <;> first | done | (rw [BitVec.xor_comm 17817#15 (s <<< 1)])
def diff : List Bool → List Bool → List Bool
  | a :: l, b :: m => (a != b) :: diff l m
  | _, _ => []
theorem sumV_xor : ∀ (l m : List Bool) (r s : BitVec 15), l.length = m.length → sumV (r ^^^ s) (diff l m) = sumV r l ^^^ sumV s m
  | [], [], r, s, _ => rfl
  | a :: l, b :: m, r, s, h => by
    simp only [diff, sumV, List.foldl_cons, stepV_xor]
    exact sumV_xor l m _ _ (by simpa using h)
  | [], _ :: _, _, _, h => by simp at h
  | _ :: _, [], _, _, h => by simp at h

/-- What one bit comes to, k bits later. -/
def S : Nat → BitVec 15 | 0 => 0x4599#15 | k + 1 => stepV (S k) false
def tabL : List Nat := [17817, 20139, 22735, 29703, 11671, 23342, 29637, 8723, 17446, 19925, 24115, 31231, 13927, 27854, 7173, 14346, 28692, 9649, 19298, 21341, 25379, 991, 1982, 3964, 7928, 15856, 31712, 12889, 25778, 3325, 6650, 13300, 26600, 2633, 5266, 10532, 21064, 24841, 1931, 3862, 7724, 15448, 30896, 13561, 27122, 5757, 11514, 23028, 30321, 10619, 21238, 24693, 1395, 2790, 5580, 11160, 22320, 27641, 4715, 9430, 18860, 22209, 26651, 5551, 11102, 22204, 26849, 5211, 10422, 20844, 26433, 2843, 5686, 11372, 22744, 29737, 11723, 23446, 29365, 8435, 16870, 18005, 18739, 22527, 27239, 4439, 8878, 17756, 20257, 23515, 29231, 8647, 17294, 17029, 16531, 17599, 19687, 23639, 32055, 16375, 32750, 14917, 29834, 11405, 22810, 30637, 10947, 21894, 28309, 6323, 12646, 25292, 1, 2, 4, 8, 16, 32]
def setT : Nat := (tabL.drop 1).foldl (fun t x => t ||| (1 <<< x)) 0
def pairsOK : List Nat → Bool
  | [] => true
  | x :: r => r.all (fun y => !(setT.testBit (x ^^^ y ^^^ 17817))) && pairsOK r
def odd15 (x : Nat) : Bool := (List.range 15).foldl (fun p i => p != x.testBit i) false
theorem tab_is : tabL = (List.range 118).map fun k => (S k).toNat := by decide +kernel
theorem tab_pairs : pairsOK (tabL.drop 1) = true := by decide +kernel
theorem tab_odd : tabL.all odd15 = true := by decide +kernel
theorem tab_first : (tabL.drop 1).all (fun x => x != 17817) = true := by decide +kernel
theorem step_zero : ∀ t : BitVec 15, stepV t false = 0#15 → t = 0#15 := by decide +kernel
end Go.Bus.crcLaw
