/- Arbitration as plain numbers: the code's one number and the document's three tell the same order. Of identifiers of 32 bits. -/
import Derived.WalkKit
namespace Go.Bus.orderK
open Go.RowKit
set_option linter.unusedVariables false
/-- What arbitration looks at, as one number: queue.order. -/
def ordS (id : Int) : Int := IntKind.u64.wrap (IntKind.u64.wrap (bits BinOp.and IntKind.u32 id 2047) * 1048576)
def ordW (id : Int) : Int :=
  bits BinOp.or IntKind.u64 (bits BinOp.or IntKind.u64 (IntKind.u64.wrap (IntKind.u64.wrap (bits BinOp.and IntKind.u32 id 536870911) / 262144 * 1048576)) 524288)
    (bits BinOp.and IntKind.u64 (IntKind.u64.wrap (bits BinOp.and IntKind.u32 id 536870911)) 262143)
def ord (id : Int) : Bool → Int | false => ordS id | true => ordW id

/-- The document's order: what it looks at, in three. -/
def ohi (id : Int) : Bool → Int | false => bits BinOp.and IntKind.u32 id 2047 | true => bits BinOp.and IntKind.u32 (id / 262144) 2047
def olo (id : Int) : Bool → Int | false => 0 | true => bits BinOp.and IntKind.u32 id 262143

def rahead (i : Int) (a : Bool) (j : Int) (b : Bool) : Bool := if ohi i a ≠ ohi j b then decide (ohi i a < ohi j b) else if a ≠ b then !a else decide (olo i a < olo j b)

theorem ord_eq (i j : Int) (a b : Bool) (h0 : 0 ≤ i) (h1 : i < 4294967296) (h2 : 0 ≤ j) (h3 : j < 4294967296) : decide (ord i a < ord j b) = rahead i a j b := by
  have e1 : ∀ x : Int, 0 ≤ x → x < 4294967296 → bits BinOp.and IntKind.u32 x 2047 = x % 2048 := fun x p q => by
    have := u32_and x 2047 p q (by omega) (by omega)
    rw [this, show (2047 : Int).toNat = 2047 from rfl, nat_mask11]; omega
  have e2 : ∀ x : Int, 0 ≤ x → x < 4294967296 → bits BinOp.and IntKind.u32 x 536870911 = x % 536870912 := fun x p q => by
    have := u32_and x 536870911 p q (by omega) (by omega)
    rw [this, show (536870911 : Int).toNat = 536870911 from rfl, nat_mask29]; omega
  have e3 : ∀ x : Int, 0 ≤ x → x < 4294967296 → bits BinOp.and IntKind.u32 x 262143 = x % 262144 := fun x p q => by
    have := u32_and x 262143 p q (by omega) (by omega)
    rw [this, show (262143 : Int).toNat = 262143 from rfl, nat_mask18]; omega
  have e4 : ∀ x : Int, 0 ≤ x → x < 18446744073709551616 → bits BinOp.and IntKind.u64 x 262143 = x % 262144 := fun x p q => by
    have := u64_and x 262143 p q (by omega) (by omega)
    rw [this, show (262143 : Int).toNat = 262143 from rfl, nat_mask18]; omega
  have oS : ∀ x : Int, 0 ≤ x → x < 4294967296 → ordS x = x % 2048 * 1048576 := fun x p q => by
    unfold ordS; rw [e1 x p q, IntKind.wrap_u64, IntKind.wrap_u64]; omega
  have oW : ∀ x : Int, 0 ≤ x → x < 4294967296 → ordW x = x % 536870912 / 262144 * 1048576 + 524288 + x % 262144 := fun x p q => by
    unfold ordW
    rw [e2 x p q, IntKind.wrap_u64, IntKind.wrap_u64, e4 _ (by omega) (by omega)]
    have A : bits BinOp.or IntKind.u64 (x % 536870912 % 18446744073709551616 / 262144 * 1048576 % 18446744073709551616) 524288 = x % 536870912 / 262144 * 1048576 + 524288 := by
      rw [u64_or _ _ (by omega) (by omega) (by omega) (by omega), nat_join 20 _ _ (by omega) (by decide)]
      omega
    rw [A, u64_or _ _ (by omega) (by omega) (by omega) (by omega), nat_join 19 _ _ (by omega) (by omega)]
    omega
  have q1 : 0 ≤ i / 262144 ∧ i / 262144 < 4294967296 := by omega
  have q2 : 0 ≤ j / 262144 ∧ j / 262144 < 4294967296 := by omega
  rw [Bool.eq_iff_iff]
  cases a <;> cases b <;> simp only [ord, rahead, ohi, olo, oS i h0 h1, oS j h2 h3, oW i h0 h1, oW j h2 h3, e1 i h0 h1, e1 j h2 h3, e3 i h0 h1, e3 j h2 h3, e1 _ q1.1 q1.2, e1 _ q2.1 q2.2] <;> split <;> simp <;> omega
end Go.Bus.orderK
