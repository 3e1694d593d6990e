/- frame.put: a number's bits put behind a list of the call's own. -/
import Derived.Test.YtomkgnlooheibaaBase
import Derived.Test.YtomkgnlooheibaaBitLaw
import Derived.Test.YtomkgnlooheibaaProg
namespace Go.Proofs.Ytomkgnlooheibaa
open Go.RowKit Go.Bus Go.Bus.bitK
set_option linter.unusedVariables false
theorem Try.infoBool : (Try.prog.info? 4).map (fun i => (i.zero, i.size, i.bytes)) = some (some (.bool false), 1, 1) := by kernel_rfl

namespace putK
/-- A list of bools of the call's own, from block 'base' on; below it nothing has turned. -/
def Own (base : Nat) (w : World) (xs : List Bool) (e : Ending) (w' : World) : Prop :=
  ∃ v, e = .returned v ∧ w'.ownsRow base 4 1 v xs.length (xs.map Value.bool) ∧ Below base w w'

set_option maxRecDepth 100000 in
set_option maxHeartbeats 1000000 in
theorem put_any (base : Nat) (v : Value) (xs : List Bool) (x z : Int) (n : Nat) (w : World) (hown : w.ownsRow base 4 1 v xs.length (xs.map Value.bool)) (hbase : base ≤ w.heap.size)
    (hz : z = n) (hn : n ≤ 32) (hx : 0 ≤ x) (hx' : x < 4294967296) (hlen : xs.length ≤ 1000000000) :
    Calls Try.prog 47 #[v, .int .u32 x, .int .i64 z] w (Own base w (xs ++ msb x n)) := by
  subst hz
  obtain ⟨i0, hi, hz0, hz1, hz2⟩ := info_parts Try.infoBool
  have HO := Lib.hid hown; clear hown
  go_enter Try.func47, Try.ntmps47
  go_wp2
  go_loopw [0, 7] (fun o i wr => ∃ k : Nat, k ≤ n ∧ i = .int .i64 ((n : Int) - 1 - k) ∧ wr.ownsRow base 4 1 o (xs.length + k) (xs.map Value.bool ++ ((msb x n).map Value.bool).take k) ∧ Below base w wr ∧ base ≤ wr.heap.size) (fun _ i _ => (intOf i + 1).toNat)
  case atStart => exact ⟨0, Nat.zero_le _, by go_num, by simpa using HO.out, Below.refl _ _, hbase⟩
  case round =>
    clear hbase
    obtain ⟨k, hk, rfl, hown, hbel, hbase⟩ := hrel
    by_cases hlt : k < n
    · obtain ⟨j, hj⟩ : ∃ j : Nat, (n : Int) - 1 - k = j := ⟨n - 1 - k, by omega⟩
      have hjn : n - 1 - k = j := by omega
      have hjb : (j : Int) ≤ 64 := by omega
      have hj0 : (0 : Int) ≤ (j : Int) := by omega
      have hbit : (bits BinOp.and IntKind.u32 (x / 2 ^ min j 32) 1 == 1) = bitI x j := by rw [show min j 32 = j from by omega]; exact bit32 (v := x) j hx hx'
      have HJ := Lib.hid hjn; clear hjn
      have hm := msb_take x n k hlt
      rw [HJ.out] at hm
      have HM := Lib.hid hm; clear hm
      have HJ2 := Lib.hid hj
      rw [hj]
      clear hj
      go_wp2_with (at_builtin; refine wpList_append_own _ rfl _ _ 52 rfl base 4 i0 (.bool false) 1 1 Try.underlying52 hi hz0 hz1 hz2 rfl (by decide) _ _ _ rfl (hown.alloc _) ⟨wr.heap.size, 0, none⟩ 1 1 [.bool (bitI x j)] rfl rfl ?c1 ?c2 ?c3 ?c4 ?c5 ?_)
      case c1 => exact one_new wr _ _
      case c2 => intro u hu; simp at hu; subst hu; rfl
      case c3 => unfold maxLen; omega
      case c4 => omega
      case c5 => simp; omega
      intro v' w1 hown' hgrow _
      have hg := hgrow.size
      simp at hg
      have hr := Round.step (B := base) hbel hown hown' hgrow hbase (hxs := by first | rw [List.append_assoc, HM.out] | rw [HM.out])
      clear hown hown' hgrow hbel
      obtain ⟨hown1, hbel1⟩ := hr
      go_wp2
      have hj := HJ2.out
      go_roundw
      case rel => exact ⟨k + 1, by omega, by go_num, hown1, hbel1, by omega⟩
      case measure => first | (simp [intOf]; done) | (simp [intOf]; omega)
    · obtain rfl : k = n := by omega
      have e : (k : Int) - 1 - k = -1 := by omega
      rw [e]
      clear e
      go_wp2
      go_ret
      rw [msb_all] at hown
      exact ⟨_, rfl, by rw [List.length_append, msb_length, List.map_append]; exact hown, hbel⟩
end putK
end Go.Proofs.Ytomkgnlooheibaa
