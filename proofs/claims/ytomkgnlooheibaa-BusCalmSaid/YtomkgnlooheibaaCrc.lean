/- crc.Sum: the sum of a list of bools, as a fold of one step. -/
import Derived.Test.YtomkgnlooheibaaPut
namespace Go.Proofs.Ytomkgnlooheibaa
open Go.RowKit Go.Bus Go.Bus.bitK
set_option linter.unusedVariables false
namespace crcK
set_option maxRecDepth 100000 in
set_option maxHeartbeats 1000000 in
theorem add_any (b : Nat) (r : Int) (bit : Bool) (w : World) (hr : 0 ≤ r) (hr' : r < 32768) (hc : w.cell? ⟨b, 0, none⟩ = some (.int .u16 r)) (hf : w.frozen? ⟨b, 0, none⟩ = false) :
    Calls Try.prog 59 #[.pointer (some ⟨b, 0, none⟩), .bool bit] w fun e w' => e = .returned (.tuple #[]) ∧ w' = w.setCell ⟨b, 0, none⟩ (.int .u16 (crcI r bit)) := by
  by_cases ht : (!((bits BinOp.and IntKind.u16 r 16384 != 0) == bit)) = true
  · have HT := Lib.hid ht
    go_enter Try.func59, Try.ntmps59
    go_wp2
    refine bodyPost_ret (results_none rfl _ _ _) rfl ⟨rfl, ?_⟩
    rw [crcI, if_pos HT.out]
  · have ht' : (!((bits BinOp.and IntKind.u16 r 16384 != 0) == bit)) = false := by simpa using ht
    clear ht
    have HT := Lib.hid ht'
    go_enter Try.func59, Try.ntmps59
    go_wp2
    go_end0
    refine ⟨rfl, ?_⟩
    rw [crcI, if_neg (by rw [HT.out]; simp)]

set_option maxRecDepth 100000 in
set_option maxHeartbeats 1000000 in
theorem sum_any (v : Value) (l : List Bool) (w : World) (h : Sl w w.heap.size Value.bool v l) :
    Calls Try.prog 48 #[v] w fun e w' => e = .returned (.int .u16 (crcS l)) ∧ Below w.heap.size w w' := by
  obtain ⟨A, cap, rfl, hcap, hmax⟩ := h.form
  have HL := Lib.hid h; clear h
  unfold maxLen at hmax
  go_enter Try.func48, Try.ntmps48
  go_wp2_with fail
  go_in
  go_wp2
  go_loopw [5, 9] (fun _ i wr => ∃ k : Nat, k ≤ l.length ∧ i = .int .i64 k ∧ wr = w.alloc (.cells #[.int .u16 (crcS (l.take k))] 141)) (fun _ i _ => l.length - (intOf i).toNat)
  case atStart => exact ⟨0, Nat.zero_le _, rfl, rfl⟩
  case round =>
    obtain ⟨k, hk, rfl, rfl⟩ := hrel
    by_cases hlt : k < l.length
    · obtain ⟨b, off, rfl, hb, hc⟩ := HL.out.at_ hlt
      have hs := crcS_snoc (l.take k) l[k]
      rw [← take_snoc l k hlt] at hs
      have HS := Lib.hid hs; clear hs
      have hbd := crcS_bd (l.take k)
      have HB := Lib.hid hbd; clear hbd
      go_wp2_with (go_at_call 59; refine (add_any _ _ _ _ HB.out.1 HB.out.2 (by simp) (by simp)).mono ?_; rintro e w' ⟨rfl, rfl⟩)
      go_roundw
      case rel =>
        rw [← HS.out]
        (repeat apply Exists.intro); exact ⟨⟨k + 1, by omega, by go_num, rfl⟩, rfl⟩
      case measure => first | (simp [intOf]; done) | (simp [intOf]; omega)
    · obtain rfl : k = l.length := by omega
      go_wp2
      go_ret
      exact ⟨ret_int (by simp), (Below.refl _ _).alloc (Nat.le_refl _) _⟩
end crcK
end Go.Proofs.Ytomkgnlooheibaa
