/- frame's reader: take. (DRAFT, not built.) -/
import Derived.Test.YtomkgnlooheibaaBase
import Derived.Test.YtomkgnlooheibaaProg
import Derived.Test.YtomkgnlooheibaaDecLaw
import Derived.Deep.QuietTactic
import Derived.BigQuiet
namespace Go.Proofs.Ytomkgnlooheibaa
open Go.RowKit Go.Bus Go.Bus.bitK Go.Bus.numK Go.Bus.decK
set_option linter.unusedVariables false
namespace readW
theorem or_one {a : Nat} (h : a < 2 ^ 30) : bits BinOp.or IntKind.u32 ((a : Int) * 2) 1 = ((2 * a + 1 : Nat) : Int) := by
  have e : (2 ^ 30 : Nat) = 1073741824 := by decide
  rw [u32_or _ _ (by omega) (by omega) (by omega) (by omega)]
  have h1 : ((a : Int) * 2).toNat = 2 * a := by omega
  rw [h1, show (1 : Int).toNat = 1 from rfl]
  have h2 : 2 * a ||| 1 = 2 * a + 1 := by
    have := Nat.two_pow_add_eq_or_of_lt (i := 1) (b := 1) (by decide) a
    simpa [Nat.mul_comm] using this.symm
  rw [h2]
set_option maxRecDepth 100000 in
set_option maxHeartbeats 1000000 in
theorem take_any (b at_ n : Nat) (lv : Value) (m : List Bool) (w : World) (hs : Sl w w.heap.size Value.bool lv m) (h0 : w.cell? ⟨b, 0, none⟩ = some lv) (h1 : w.cell? ⟨b, 1, none⟩ = some (.int .i64 at_)) (hf : w.frozen? ⟨b, 1, none⟩ = false)
    (hb : b < w.heap.size) (hn : at_ + n ≤ m.length) (h30 : n ≤ 30) (h1n : 0 < n) :
    Calls Try.prog 51 #[.pointer (some ⟨b, 0, none⟩), .int .i64 n] w fun e w' => e = .returned (.int .u32 (nb m at_ n)) ∧ ∃ q, w' = (w.drewN q).setCell ⟨b, 1, none⟩ (.int .i64 (at_ + n)) := by
  obtain ⟨A, cap, rfl, hcap, hmax⟩ := hs.form
  obtain ⟨bb, off, rfl, hbb, hc00⟩ := hs.at_ (show 0 < m.length by omega)
  clear hc00
  have HS := Lib.hid hs; clear hs
  unfold maxLen at hmax
  have hne : ¬ cap = at_ := by omega
  go_enter Try.func51, Try.ntmps51
  go_wp2
  go_quiet (fail)
  go_wp2
  go_loopw [5, 7, 24] (fun v _ i wr => ∃ k q : Nat, k ≤ n ∧ v = .int .u32 (numF ((seg m at_ n).take k) : Nat) ∧ i = .int .i64 k ∧ wr = w.drewN q) (fun _ _ i _ => n - (intOf i).toNat)
  case atStart => exact ⟨0, _, Nat.zero_le _, rfl, rfl, rfl⟩
  case round =>
    obtain ⟨k, q, hk, rfl, rfl, rfl⟩ := hrel
    have hsl : (seg m at_ n).length = n := seg_length hn
    by_cases hlt : k < n
    · obtain ⟨b2, o2, e2, hb2, hc2⟩ := HS.out.at_ (show at_ + k < m.length by omega)
      have hx : (seg m at_ n)[k]'(by omega) = m[at_ + k] := by simp [seg]
      have hnum : numF ((seg m at_ n).take (k + 1)) = stepNum (numF ((seg m at_ n).take k)) m[at_ + k] := by
        rw [List.take_succ_eq_append_getElem (by omega), num_snoc, hx]
      obtain ⟨rfl, rfl⟩ : bb = b2 ∧ off = o2 := by simpa using e2
      have hc : w.cell? ⟨bb, off + at_ + k, none⟩ = some (.bool m[at_ + k]) := by rw [Nat.add_assoc]; exact hc2
      have hlt2 := num_lt ((seg m at_ n).take k)
      have hk2 : ((seg m at_ n).take k).length = k := by rw [List.length_take]; omega
      have hpw : 2 ^ k ≤ 2 ^ 29 := Nat.pow_le_pow_right (by decide) (by omega)
      have e29 : (2 ^ 29 : Nat) = 536870912 := by decide
      rw [hk2] at hlt2
      have hN : numF ((seg m at_ n).take k) < 536870912 := by omega
      have HN := Lib.hid hnum
      clear hnum hx hc2 hlt2 hk2 hpw e29 e2
      generalize numF ((seg m at_ n).take k) = N at *
      generalize m[at_ + k] = x1 at *
      have hor := or_one (a := N) (by have : (2 ^ 30 : Nat) = 1073741824 := by decide
                                      omega)
      cases x1
      all_goals
        go_wp2
        go_roundw
      all_goals first
        | exact ⟨k + 1, _, by omega, by rw [HN.out]; simp [stepNum]; try omega, by go_num, rfl⟩
        | (simp [intOf]; done)
        | (simp [intOf]; omega)
    · obtain rfl : k = n := by omega
      rw [List.take_of_length_le (by omega)]
      go_wp2
      go_ret
      exact ⟨rfl, _, rfl⟩
end readW
end Go.Proofs.Ytomkgnlooheibaa
