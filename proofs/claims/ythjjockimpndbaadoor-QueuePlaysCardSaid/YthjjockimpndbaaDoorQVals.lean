/- All's own function as an iterator: it hands out its list. No condition. -/
import Derived.Test.YthjjockimpndbaaDoorQAll
namespace Go.Proofs.YthjjockimpndbaaDoor
open Go.RowKit Go.Shelf Go.Bus Go.Bus.ringK
set_option linter.unusedVariables false
attribute [local go_sem] Oper.semAt_some
namespace qit
set_option maxRecDepth 100000 in
set_option maxHeartbeats 2000000 in
theorem vals1_in (n : Nat) (hn : 1 ≤ n) (l Bl n₀ : Nat) (v : Value) (L : List Int) (hlen : L.length ≤ 64) (J Jx : List Int → World → Prop)
    (hY : ∀ pre x W, J pre W → pre.length < L.length → YieldAt Fence.wide (n - 1) Tryd.prog l #[.int .i64 x] W fun e W' =>
      (e = .returned (.bool true) ∧ J (pre ++ [x]) W' ∧ Below n₀ W W') ∨ (e = .returned (.bool false) ∧ Jx (pre ++ [x]) W'))
    (W : World) (hb : W.cell? ⟨Bl, 0, none⟩ = some v) (hS : Sl W n₀ (Value.int .i64) v L) (h0 : J [] W) :
    CallsIn Fence.wide n Tryd.prog 78 #[.func (.yield l) #[] #[], .pointer (some ⟨Bl, 0, none⟩)] W fun e W' => (∃ v, e = .returned v) ∧
      ((∃ ys, ys = L ∧ J ys W') ∨ (∃ pre, pre <+: L ∧ Jx pre W')) := by
  obtain ⟨A, cap, rfl, hcap, hmax⟩ := hS.form
  unfold maxLen at hmax
  have HS := Lib.hid hS; clear hS
  refine callsIn_of_wp Tryd.func78 rfl trivial ?_ rfl
  simp only [Tryd.ntmps78, List.size_toArray, List.length_cons, List.length_nil, Nat.reduceAdd, Nat.reduceSub, Array.replicate_succ, Array.replicate_zero, List.push_toArray, List.append_toArray, List.nil_append, List.cons_append]
  gi_wp2
  gi_loopw [7] (fun i wr => ∃ k : Nat, k ≤ L.length ∧ i = .int .i64 k ∧ J (L.take k) wr ∧ Below n₀ W wr) (fun i _ => L.length - (intOf i).toNat)
  case atStart => exact ⟨0, Nat.zero_le _, rfl, h0, Below.refl _ _⟩
  case round =>
    obtain ⟨k, hk, rfl, hJk, hnx⟩ := hrel
    clear hb
    by_cases hlt : k < L.length
    · obtain ⟨b, off, rfl, hbb, hcx⟩ := (HS.out.below hnx).at_ hlt
      obtain ⟨x, hx⟩ : ∃ x, x = L[k] := ⟨_, rfl⟩
      rw [← hx] at hcx
      have HTK : Hid (L.take (k + 1) = L.take k ++ [x]) := by rw [hx]; exact Lib.hid (take_snoc L k hlt)
      clear hx
      obtain ⟨fn, tmps, assign, body, hy, hR⟩ := hY _ x wr hJk (by simp; omega)
      gi_wp2
      refine hR.mono ?_
      rintro e W3 (⟨rfl, hJ3, hk3⟩ | ⟨rfl, hJx3⟩)
      · have HJ3 := Lib.hid hJ3
        have HK3 := Lib.hid (hnx.trans hk3)
        clear hJ3 hk3 hnx
        gi_wp2
        go_roundw
        case rel => exact ⟨k + 1, by omega, by go_num, by rw [HTK.out]; exact HJ3.out, HK3.out⟩
        case measure => first | (simp [intOf]; done) | (simp [intOf]; omega)
      · have HX3 := Lib.hid hJx3
        clear hJx3
        gi_wp2
        refine bodyPost_ret (results_none rfl _ _ _) rfl ?_
        exact ⟨⟨_, rfl⟩, .inr ⟨_, by rw [← HTK.out]; exact List.take_prefix _ _, HX3.out⟩⟩
    · obtain rfl : k = L.length := by omega
      rw [List.take_length] at hJk
      gi_wp2
      go_end0
      exact ⟨⟨_, rfl⟩, .inl ⟨_, rfl, hJk⟩⟩

/-- It stops as SeqStopsK asks. -/
theorem vals_stops (n : Nat) (hn : 1 ≤ n) (Bl n₀ : Nat) (v : Value) (L : List Int) (hlen : L.length ≤ 64) (w : World) (hBl : Bl < w.heap.size) (hn₀ : n₀ ≤ w.heap.size)
    (hb : w.cell? ⟨Bl, 0, none⟩ = some v) (hS : Sl w n₀ (Value.int .i64) v L) :
    SeqStopsK Fence.wide n Tryd.prog 78 #[.pointer (some ⟨Bl, 0, none⟩)] (fun x : Int => #[Value.int .i64 x]) (Below n₀) (fun ys => ys = L) (fun pre => pre <+: L) L.length w := fun l J Jx W hW _ _ hY h0 =>
  vals1_in n hn l Bl n₀ v L hlen J Jx hY W ((hW.cell (p := ⟨Bl, 0, none⟩) hBl).trans hb) (hS.below (hW.mono hn₀)) h0
end qit
end Go.Proofs.YthjjockimpndbaaDoor
