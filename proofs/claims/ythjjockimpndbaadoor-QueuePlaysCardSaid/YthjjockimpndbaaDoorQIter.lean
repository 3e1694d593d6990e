/- The iterators of queue.Queue[int]: now and All by their contracts. No condition. -/
import Derived.RangeFuncNested
import Derived.RangeFuncBound
import Derived.RangeFuncCalls
import Derived.RangeFuncLeaves
import Derived.RangeFuncBox
import Derived.Shelf.Abstract
import Derived.Shelf.RegionOpen
import Derived.OwnWalkIn
import Derived.TacticsInMore
import Derived.LoopNIn
import Derived.LoopIn
import Derived.Maps.AppendAt
import Derived.Test.YthjjockimpndbaaDoorQueueInt
namespace Go.Proofs.YthjjockimpndbaaDoor
open Go.RowKit Go.Shelf Go.Bus Go.Bus.ringK
set_option linter.unusedVariables false
attribute [local go_sem] Oper.semAt_some
namespace qit
abbrev RingS := qint.RingS
/-- What a round keeps: what lay below n₀, and the receiver's box. -/
def KQ (n₀ Bq : Nat) (W W' : World) : Prop := Below n₀ W W' ∧ ∀ cs, Has W Bq 26 cs → Has W' Bq 26 cs
theorem KQ.trans {n₀ Bq : Nat} {A B C : World} (h : KQ n₀ Bq A B) (h' : KQ n₀ Bq B C) : KQ n₀ Bq A C := ⟨h.1.trans h'.1, fun cs hc => h'.2 cs (h.2 cs hc)⟩
theorem KQ.refl (n₀ Bq : Nat) (A : World) : KQ n₀ Bq A A := ⟨Below.refl _ _, fun _ h => h⟩
theorem KQ.put {n₀ Bq : Nat} {w : World} (hn : n₀ ≤ w.heap.size) (W : World) (l : Nat) (o o' : Obj) (hl : w.heap.size ≤ l) (h : W.heap[l]? = some o) (hc : o.isCells = false) (hw : o.isWalk = false) : KQ n₀ Bq W (W.putObj l o') := by
  refine ⟨belowK_b hn W l o o' hl h hc hw, fun cs hs => ?_⟩
  · have hne : Bq ≠ l := by
      intro e
      subst e
      unfold Has at hs
      rw [hs] at h
      cases h
      cases hc
    exact (World.putObj_heap_other (fun e => hne (by first | exact e | exact e.symm))).trans hs

set_option maxRecDepth 100000 in
set_option maxHeartbeats 1000000 in
theorem now_in (n : Nat) (q : Option Addr) (w : World) :
    CallsIn Fence.wide n Tryd.prog 77 #[.pointer q] w fun e w' => e = .returned (.func (.func 97) #[] #[.pointer (some ⟨w.heap.size, 0, none⟩)]) ∧ w' = w.alloc (.cells #[.pointer q] 26) := by
  refine callsIn_of_wp Tryd.func77 rfl trivial ?_ rfl
  simp only [Tryd.ntmps77, List.size_toArray, List.length_cons, List.length_nil, Nat.reduceAdd, Nat.reduceSub, Array.replicate_succ, Array.replicate_zero, List.push_toArray, List.append_toArray, List.nil_append, List.cons_append]
  gi_wp2
  go_ret
  exact ⟨rfl, rfl⟩

set_option maxRecDepth 100000 in
set_option maxHeartbeats 2000000 in
theorem now1_in (n : Nat) (hn : 1 ≤ n) (l Bq n₀ q g room from_ : Nat) (L : List Int) (hr : room ≤ 64) (hq : q < n₀) (hg : g < n₀) (J Jx : List Int → World → Prop)
    (hY : ∀ pre x W, J pre W → pre.length < L.length → YieldAt Fence.wide (n - 1) Tryd.prog l #[.int .i64 x] W fun e W' =>
      (e = .returned (.bool true) ∧ J (pre ++ [x]) W' ∧ KQ n₀ Bq W W') ∨ (e = .returned (.bool false) ∧ Jx (pre ++ [x]) W'))
    (hJ : ∀ pre W k, J pre W → J pre (W.drewN k))
    (W : World) (hb : Has W Bq 26 #[.pointer (some ⟨q, 0, none⟩)]) (hR : RingS W q g room from_ L) (h0 : J [] W) :
    CallsIn Fence.wide n Tryd.prog 97 #[.func (.yield l) #[] #[], .pointer (some ⟨Bq, 0, none⟩)] W fun e W' => (∃ v, e = .returned v) ∧
      ((∃ ys, ys = L ∧ J ys W') ∨ (∃ pre, pre <+: L ∧ Jx pre W')) := by
  obtain ⟨c0, c1, c2, fq, fg, cg⟩ := hR.cells
  have HR := Lib.hid hR
  have cb : W.cell? ⟨Bq, 0, none⟩ = some (.pointer (some ⟨q, 0, none⟩)) := hb.cell 0
  have HBX := Lib.hid hb; clear hb
  refine callsIn_of_wp Tryd.func97 rfl trivial ?_ rfl
  simp only [Tryd.ntmps97, List.size_toArray, List.length_cons, List.length_nil, Nat.reduceAdd, Nat.reduceSub, Array.replicate_succ, Array.replicate_zero, List.push_toArray, List.append_toArray, List.nil_append, List.cons_append]
  gi_wp2
  gi_loopw [8] (fun i wr => ∃ k : Nat, k ≤ L.length ∧ i = .int .i64 k ∧ J (L.take k) wr ∧ KQ n₀ Bq W wr) (fun i _ => L.length - (intOf i).toNat)
  case atStart => exact ⟨0, Nat.zero_le _, rfl, h0, KQ.refl _ _ _⟩
  case round =>
    obtain ⟨k, hk, rfl, hJk, hnx⟩ := hrel
    clear c0 c1 c2 fq fg cg cb
    have hRr : RingS wr q g room from_ L := HR.out.below hnx.1 hq hg
    obtain ⟨c0, c1, c2, fq, fg, cg⟩ := hRr.cells
    have hbr : wr.cell? ⟨Bq, 0, none⟩ = some (.pointer (some ⟨q, 0, none⟩)) := (hnx.2 _ HBX.out).cell 0
    by_cases hlt : k < L.length
    · obtain ⟨x, hx⟩ : ∃ x, x = L[k] := ⟨_, rfl⟩
      have hcx := hRr.at_ hlt
      rw [← hx] at hcx
      have HTK : Hid (L.take (k + 1) = L.take k ++ [x]) := by rw [hx]; exact Lib.hid (take_snoc L k hlt)
      have hY1 : ∀ m, YieldAt Fence.wide (n - 1) Tryd.prog l #[.int .i64 x] (wr.drewN m) fun e W' => (e = .returned (.bool true) ∧ J (L.take k ++ [x]) W' ∧ KQ n₀ Bq (wr.drewN m) W') ∨ (e = .returned (.bool false) ∧ Jx (L.take k ++ [x]) W') :=
        fun m => hY _ x _ (hJ _ _ m hJk) (by simp; omega)
      obtain ⟨fn, hY2⟩ := Classical.axiomOfChoice hY1
      obtain ⟨tmps, hY3⟩ := Classical.axiomOfChoice hY2
      obtain ⟨assign, hY4⟩ := Classical.axiomOfChoice hY3
      obtain ⟨body, hY5⟩ := Classical.axiomOfChoice hY4
      have hy := fun m => (hY5 m).1
      have HRD := Lib.hid (fun m => ((hY5 m).2.mono (R' := fun e W' => ∃ b : Bool, e = .returned (.bool b) ∧ Hid ((b = true → J (L.take k ++ [x]) W' ∧ KQ n₀ Bq (wr.drewN m) W') ∧ (b = false → Jx (L.take k ++ [x]) W'))) (by
        rintro e W' (⟨rfl, h1, h2⟩ | ⟨rfl, h1⟩)
        · exact ⟨true, rfl, Lib.hid ⟨fun _ => ⟨h1, h2⟩, fun h => (by cases h)⟩⟩
        · exact ⟨false, rfl, Lib.hid ⟨fun h => (by cases h), fun _ => h1⟩⟩)))
      have HRr := Lib.hid hRr
      have hfr := hRr.hfrom
      have hll := hRr.hlen
      have HJK := Lib.hid hJk
      have hp := place_lt hfr (show k ≤ room by omega)
      clear hY1 hY2 hY3 hY4 hY5 hRr hx cg fq fg hJk
      have hmx : Tryd.prog.follows .mixedOrders = true := by kernel_rfl
      gi_wp2
      gi_region_with_o (first
        | (refine ⟨trivial, ?_⟩; gi_at_call 37; refine (callsIn_wide.2 (qint.at_any (c := (L.length : Int)) (by exact HRr.out.struct_) hfr k (by omega) hr)).mono ?_; rintro e w' ⟨rfl, m, rfl⟩)
        | (refine (HRD.out _).mono ?_; rintro e W3 ⟨b3, rfl, HB3⟩))
      all_goals
        cases b3
        · have hx3 := HB3.out.2 (by first | rfl | trivial)
          have HX3 := Lib.hid hx3
          clear hx3
          gi_wp2
          refine bodyPost_ret (results_none rfl _ _ _) rfl ?_
          exact ⟨⟨_, rfl⟩, .inr ⟨_, by rw [← HTK.out]; exact List.take_prefix _ _, HX3.out⟩⟩
        · obtain ⟨hJ3, hk3⟩ := HB3.out.1 (by first | rfl | trivial)
          have HJ3 := Lib.hid hJ3
          have HK3 := Lib.hid (hnx.trans (B := _) ⟨⟨hk3.1.os, hk3.1.tape, hk3.1.output, hk3.1.size, hk3.1.block⟩, fun cs hc => hk3.2 cs hc⟩)
          clear hJ3 hk3
          gi_wp2
          go_roundw
          case rel => exact ⟨k + 1, by omega, by go_num, by rw [HTK.out]; exact HJ3.out, HK3.out⟩
          case measure => first | (simp [intOf]; done) | (simp [intOf]; omega)
    · obtain rfl : k = L.length := by omega
      rw [List.take_length] at hJk
      gi_wp2
      go_end0
      exact ⟨⟨_, rfl⟩, .inl ⟨_, rfl, hJk⟩⟩

/-- now hands back a value that stops as SeqStopsK asks. -/
theorem now_stops (n : Nat) (hn : 1 ≤ n) (Bq n₀ q g room from_ : Nat) (L : List Int) (hr : room ≤ 64) (hq : q < n₀) (hg : g < n₀) (w : World) (hn₀ : n₀ ≤ w.heap.size)
    (hb : Has w Bq 26 #[.pointer (some ⟨q, 0, none⟩)]) (hR : RingS w q g room from_ L) :
    SeqStopsK Fence.wide n Tryd.prog 97 #[.pointer (some ⟨Bq, 0, none⟩)] (fun x : Int => #[Value.int .i64 x]) (KQ n₀ Bq) (fun ys => ys = L) (fun pre => pre <+: L) L.length w := fun l J Jx W hW hJ _ hY h0 =>
  now1_in n hn l Bq n₀ q g room from_ L hr hq hg J Jx hY (fun pre W k h => hJ pre W (W.drewN k) none h ⟨rfl, rfl, rfl, Nat.le_refl _, fun _ _ _ => rfl⟩ (fun r e => by cases e)) W (hb.below hW hb.lt) (hR.below (hW.mono hn₀) hq hg) h0
end qit
end Go.Proofs.YthjjockimpndbaaDoor
