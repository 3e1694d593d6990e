/- asked (busbarlaw23): Peek, Len and All of a row. No condition. -/
import Derived.Test.YthjjockimpndbaaDoorAskedOut
import Derived.Test.YthjjockimpndbaaDoorRefQueue
import Derived.Test.YthjjockimpndbaaDoorQVals
import Derived.Test.YthjjockimpndbaaDoorSameInts
import Derived.RangeFuncWrites
import Derived.Deep.QuietTactic
import Derived.BigQuiet
import Derived.StillTailTactics
namespace Go.Proofs.YthjjockimpndbaaDoor
open Go.RowKit Go.Shelf Go.Bus Go.Bus.ringK
set_option linter.unusedVariables false
attribute [local go_sem] Oper.semAt_some
namespace askedK
set_option maxRecDepth 100000 in
set_option maxHeartbeats 1000000 in
theorem len_any {w : World} {q g room from_ : Nat} {L : List Int} (h : qint.RingS w q g room from_ L) :
    Calls Tryd.prog 40 #[.pointer (some ⟨q, 0, none⟩)] w fun e w' => e = .returned (.int .i64 (L.length : Nat)) ∧ w = w' := by
  obtain ⟨c0, c1, c2, fq, fg, cg⟩ := h.cells
  clear h cg fq fg
  go_enter Tryd.func40, Tryd.ntmps40
  go_wp2
  go_ret
  exact ⟨rfl, rfl⟩
/-- What asked holds between two statements: its boxes, the two rows, All's list. -/
structure Env (w W : World) (rq : Nat) (room : Int) (left : Int) (Bl : Nat) (v v4 : Value) (L : List Int) : Prop where
  b0 : Has W w.heap.size 23 #[.pointer (some ⟨rq, 0, none⟩)]
  b1 : Has W (w.heap.size + 1) 3 #[.int .i64 left]
  b2 : Has W (w.heap.size + 2) 4 #[.bool false]
  s : Has W rq 72 #[.int .i64 room, v]
  l : Sl W W.heap.size (Value.int .i64) v L
  c : W.cell? ⟨Bl, 0, none⟩ = some v4
  l4 : Sl W W.heap.size (Value.int .i64) v4 L
  below : Below w.heap.size w W
  bl : Bl < W.heap.size
theorem Env.next {w W W' : World} {rq : Nat} {room left : Int} {Bl : Nat} {v v4 : Value} {L : List Int} (h : Env w W rq room left Bl v v4 L) (hb : Below W.heap.size W W') : Env w W' rq room left Bl v v4 L :=
  ⟨h.b0.below hb h.b0.lt, h.b1.below hb h.b1.lt, h.b2.below hb h.b2.lt, h.s.below hb h.s.lt, h.l.at_below hb, (hb.cell (p := ⟨Bl, 0, none⟩) h.bl).trans h.c, h.l4.at_below hb, h.below.trans (hb.mono h.below.size), Nat.lt_of_lt_of_le h.bl hb.size⟩
theorem cell_lt {w : World} {b o : Nat} {v : Value} (h : w.cell? ⟨b, o, none⟩ = some v) : b < w.heap.size := by
  rcases Nat.lt_or_ge b w.heap.size with h1 | h1
  · exact h1
  · unfold World.cell? at h
    simp [Array.getElem?_eq_none h1] at h
theorem heap_lt {w : World} {b : Nat} {o : Obj} (h : w.heap[b]? = some o) : b < w.heap.size := by
  rcases Nat.lt_or_ge b w.heap.size with h1 | h1
  · exact h1
  · rw [Array.getElem?_eq_none h1] at h; cases h
theorem below_alloc_refl (w : World) (o : Obj) : Below w.heap.size w (w.alloc o) := (Below.refl _ w).alloc (Nat.le_refl _) _
theorem peek_pos {w : World} {q g room from_ : Nat} {y : Int} {L : List Int} (h : qint.RingS w q g room from_ L) (hr : room ≤ 64) (h0 : L[0]? = some y) :
    Calls Tryd.prog 39 #[.pointer (some ⟨q, 0, none⟩)] w fun e w' => e = .returned (.tuple #[.int .i64 y, .bool true]) ∧ ∃ n, w' = w.drewN n := by
  cases L with
  | nil => simp at h0
  | cons x L => simp at h0; subst h0; exact qint.peek_one h hr
theorem peek_neg {w : World} {q g room from_ : Nat} {L : List Int} (h : qint.RingS w q g room from_ L) (h0 : ¬ 0 < L.length) :
    Calls Tryd.prog 39 #[.pointer (some ⟨q, 0, none⟩)] w fun e w' => e = .returned (.tuple #[.int .i64 0, .bool false]) ∧ ∃ n, w' = w.drewN n := by
  cases L with
  | nil => exact qint.peek_none h
  | cons x L => simp at h0

set_option maxRecDepth 100000 in
set_option maxHeartbeats 8000000 in
theorem asked_in (n : Nat) (hn : 5 ≤ n) (q g room from_ rq : Nat) (v : Value) (L : List Int) (left : Int) (hr : room ≤ 64) (w : World) (hR : qint.RingS w q g room from_ L)
    (hS : Has w rq 72 #[.int .i64 (room : Int), v]) (hrow : Sl w w.heap.size (Value.int .i64) v L) :
    CallsIn Fence.wide n Tryd.prog 15 #[.pointer (some ⟨q, 0, none⟩), .pointer (some ⟨rq, 0, none⟩), .int .i64 left] w fun e w' => e = .returned (.bool true) ∧ Below w.heap.size w w' := by
  obtain ⟨A, cap, rfl, hcap, hmax⟩ := hrow.form
  unfold maxLen at hmax
  obtain ⟨i0, hi, hz0, hz1, hz2⟩ := info_parts qit.infoI
  obtain ⟨hlq, hlg⟩ := hR.lt
  have hlr := hS.lt
  have hll := hR.hlen
  have HR := Lib.hid hR
  have HS := Lib.hid hS
  have HW := Lib.hid hrow
  clear hR hS hrow
  have h1 : 1 ≤ n := by omega
  have hmx : Tryd.prog.follows .mixedOrders = true := by kernel_rfl
  have hfn : ∀ (W : World) (Bl : Nat), (binOp BinOp.eql 86 (.func (.func 78) #[] #[.pointer (some ⟨Bl, 0, none⟩)]) .nilFunc).run Tryd.prog W = .ok (.bool false) W := fun _ _ => rfl
  refine callsIn_of_wp_marks Tryd.func15 rfl trivial ?_ rfl
  simp only [Tryd.ntmps15, List.size_toArray, List.length_cons, List.length_nil, Nat.reduceAdd, Nat.reduceSub, Array.replicate_succ, Array.replicate_zero, List.push_toArray, List.append_toArray, List.nil_append, List.cons_append]
  obtain ⟨W3, hW3⟩ : ∃ W3, W3 = ((w.alloc (.cells #[.pointer (some ⟨rq, 0, none⟩)] 23)).alloc (.cells #[.int .i64 left] 3)).alloc (.cells #[.bool false] 4) := ⟨_, rfl⟩
  have hB3 : Below w.heap.size w W3 := by rw [hW3]; exact (by repeat (first | exact Below.refl _ _ | assumption | refine Below.drew ?_ | refine below_drewN ?_ _ | (refine Below.alloc ?_ (by (try simp); (try omega)) _) | (refine Below.setCell ?_ (by (try simp); (try omega)) _)))
  have hz3 : W3.heap.size = w.heap.size + 3 := by rw [hW3]; simp
  have hx0 : Has W3 w.heap.size 23 #[.pointer (some ⟨rq, 0, none⟩)] := by rw [hW3]; exact ((Has.new w _ _).alloc _).alloc _
  have hx1 : Has W3 (w.heap.size + 1) 3 #[.int .i64 left] := by rw [hW3]; have := (Has.new (w.alloc (.cells #[.pointer (some ⟨rq, 0, none⟩)] 23)) 3 #[.int .i64 left]).alloc (.cells #[.bool false] 4); rwa [World.size_alloc] at this
  have hx2 : Has W3 (w.heap.size + 2) 4 #[.bool false] := by rw [hW3]; have := Has.new ((w.alloc (.cells #[.pointer (some ⟨rq, 0, none⟩)] 23)).alloc (.cells #[.int .i64 left] 3)) 4 #[.bool false]; rwa [World.size_alloc, World.size_alloc] at this
  have HB3 := Lib.hid hB3
  have HX := Lib.hid (And.intro hx0 (And.intro hx1 hx2))
  have HW3 := Lib.hid hW3
  have hz3' : w.heap.size + 3 ≤ W3.heap.size := by omega
  have hwW : w.heap.size ≤ W3.heap.size := by omega
  clear hW3 hB3 hx0 hx1 hx2 hz3
  have hhead : (∃ y b off, L[0]? = some y ∧ 0 < L.length ∧ A = some ⟨b, off, none⟩ ∧ b < w.heap.size ∧ w.cell? ⟨b, off + 0, none⟩ = some (.int .i64 y)) ∨ ¬ 0 < L.length := by
    by_cases h0 : 0 < L.length
    · obtain ⟨b, off, he, hb, hc⟩ := HW.out.at_ h0
      exact .inl ⟨L[0], b, off, List.getElem?_eq_getElem h0, h0, he, hb, hc⟩
    · exact .inr h0
  rcases hhead with ⟨y, b, off, hy0, hpos, rfl, hb, hcy⟩ | hneg
  · have HY := Lib.hid hy0
    clear hy0
    gi_wp2_with (refine ⟨trivial, ?_⟩; rw [← HW3.out]; gi_at_call 39; refine (callsIn_wide.2 (peek_pos (HR.out.below HB3.out hlq hlg) hr HY.out)).mono ?_; rintro e w5 ⟨rfl, m5, hw5⟩; have HW5 := Lib.hid hw5; clear hw5)
    have hw5 := HW5.out
    clear HW5
    have hB5 : Below w.heap.size w w5 := by rw [hw5]; exact below_drewN HB3.out _
    have hz5 : w.heap.size + 3 ≤ w5.heap.size := by rw [hw5]; exact hz3'
    obtain ⟨hx0, hx1, hx2⟩ : Has w5 w.heap.size 23 #[.pointer (some ⟨rq, 0, none⟩)] ∧ Has w5 (w.heap.size + 1) 3 #[.int .i64 left] ∧ Has w5 (w.heap.size + 2) 4 #[.bool false] := by rw [hw5]; exact HX.out
    clear hw5 HX HB3 HW3 hz3' hwW
    have HR5 := Lib.hid (HR.out.below hB5 hlq hlg)
    have hs5 := HS.out.below hB5 hlr
    have cr := hx0.cell 0
    have cs1 := hs5.cell 1
    have hw5' := (HW.out.below hB5).more (show w.heap.size ≤ w5.heap.size by omega)
    simp only [List.getElem?_toArray, List.getElem?_cons_zero, List.getElem?_cons_succ] at cr cs1
    have cy := (hB5.cell (p := ⟨b, off + 0, none⟩) hb).trans hcy
    rw [Nat.add_zero] at cy
    have HX5 := Lib.hid (And.intro hx0 (And.intro hx1 hx2))
    have HS5 := Lib.hid hs5
    have HW5 := Lib.hid hw5'
    have HB5 := Lib.hid hB5
    have hp2 : (0 : Int) < L.length := by omega
    clear hx0 hx1 hx2 hs5 hw5' hB5 hcy
    refine wpIn_wide.2 ?_
    go_quiet (first
      | (go_at_call 40; refine Calls.quiet_of_same ((len_any (g := g) (room := room) (from_ := from_) (L := L) (by exact HR5.out.drewN _)).mono fun e w' h => ⟨h.1, h.2.symm⟩)))
    gi_wp2_with (refine ⟨trivial, ?_⟩; gi_at_call 41; refine (qit.all_in (n - 1) (by omega) q g room from_ L hr _ (by exact HR5.out.drewN _)).mono ?_; rintro e W6 ⟨Bl, v4, rfl, hBl, hc4, ho4, hb4⟩)
    have hb5 : Below w5.heap.size w5 W6 := Below.trans (b := _) (by exact below_drewN (Below.refl _ w5) nq) (by exact hb4)
    have hE6 := Lib.hid (Env.mk (w := w) (W := W6) (rq := rq) (room := room) (left := left) (Bl := Bl) (v := .slice (some ⟨b, off, none⟩) L.length cap) (v4 := v4) (L := L)
      (HX5.out.1.below hb5 HX5.out.1.lt) (HX5.out.2.1.below hb5 HX5.out.2.1.lt) (HX5.out.2.2.below hb5 HX5.out.2.2.lt) (HS5.out.below hb5 HS5.out.lt) (HW5.out.at_below hb5) hc4 (Sl.of_own ho4) (HB5.out.trans (hb5.mono HB5.out.size)) (cell_lt hc4))
    have hbl6 := hE6.out.bl
    have hL64 : L.length ≤ 64 := by omega
    clear hBl hc4 ho4 hb4 hb5 HX5 HS5 HW5 HB5 HR5 HR HS HW cr cs1
    gi_wp2
    refine wpIn_loop_rounds 3 ?_
    rw [roundsIn_succ]
    gi_wp2
    have bO := Boxed.new W6 70 (.slice none 0 0)
    refine' wpIn_rangeFunc_ownG rfl h1 (gf := 78) (lb := #[.pointer (some ⟨Bl, 0, none⟩)]) rfl trivial (enters_of Tryd.func78 (by kernel_rfl) rfl)
      (qit.vals_stops (n - 1) (by omega) Bl W6.heap.size v4 L hL64 _ (by simp; omega) (by simp) (((below_alloc_refl W6 _).cell (p := ⟨Bl, 0, none⟩) hE6.out.bl).trans hE6.out.c) (hE6.out.l4.below (below_alloc_refl W6 _))) belowK_t (belowK_b (by simp)) (Below.refl _ _) (fun _ => rfl)
      (fun pre W => (∃ v, Boxed W W6.heap.size 70 v ∧ W.ownsRow W6.heap.size 3 1 v pre.length (pre.map (Value.int .i64)) ∧ True) ∧ Below W6.heap.size W6 W)
      (fun _ _ _ => False)
      (OwnFrom.and (Own.from (holdsRow_own W6.heap.size W6.heap.size 70 3 1 (fun pre : List Int => pre.length) (fun pre => pre.map (Value.int .i64)) (fun pre v => True)) _) (ownFrom_below (Nat.le_refl _) (by simp)))
      (fun _ _ _ _ _ hs _ _ => hs)
      ⟨⟨_, bO, World.ownsRow_nil _ _ _ _, trivial⟩, below_alloc_refl _ _⟩
      _ ?assignA ?bodyA ?doneA ?stopA
    case assignA =>
      intro l5 x W K hK
      gi_wp2
      exact hK
    case bodyA =>
      rintro l5 pre x W ⟨⟨v5, hv, hrow, _⟩, hBW⟩ hlt5
      have hc := hv.cell
      gi_wp2_with (gi_at_builtin; refine wpListIn_append_own _ rfl _ _ 70 rfl W6.heap.size 3 i0 (.int .i64 0) 1 8 Tryd.underlying70 hi hz0 hz1 hz2 rfl (by decide) _ _ _ rfl (hrow.alloc _) ⟨W.heap.size, 0, none⟩ 1 1 [.int .i64 x] rfl rfl (cell_one_new _ _ _) (by simp [Value.oneCell']) (by unfold maxLen; omega) (by omega) (by have := hBW.size; simp; omega) ?_; intro v' w7 hown' hgrow _; obtain ⟨g', cap', rfl⟩ := ownsRow_succ hown'; obtain ⟨hv1, hv2, hr2, hkk2, hbb2⟩ := hv.appended (by decide) hrow hBW.size (Nat.le_refl _) hown' hgrow; have hc1 := hv1.cell; have hf1 := hv1.frozen)
      exact ⟨hkk2.from _, hbb2, ⟨_, hv2, by simpa using hr2, trivial⟩, hBW.trans hbb2⟩
    case stopA =>
      rintro D c pre W _ _ h _
      exact h.elim
    rintro D6 ys W7 hD6 hys ⟨⟨v5, hv, hrow, _⟩, hBW⟩ hK6
    rw [show ys = L from hys] at hrow
    have hE7 := Lib.hid (hE6.out.next hBW)
    have hcl := hv.cell
    have hbl7 := hE7.out.bl
    have hcr := hE7.out.b0.cell 0
    have hcs := hE7.out.s.cell 1
    simp only [List.getElem?_toArray, List.getElem?_cons_zero, List.getElem?_cons_succ] at hcr hcs
    have HSg := Lib.hid (Sl.of_own hrow)
    clear hv hrow hBW bO
    gi_wp2
    refine wpIn_wide.2 ?_
    go_quiet (first
      | (go_at_call 42; refine Calls.quiet_of ((sameI.ints_any _ _ L L _ W7.heap.size (by exact HSg.out) (by exact hE7.out.l)).mono fun e w' h => ⟨h.1, h.2⟩)))
    clear hcl hcr hcs HSg
    rw [show decide (L = L) = true by simp]
    gi_wp2
    obtain ⟨W8, hW8⟩ : ∃ W8, W8 = W7.drewN nq := ⟨_, rfl⟩
    rw [← hW8]
    have hE8 : Hid (Env w W8 rq room left Bl (.slice (some ⟨b, off, none⟩) L.length cap) v4 L) := by
      rw [hW8]; exact Lib.hid (hE7.out.next (below_drewN (Below.refl _ _) _))
    have hK6a : W8.heap[D6]? = some (.deferred (some [])) := by rw [hW8]; exact hK6
    have hlt6 := heap_lt hK6a
    have hbz8 := hE8.out.below.size
    have hbz6 := hE6.out.below.size
    have hb6 : w.heap.size ≤ D6 := by simp at hD6; omega
    clear hW8 hK6 hE7 nq
    have hbl8 := hE8.out.bl
    rw [roundsIn_succ]
    gi_wp2
    have bO := Boxed.new W8 70 (.slice none 0 0)
    refine' wpIn_rangeFunc_ownG rfl h1 (gf := 78) (lb := #[.pointer (some ⟨Bl, 0, none⟩)]) rfl trivial (enters_of Tryd.func78 (by kernel_rfl) rfl)
      (qit.vals_stops (n - 1) (by omega) Bl W8.heap.size v4 L hL64 _ (by simp; omega) (by simp) (((below_alloc_refl W8 _).cell (p := ⟨Bl, 0, none⟩) hE8.out.bl).trans hE8.out.c) (hE8.out.l4.below (below_alloc_refl W8 _))) belowK_t (belowK_b (by simp)) (Below.refl _ _) (fun _ => rfl)
      (fun pre W => (∃ v, Boxed W W8.heap.size 70 v ∧ W.ownsRow W8.heap.size 3 1 v pre.length (pre.map (Value.int .i64)) ∧ True) ∧ Below W8.heap.size W8 W)
      (fun _ _ _ => False)
      (OwnFrom.and (Own.from (holdsRow_own W8.heap.size W8.heap.size 70 3 1 (fun pre : List Int => pre.length) (fun pre => pre.map (Value.int .i64)) (fun pre v => True)) _) (ownFrom_below (Nat.le_refl _) (by simp)))
      (fun _ _ _ _ _ hs _ _ => hs)
      ⟨⟨_, bO, World.ownsRow_nil _ _ _ _, trivial⟩, below_alloc_refl _ _⟩
      _ ?assignB ?bodyB ?doneB ?stopB
    case assignB =>
      intro l5 x W K hK
      gi_wp2
      exact hK
    case bodyB =>
      rintro l5 pre x W ⟨⟨v5, hv, hrow, _⟩, hBW⟩ hlt5
      have hc := hv.cell
      gi_wp2_with (gi_at_builtin; refine wpListIn_append_own _ rfl _ _ 70 rfl W8.heap.size 3 i0 (.int .i64 0) 1 8 Tryd.underlying70 hi hz0 hz1 hz2 rfl (by decide) _ _ _ rfl (hrow.alloc _) ⟨W.heap.size, 0, none⟩ 1 1 [.int .i64 x] rfl rfl (cell_one_new _ _ _) (by simp [Value.oneCell']) (by unfold maxLen; omega) (by omega) (by have := hBW.size; simp; omega) ?_; intro v' w7 hown' hgrow _; obtain ⟨g', cap', rfl⟩ := ownsRow_succ hown'; obtain ⟨hv1, hv2, hr2, hkk2, hbb2⟩ := hv.appended (by decide) hrow hBW.size (Nat.le_refl _) hown' hgrow; have hc1 := hv1.cell; have hf1 := hv1.frozen)
      exact ⟨hkk2.from _, hbb2, ⟨_, hv2, by simpa using hr2, trivial⟩, hBW.trans hbb2⟩
    case stopB =>
      rintro D c pre W _ _ h _
      exact h.elim
    rintro D8 ys W9 hD8 hys ⟨⟨v5, hv, hrow, _⟩, hBW⟩ hK8
    rw [show ys = L from hys] at hrow
    have hE9 := Lib.hid (hE8.out.next hBW)
    have hcl := hv.cell
    have hbl9 := hE9.out.bl
    have hcr := hE9.out.b0.cell 0
    have hcs := hE9.out.s.cell 1
    simp only [List.getElem?_toArray, List.getElem?_cons_zero, List.getElem?_cons_succ] at hcr hcs
    have HSg := Lib.hid (Sl.of_own hrow)
    have hK6b := (hBW.block D6 (heap_lt hK6a)).trans hK6a
    clear hv hrow hBW bO
    gi_wp2
    refine wpIn_wide.2 ?_
    go_quiet (first
      | (go_at_call 42; refine Calls.quiet_of ((sameI.ints_any _ _ L L _ W9.heap.size (by exact HSg.out) (by exact hE9.out.l)).mono fun e w' h => ⟨h.1, h.2⟩)))
    clear hcl hcr hcs HSg
    rw [show decide (L = L) = true by simp]
    gi_wp2
    obtain ⟨WX, hWX⟩ : ∃ WX, WX = W9.drewN nq := ⟨_, rfl⟩
    rw [← hWX]
    have hEX : Hid (Env w WX rq room left Bl (.slice (some ⟨b, off, none⟩) L.length cap) v4 L) := by
      rw [hWX]; exact Lib.hid (hE9.out.next (below_drewN (Below.refl _ _) _))
    have hK6c : WX.heap[D6]? = some (.deferred (some [])) := by rw [hWX]; exact hK6b
    have hK8c : WX.heap[D8]? = some (.deferred (some [])) := by rw [hWX]; exact hK8
    have hlt8 := heap_lt hK8c
    have hlt6c := heap_lt hK6c
    have hbzX := hEX.out.below.size
    have hb8 : W8.heap.size ≤ D8 := by simp at hD8; omega
    clear hWX hK6b hK8 hE9 hE8 hE6 nq
    rw [roundsIn_succ]
    gi_wp2
    have hB10 : Below WX.heap.size WX (WX.alloc (.cells #[.int .i64 0] 3)) := below_alloc_refl WX _
    have hn10 : Has (WX.alloc (.cells #[.int .i64 0] 3)) WX.heap.size 3 #[.int .i64 0] := Has.new WX _ _
    have hEX' := hEX.out.next hB10
    refine' wpIn_rangeFunc_ownG rfl h1 (gf := 78) (lb := #[.pointer (some ⟨Bl, 0, none⟩)]) rfl trivial (enters_of Tryd.func78 (by kernel_rfl) rfl)
      (qit.vals_stops (n - 1) (by omega) Bl WX.heap.size v4 L hL64 _ hEX'.bl (by simp) hEX'.c (hEX.out.l4.below hB10)) belowK_t (belowK_b (by simp)) (Below.refl _ _) (fun _ => rfl)
      (fun pre W => (W.cell? ⟨WX.heap.size, 0, none⟩ = some (.int .i64 (pre.length : Int)) ∧ W.frozen? ⟨WX.heap.size, 0, none⟩ = false ∧ (pre.length : Int) ≤ max left 0) ∧ Below WX.heap.size WX W)
      (fun c pre W => (c = .ret ∧ ¬ pre <+: L) ∨ (c = .exit 4 ∧ (∃ k : Nat, k + 1 = pre.length ∧ left ≤ k ∧ (k : Int) ≤ max left 0 ∧ W.cell? ⟨WX.heap.size, 0, none⟩ = some (.int .i64 (k : Int))) ∧ Below WX.heap.size WX W))
      (OwnFrom.and (Own.from (fun s A B row hs hg hr => ⟨cell_kept hs.1 hg hr, (frozen_kept hs.1 hg hr).trans hs.2.1, hs.2.2⟩) _) (ownFrom_below (Nat.le_refl _) (by simp)))
      (fun c s A B row hs hg hr => by
        rcases hs with hs | ⟨h2, ⟨k, h3, h4, h5, h6⟩, h7⟩
        · exact .inl hs
        · exact .inr ⟨h2, ⟨k, h3, h4, h5, cell_kept h6 hg (fun r e => (hr r e).2)⟩, h7.grown hg h7.size (fun k e => Nat.le_trans (by simp) (hr k e).1)⟩)
      ⟨⟨hn10.cell 0, hn10.frozen 0, by simp; omega⟩, hB10⟩
      _ ?assignC ?bodyC ?doneC ?stopC
    case assignC =>
      intro l5 x W K hK
      gi_wp2
      exact hK
    case bodyC =>
      rintro l5 pre x W ⟨⟨hcn, hfn2, hst⟩, hBW⟩ hlt5
      have hE5 := Lib.hid (hEX.out.next hBW)
      have hcr := hE5.out.b0.cell 0
      have hcl := hE5.out.b1.cell 0
      have hcs := hE5.out.s.cell 1
      have hco := hE5.out.b2.cell 0
      have hfo := hE5.out.b2.frozen 0
      simp only [List.getElem?_toArray, List.getElem?_cons_zero, List.getElem?_cons_succ] at hcr hcs hcl hco
      obtain ⟨b6, off6, he6, hb6, hx6⟩ := hE5.out.l.at_ hlt5
      obtain ⟨rfl, rfl⟩ : b = b6 ∧ off = off6 := by simpa using he6
      obtain ⟨y5, hy5⟩ : ∃ y5, y5 = L[pre.length] := ⟨_, rfl⟩
      rw [← hy5] at hx6
      have HY5 := Lib.hid hy5
      have HST := Lib.hid hst
      clear hy5 he6 hst
      by_cases hge : left ≤ (pre.length : Int)
      · gi_wp2
        exact ⟨KeepsFrom.refl _ _, .inr ⟨rfl, ⟨pre.length, by simp, hge, HST.out, hcn⟩, hBW⟩⟩
      · by_cases hxy : x = y5
        · have d9 : (x != y5) = false := by simp [hxy]
          clear hxy
          have hV : (W.setCell ⟨WX.heap.size, 0, none⟩ (.int .i64 ((pre.length : Int) + 1))).cell? ⟨WX.heap.size, 0, none⟩ = some (.int .i64 ((pre.length : Int) + 1)) := World.cell?_setCell_same' _ _ _ (by rw [hcn]; rfl)
          have HP : Hid (KeepsFrom (WX.alloc (.cells #[.int .i64 0] 3)).heap.size W (W.setCell ⟨WX.heap.size, 0, none⟩ (.int .i64 ((pre.length : Int) + 1))).drew ∧
              Below WX.heap.size W (W.setCell ⟨WX.heap.size, 0, none⟩ (.int .i64 ((pre.length : Int) + 1))).drew ∧
              ((W.setCell ⟨WX.heap.size, 0, none⟩ (.int .i64 ((pre.length : Int) + 1))).drew.cell? ⟨WX.heap.size, 0, none⟩ = some (.int .i64 ((pre ++ [x]).length : Int)) ∧ (W.setCell ⟨WX.heap.size, 0, none⟩ (.int .i64 ((pre.length : Int) + 1))).drew.frozen? ⟨WX.heap.size, 0, none⟩ = false ∧ ((pre ++ [x]).length : Int) ≤ max left 0) ∧
              Below WX.heap.size WX (W.setCell ⟨WX.heap.size, 0, none⟩ (.int .i64 ((pre.length : Int) + 1))).drew) := by
            refine Lib.hid ⟨((KeepsOthers.setCell _ _ _).trans (KeepsOthers.drew _)).from _, ((Below.refl _ W).setCell (p := ⟨WX.heap.size, 0, none⟩) (Nat.le_refl _) _).drew, ⟨?_, ?_, ?_⟩, (hBW.setCell (p := ⟨WX.heap.size, 0, none⟩) (Nat.le_refl _) _).drew⟩
            · refine Eq.trans (by exact hV) ?_
              simp
            · refine Eq.trans (b := (W.setCell ⟨WX.heap.size, 0, none⟩ (.int .i64 ((pre.length : Int) + 1))).frozen? ⟨WX.heap.size, 0, none⟩) rfl ?_
              rw [World.frozen?_setCell]
              exact hfn2
            · simp; omega
          clear hV
          gi_wp2
          gi_region_o
          gi_wp2
          all_goals exact HP.out
        · have d9 : (x != y5) = true := by simp [hxy]
          have HNO : Hid (¬ (pre ++ [x]) <+: L) := by
            refine Lib.hid fun hpre => hxy ?_
            have h5 := hpre.getElem (i := pre.length) (by simp)
            rw [HY5.out, ← h5]
            simp
          clear hxy
          gi_wp2
          gi_region_o
          gi_wp2
          all_goals exact ⟨by first | exact ((KeepsOthers.setCell _ _ _).trans (KeepsOthers.drew _)).from _ | exact ((KeepsOthers.drew _).trans (KeepsOthers.setCell _ _ _)).from _ | exact (KeepsOthers.setCell _ _ _).from _, .inl ⟨rfl, HNO.out⟩⟩
    case doneC =>
      rintro D10 ys W hD10 hys ⟨⟨hcn, hfn2, hst⟩, hBW⟩ hK10
      rw [show ys = L from hys] at hcn hst
      clear hys
      have hE5 := Lib.hid (hEX.out.next hBW)
      have hcr := hE5.out.b0.cell 0
      have hcl := hE5.out.b1.cell 0
      have hco := hE5.out.b2.cell 0
      have hfo := hE5.out.b2.frozen 0
      have hcs := hE5.out.s.cell 1
      simp only [List.getElem?_toArray, List.getElem?_cons_zero, List.getElem?_cons_succ] at hcr hcs hcl hco
      have h8W := Lib.hid ((hBW.block D8 hlt8).trans hK8c)
      have h6W := Lib.hid ((hBW.block D6 hlt6c).trans hK6c)
      have h10W := Lib.hid hK10
      have hb10 : WX.heap.size < D10 := by simp at hD10; omega
      have nb : ∀ D, W.heap[D]? = some (.deferred (some [])) → D ≠ w.heap.size + 2 := by
        intro D h e
        have h5 := hE5.out.b2
        unfold Has at h5
        rw [e, h5] at h
        cases h
      have n10 := nb _ h10W.out
      have n8 := nb _ h8W.out
      have n6 := nb _ h6W.out
      clear nb hK10 hD10
      have hl0 : 0 < left := by omega
      have hl1 : ¬ left ≤ 0 := by omega
      have hst2 : (L.length : Int) ≤ left := by omega
      clear hst hpos
      gi_wp2
      refine wpIn_wide.2 ?_
      go_still_tail 10, (by kernel_rfl)
      change wpList _ _ _ _ _ W.drew
      go_wp2
      all_goals gi_wp2
      all_goals
        refine leave3 (n := n) w _ D10 D8 D6 ?_ ?_ ?_ (by omega) (by omega) (by omega) ?_ ?_ (by omega) (by omega) hb6 (by rfl)
        · exact (heap_setCell_other W ⟨w.heap.size + 2, 0, none⟩ D10 _ n10).trans h10W.out
        · exact (heap_setCell_other W ⟨w.heap.size + 2, 0, none⟩ D8 _ n8).trans h8W.out
        · exact (heap_setCell_other W ⟨w.heap.size + 2, 0, none⟩ D6 _ n6).trans h6W.out
        · refine Eq.trans (World.cell?_setCell_same' W ⟨w.heap.size + 2, 0, none⟩ _ (by rw [hE5.out.b2.cell 0]; rfl)) ?_
          first | rfl | (congr 2; simp; omega) | (simp; omega)
        · exact (hE5.out.below.setCell (p := ⟨w.heap.size + 2, 0, none⟩) (Nat.le_add_right _ _) _).drew
    case stopC =>
      rintro D10 c pre W hD10 hsp hIx hK10
      rcases hIx with ⟨_, hno⟩ | ⟨rfl, ⟨k, hk1, hk2, hk3, hcn⟩, hBW⟩
      · exact absurd hsp hno
      · have hpl := hsp.length_le
        have hE5 := Lib.hid (hEX.out.next hBW)
        have hcr := hE5.out.b0.cell 0
        have hcl := hE5.out.b1.cell 0
        have hco := hE5.out.b2.cell 0
        have hfo := hE5.out.b2.frozen 0
        have hcs := hE5.out.s.cell 1
        simp only [List.getElem?_toArray, List.getElem?_cons_zero, List.getElem?_cons_succ] at hcr hcs hcl hco
        have h8W := Lib.hid ((hBW.block D8 hlt8).trans hK8c)
        have h6W := Lib.hid ((hBW.block D6 hlt6c).trans hK6c)
        have h10W := Lib.hid hK10
        have hb10 : WX.heap.size < D10 := by simp at hD10; omega
        have nb : ∀ D, W.heap[D]? = some (.deferred (some [])) → D ≠ w.heap.size + 2 := by
          intro D h e
          have h5 := hE5.out.b2
          unfold Has at h5
          rw [e, h5] at h
          cases h
        have n10 := nb _ h10W.out
        have n8 := nb _ h8W.out
        have n6 := nb _ h6W.out
        clear nb hK10 hD10
        by_cases hl0 : left < 0
        · have hk0 : k = 0 := by omega
          have hcn0 : W.cell? ⟨WX.heap.size, 0, none⟩ = some (.int .i64 0) := by rw [hcn, hk0]; rfl
          have hl1 : left ≤ 0 := by omega
          have hl2 : ¬ 0 ≤ left := by omega
          clear hcn hk0 hk1 hk2 hk3
          gi_wp2
          refine wpIn_wide.2 ?_
          go_still_tail 10, (by kernel_rfl)
          change wpList _ _ _ _ _ W.drew
          go_wp2
          all_goals gi_wp2
          all_goals
            refine leave3 (n := n) w _ D10 D8 D6 ?_ ?_ ?_ (by omega) (by omega) (by omega) ?_ ?_ (by omega) (by omega) hb6 (by rfl)
            · exact (heap_setCell_other W ⟨w.heap.size + 2, 0, none⟩ D10 _ n10).trans h10W.out
            · exact (heap_setCell_other W ⟨w.heap.size + 2, 0, none⟩ D8 _ n8).trans h8W.out
            · exact (heap_setCell_other W ⟨w.heap.size + 2, 0, none⟩ D6 _ n6).trans h6W.out
            · refine Eq.trans (World.cell?_setCell_same' W ⟨w.heap.size + 2, 0, none⟩ _ (by rw [hE5.out.b2.cell 0]; rfl)) ?_
              first | rfl | (congr 2; simp; omega) | (simp; omega)
            · exact (hE5.out.below.setCell (p := ⟨w.heap.size + 2, 0, none⟩) (Nat.le_add_right _ _) _).drew
        · have hl1 : 0 ≤ left := by omega
          obtain rfl : left = (k : Int) := by omega
          have hkl2 : (k : Int) < L.length := by omega
          clear hk3 hk2
          gi_wp2
          refine wpIn_wide.2 ?_
          go_still_tail 10, (by kernel_rfl)
          change wpList _ _ _ _ _ W.drew
          go_wp2
          all_goals gi_wp2
          all_goals
            refine leave3 (n := n) w _ D10 D8 D6 ?_ ?_ ?_ (by omega) (by omega) (by omega) ?_ ?_ (by omega) (by omega) hb6 (by rfl)
            · exact (heap_setCell_other W ⟨w.heap.size + 2, 0, none⟩ D10 _ n10).trans h10W.out
            · exact (heap_setCell_other W ⟨w.heap.size + 2, 0, none⟩ D8 _ n8).trans h8W.out
            · exact (heap_setCell_other W ⟨w.heap.size + 2, 0, none⟩ D6 _ n6).trans h6W.out
            · refine Eq.trans (World.cell?_setCell_same' W ⟨w.heap.size + 2, 0, none⟩ _ (by rw [hE5.out.b2.cell 0]; rfl)) ?_
              first | rfl | (congr 2; simp; omega) | (simp; omega)
            · exact (hE5.out.below.setCell (p := ⟨w.heap.size + 2, 0, none⟩) (Nat.le_add_right _ _) _).drew
  · have hn0 : (L.length : Int) ≤ 0 := by omega
    have HN0 := Lib.hid hn0
    gi_wp2_with (refine ⟨trivial, ?_⟩; rw [← HW3.out]; gi_at_call 39; refine (callsIn_wide.2 (peek_neg (HR.out.below HB3.out hlq hlg) hneg)).mono ?_; rintro e w5 ⟨rfl, m5, hw5⟩; have HW5 := Lib.hid hw5; clear hw5)
    have hw5 := HW5.out
    clear HW5
    have hB5 : Below w.heap.size w w5 := by rw [hw5]; exact below_drewN HB3.out _
    have hz5 : w.heap.size + 3 ≤ w5.heap.size := by rw [hw5]; exact hz3'
    obtain ⟨hx0, hx1, hx2⟩ : Has w5 w.heap.size 23 #[.pointer (some ⟨rq, 0, none⟩)] ∧ Has w5 (w.heap.size + 1) 3 #[.int .i64 left] ∧ Has w5 (w.heap.size + 2) 4 #[.bool false] := by rw [hw5]; exact HX.out
    clear hw5 HX HB3 HW3 hz3' hwW
    have HR5 := Lib.hid (HR.out.below hB5 hlq hlg)
    have hs5 := HS.out.below hB5 hlr
    have cr := hx0.cell 0
    have cs1 := hs5.cell 1
    have hw5' := (HW.out.below hB5).more (show w.heap.size ≤ w5.heap.size by omega)
    simp only [List.getElem?_toArray, List.getElem?_cons_zero, List.getElem?_cons_succ] at cr cs1
    have HX5 := Lib.hid (And.intro hx0 (And.intro hx1 hx2))
    have HS5 := Lib.hid hs5
    have HW5 := Lib.hid hw5'
    have HB5 := Lib.hid hB5
    have hp2 : ¬ (0 : Int) < L.length := by omega
    clear hx0 hx1 hx2 hs5 hw5' hB5
    refine wpIn_wide.2 ?_
    go_quiet (first
      | (go_at_call 40; refine Calls.quiet_of_same ((len_any (g := g) (room := room) (from_ := from_) (L := L) (by exact HR5.out.drewN _)).mono fun e w' h => ⟨h.1, h.2.symm⟩)))
    gi_wp2_with (refine ⟨trivial, ?_⟩; gi_at_call 41; refine (qit.all_in (n - 1) (by omega) q g room from_ L hr _ (by exact HR5.out.drewN _)).mono ?_; rintro e W6 ⟨Bl, v4, rfl, hBl, hc4, ho4, hb4⟩)
    have hb5 : Below w5.heap.size w5 W6 := Below.trans (b := _) (by exact below_drewN (Below.refl _ w5) nq) (by exact hb4)
    have hE6 := Lib.hid (Env.mk (w := w) (W := W6) (rq := rq) (room := room) (left := left) (Bl := Bl) (v := .slice A L.length cap) (v4 := v4) (L := L)
      (HX5.out.1.below hb5 HX5.out.1.lt) (HX5.out.2.1.below hb5 HX5.out.2.1.lt) (HX5.out.2.2.below hb5 HX5.out.2.2.lt) (HS5.out.below hb5 HS5.out.lt) (HW5.out.at_below hb5) hc4 (Sl.of_own ho4) (HB5.out.trans (hb5.mono HB5.out.size)) (cell_lt hc4))
    have hbl6 := hE6.out.bl
    have hL64 : L.length ≤ 64 := by omega
    clear hBl hc4 ho4 hb4 hb5 HX5 HS5 HW5 HB5 HR5 HR HS HW cr cs1
    gi_wp2
    refine wpIn_loop_rounds 3 ?_
    rw [roundsIn_succ]
    gi_wp2
    have bO := Boxed.new W6 70 (.slice none 0 0)
    refine' wpIn_rangeFunc_ownG rfl h1 (gf := 78) (lb := #[.pointer (some ⟨Bl, 0, none⟩)]) rfl trivial (enters_of Tryd.func78 (by kernel_rfl) rfl)
      (qit.vals_stops (n - 1) (by omega) Bl W6.heap.size v4 L hL64 _ (by simp; omega) (by simp) (((below_alloc_refl W6 _).cell (p := ⟨Bl, 0, none⟩) hE6.out.bl).trans hE6.out.c) (hE6.out.l4.below (below_alloc_refl W6 _))) belowK_t (belowK_b (by simp)) (Below.refl _ _) (fun _ => rfl)
      (fun pre W => (∃ v, Boxed W W6.heap.size 70 v ∧ W.ownsRow W6.heap.size 3 1 v pre.length (pre.map (Value.int .i64)) ∧ True) ∧ Below W6.heap.size W6 W)
      (fun _ _ _ => False)
      (OwnFrom.and (Own.from (holdsRow_own W6.heap.size W6.heap.size 70 3 1 (fun pre : List Int => pre.length) (fun pre => pre.map (Value.int .i64)) (fun pre v => True)) _) (ownFrom_below (Nat.le_refl _) (by simp)))
      (fun _ _ _ _ _ hs _ _ => hs)
      ⟨⟨_, bO, World.ownsRow_nil _ _ _ _, trivial⟩, below_alloc_refl _ _⟩
      _ ?assignNA ?bodyNA ?doneNA ?stopNA
    case assignNA =>
      intro l5 x W K hK
      gi_wp2
      exact hK
    case bodyNA =>
      rintro l5 pre x W ⟨⟨v5, hv, hrow, _⟩, hBW⟩ hlt5
      exact absurd hlt5 (by omega)
    case stopNA =>
      rintro D c pre W _ _ h _
      exact h.elim
    rintro D6 ys W7 hD6 hys ⟨⟨v5, hv, hrow, _⟩, hBW⟩ hK6
    rw [show ys = L from hys] at hrow
    have hE7 := Lib.hid (hE6.out.next hBW)
    have hcl := hv.cell
    have hbl7 := hE7.out.bl
    have hcr := hE7.out.b0.cell 0
    have hcs := hE7.out.s.cell 1
    simp only [List.getElem?_toArray, List.getElem?_cons_zero, List.getElem?_cons_succ] at hcr hcs
    have HSg := Lib.hid (Sl.of_own hrow)
    clear hv hrow hBW bO
    gi_wp2
    refine wpIn_wide.2 ?_
    go_quiet (first
      | (go_at_call 42; refine Calls.quiet_of ((sameI.ints_any _ _ L L _ W7.heap.size (by exact HSg.out) (by exact hE7.out.l)).mono fun e w' h => ⟨h.1, h.2⟩)))
    clear hcl hcr hcs HSg
    rw [show decide (L = L) = true by simp]
    gi_wp2
    obtain ⟨W8, hW8⟩ : ∃ W8, W8 = W7.drewN nq := ⟨_, rfl⟩
    rw [← hW8]
    have hE8 : Hid (Env w W8 rq room left Bl (.slice A L.length cap) v4 L) := by
      rw [hW8]; exact Lib.hid (hE7.out.next (below_drewN (Below.refl _ _) _))
    have hK6a : W8.heap[D6]? = some (.deferred (some [])) := by rw [hW8]; exact hK6
    have hlt6 := heap_lt hK6a
    have hbz8 := hE8.out.below.size
    have hbz6 := hE6.out.below.size
    have hb6 : w.heap.size ≤ D6 := by simp at hD6; omega
    clear hW8 hK6 hE7 nq
    have hbl8 := hE8.out.bl
    rw [roundsIn_succ]
    gi_wp2
    have bO := Boxed.new W8 70 (.slice none 0 0)
    refine' wpIn_rangeFunc_ownG rfl h1 (gf := 78) (lb := #[.pointer (some ⟨Bl, 0, none⟩)]) rfl trivial (enters_of Tryd.func78 (by kernel_rfl) rfl)
      (qit.vals_stops (n - 1) (by omega) Bl W8.heap.size v4 L hL64 _ (by simp; omega) (by simp) (((below_alloc_refl W8 _).cell (p := ⟨Bl, 0, none⟩) hE8.out.bl).trans hE8.out.c) (hE8.out.l4.below (below_alloc_refl W8 _))) belowK_t (belowK_b (by simp)) (Below.refl _ _) (fun _ => rfl)
      (fun pre W => (∃ v, Boxed W W8.heap.size 70 v ∧ W.ownsRow W8.heap.size 3 1 v pre.length (pre.map (Value.int .i64)) ∧ True) ∧ Below W8.heap.size W8 W)
      (fun _ _ _ => False)
      (OwnFrom.and (Own.from (holdsRow_own W8.heap.size W8.heap.size 70 3 1 (fun pre : List Int => pre.length) (fun pre => pre.map (Value.int .i64)) (fun pre v => True)) _) (ownFrom_below (Nat.le_refl _) (by simp)))
      (fun _ _ _ _ _ hs _ _ => hs)
      ⟨⟨_, bO, World.ownsRow_nil _ _ _ _, trivial⟩, below_alloc_refl _ _⟩
      _ ?assignNB ?bodyNB ?doneNB ?stopNB
    case assignNB =>
      intro l5 x W K hK
      gi_wp2
      exact hK
    case bodyNB =>
      rintro l5 pre x W ⟨⟨v5, hv, hrow, _⟩, hBW⟩ hlt5
      exact absurd hlt5 (by omega)
    case stopNB =>
      rintro D c pre W _ _ h _
      exact h.elim
    rintro D8 ys W9 hD8 hys ⟨⟨v5, hv, hrow, _⟩, hBW⟩ hK8
    rw [show ys = L from hys] at hrow
    have hE9 := Lib.hid (hE8.out.next hBW)
    have hcl := hv.cell
    have hbl9 := hE9.out.bl
    have hcr := hE9.out.b0.cell 0
    have hcs := hE9.out.s.cell 1
    simp only [List.getElem?_toArray, List.getElem?_cons_zero, List.getElem?_cons_succ] at hcr hcs
    have HSg := Lib.hid (Sl.of_own hrow)
    have hK6b := (hBW.block D6 (heap_lt hK6a)).trans hK6a
    clear hv hrow hBW bO
    gi_wp2
    refine wpIn_wide.2 ?_
    go_quiet (first
      | (go_at_call 42; refine Calls.quiet_of ((sameI.ints_any _ _ L L _ W9.heap.size (by exact HSg.out) (by exact hE9.out.l)).mono fun e w' h => ⟨h.1, h.2⟩)))
    clear hcl hcr hcs HSg
    rw [show decide (L = L) = true by simp]
    gi_wp2
    obtain ⟨WX, hWX⟩ : ∃ WX, WX = W9.drewN nq := ⟨_, rfl⟩
    rw [← hWX]
    have hEX : Hid (Env w WX rq room left Bl (.slice A L.length cap) v4 L) := by
      rw [hWX]; exact Lib.hid (hE9.out.next (below_drewN (Below.refl _ _) _))
    have hK6c : WX.heap[D6]? = some (.deferred (some [])) := by rw [hWX]; exact hK6b
    have hK8c : WX.heap[D8]? = some (.deferred (some [])) := by rw [hWX]; exact hK8
    have hlt8 := heap_lt hK8c
    have hlt6c := heap_lt hK6c
    have hbzX := hEX.out.below.size
    have hb8 : W8.heap.size ≤ D8 := by simp at hD8; omega
    clear hWX hK6b hK8 hE9 hE8 hE6 nq
    rw [roundsIn_succ]
    gi_wp2
    have hB10 : Below WX.heap.size WX (WX.alloc (.cells #[.int .i64 0] 3)) := below_alloc_refl WX _
    have hn10 : Has (WX.alloc (.cells #[.int .i64 0] 3)) WX.heap.size 3 #[.int .i64 0] := Has.new WX _ _
    have hEX' := hEX.out.next hB10
    refine' wpIn_rangeFunc_ownG rfl h1 (gf := 78) (lb := #[.pointer (some ⟨Bl, 0, none⟩)]) rfl trivial (enters_of Tryd.func78 (by kernel_rfl) rfl)
      (qit.vals_stops (n - 1) (by omega) Bl WX.heap.size v4 L hL64 _ hEX'.bl (by simp) hEX'.c (hEX.out.l4.below hB10)) belowK_t (belowK_b (by simp)) (Below.refl _ _) (fun _ => rfl)
      (fun pre W => (W.cell? ⟨WX.heap.size, 0, none⟩ = some (.int .i64 (pre.length : Int)) ∧ W.frozen? ⟨WX.heap.size, 0, none⟩ = false ∧ (pre.length : Int) ≤ max left 0) ∧ Below WX.heap.size WX W)
      (fun c pre W => (c = .ret ∧ ¬ pre <+: L) ∨ (c = .exit 4 ∧ (∃ k : Nat, k + 1 = pre.length ∧ left ≤ k ∧ (k : Int) ≤ max left 0 ∧ W.cell? ⟨WX.heap.size, 0, none⟩ = some (.int .i64 (k : Int))) ∧ Below WX.heap.size WX W))
      (OwnFrom.and (Own.from (fun s A B row hs hg hr => ⟨cell_kept hs.1 hg hr, (frozen_kept hs.1 hg hr).trans hs.2.1, hs.2.2⟩) _) (ownFrom_below (Nat.le_refl _) (by simp)))
      (fun c s A B row hs hg hr => by
        rcases hs with hs | ⟨h2, ⟨k, h3, h4, h5, h6⟩, h7⟩
        · exact .inl hs
        · exact .inr ⟨h2, ⟨k, h3, h4, h5, cell_kept h6 hg (fun r e => (hr r e).2)⟩, h7.grown hg h7.size (fun k e => Nat.le_trans (by simp) (hr k e).1)⟩)
      ⟨⟨hn10.cell 0, hn10.frozen 0, by simp; omega⟩, hB10⟩
      _ ?assignNC ?bodyNC ?doneNC ?stopNC
    case assignNC =>
      intro l5 x W K hK
      gi_wp2
      exact hK
    case bodyNC =>
      rintro l5 pre x W ⟨⟨hcn, hfn2, hst⟩, hBW⟩ hlt5
      exact absurd hlt5 (by omega)
    case doneNC =>
      rintro D10 ys W hD10 hys ⟨⟨hcn, hfn2, hst⟩, hBW⟩ hK10
      rw [show ys = L from hys] at hcn hst
      clear hys
      have hE5 := Lib.hid (hEX.out.next hBW)
      have hcr := hE5.out.b0.cell 0
      have hcl := hE5.out.b1.cell 0
      have hco := hE5.out.b2.cell 0
      have hfo := hE5.out.b2.frozen 0
      have hcs := hE5.out.s.cell 1
      simp only [List.getElem?_toArray, List.getElem?_cons_zero, List.getElem?_cons_succ] at hcr hcs hcl hco
      have h8W := Lib.hid ((hBW.block D8 hlt8).trans hK8c)
      have h6W := Lib.hid ((hBW.block D6 hlt6c).trans hK6c)
      have h10W := Lib.hid hK10
      have hb10 : WX.heap.size < D10 := by simp at hD10; omega
      have nb : ∀ D, W.heap[D]? = some (.deferred (some [])) → D ≠ w.heap.size + 2 := by
        intro D h e
        have h5 := hE5.out.b2
        unfold Has at h5
        rw [e, h5] at h
        cases h
      have n10 := nb _ h10W.out
      have n8 := nb _ h8W.out
      have n6 := nb _ h6W.out
      clear nb hK10 hD10
      have hn9 : (L.length : Int) = 0 := by have := HN0.out; omega
      have HN9 := Lib.hid hn9
      have hcn0 : W.cell? ⟨WX.heap.size, 0, none⟩ = some (.int .i64 0) := by rw [hcn, hn9]
      clear hn9
      clear hcn hst
      have hl9 : ((L.length : Int) == 0) = true := by rw [HN9.out]; rfl
      by_cases hl0 : left ≤ 0
      · have hl1 : ¬ 0 < left := by omega
        gi_wp2
        refine wpIn_wide.2 ?_
        go_still_tail 10, (by kernel_rfl)
        change wpList _ _ _ _ _ W.drew
        go_wp2
        all_goals gi_wp2
        all_goals
          refine leave3 (n := n) w _ D10 D8 D6 ?_ ?_ ?_ (by omega) (by omega) (by omega) ?_ ?_ (by omega) (by omega) hb6 (by rfl)
          · exact (heap_setCell_other W ⟨w.heap.size + 2, 0, none⟩ D10 _ n10).trans h10W.out
          · exact (heap_setCell_other W ⟨w.heap.size + 2, 0, none⟩ D8 _ n8).trans h8W.out
          · exact (heap_setCell_other W ⟨w.heap.size + 2, 0, none⟩ D6 _ n6).trans h6W.out
          · refine Eq.trans (World.cell?_setCell_same' W ⟨w.heap.size + 2, 0, none⟩ _ (by rw [hE5.out.b2.cell 0]; rfl)) ?_
            first | rfl | (congr 2; simp; omega) | (simp; omega)
          · exact (hE5.out.below.setCell (p := ⟨w.heap.size + 2, 0, none⟩) (Nat.le_add_right _ _) _).drew
      · have hl1 : 0 < left := by omega
        have hl2 : ¬ left < (L.length : Int) := by omega
        gi_wp2
        refine wpIn_wide.2 ?_
        go_still_tail 10, (by kernel_rfl)
        change wpList _ _ _ _ _ W.drew
        go_wp2
        all_goals gi_wp2
        all_goals
          refine leave3 (n := n) w _ D10 D8 D6 ?_ ?_ ?_ (by omega) (by omega) (by omega) ?_ ?_ (by omega) (by omega) hb6 (by rfl)
          · exact (heap_setCell_other W ⟨w.heap.size + 2, 0, none⟩ D10 _ n10).trans h10W.out
          · exact (heap_setCell_other W ⟨w.heap.size + 2, 0, none⟩ D8 _ n8).trans h8W.out
          · exact (heap_setCell_other W ⟨w.heap.size + 2, 0, none⟩ D6 _ n6).trans h6W.out
          · refine Eq.trans (World.cell?_setCell_same' W ⟨w.heap.size + 2, 0, none⟩ _ (by rw [hE5.out.b2.cell 0]; rfl)) ?_
            first | rfl | (congr 2; simp; omega) | (simp; omega)
          · exact (hE5.out.below.setCell (p := ⟨w.heap.size + 2, 0, none⟩) (Nat.le_add_right _ _) _).drew
    case stopNC =>
      rintro D10 c pre W hD10 hsp hIx hK10
      rcases hIx with ⟨_, hno⟩ | ⟨rfl, ⟨k, hk1, hk2, hk3, hcn⟩, hBW⟩
      · exact absurd hsp hno
      · exact absurd hsp.length_le (by omega)
end askedK
end Go.Proofs.YthjjockimpndbaaDoor
