/- All of queue.Queue[int]: a function that hands out what there was. No condition. -/
import Derived.Test.YthjjockimpndbaaDoorQIter
namespace Go.Proofs.YthjjockimpndbaaDoor
open Go.RowKit Go.Shelf Go.Bus Go.Bus.ringK
set_option linter.unusedVariables false
attribute [local go_sem] Oper.semAt_some
namespace qit
theorem infoI : (Tryd.prog.info? 3).map (fun i => (i.zero, i.size, i.bytes)) = some (some (.int .i64 0), 1, 8) := by kernel_rfl
/-- What All answers: a function over a list of its own. -/
def AllOf (w : World) (L : List Int) (e : Ending) (W' : World) : Prop := ∃ (Bl : Nat) (v : Value), e = .returned (.func (.func 78) #[] #[.pointer (some ⟨Bl, 0, none⟩)]) ∧ w.heap.size ≤ Bl ∧ W'.cell? ⟨Bl, 0, none⟩ = some v ∧ W'.ownsRow w.heap.size 3 1 v L.length (L.map (Value.int .i64)) ∧ Below w.heap.size w W'

set_option maxRecDepth 100000 in
set_option maxHeartbeats 4000000 in
theorem all_in (n : Nat) (hn : 3 ≤ n) (q g room from_ : Nat) (L : List Int) (hr : room ≤ 64) (w : World) (hR : RingS w q g room from_ L) :
    CallsIn Fence.wide n Tryd.prog 41 #[.pointer (some ⟨q, 0, none⟩)] w (AllOf w L) := by
  obtain ⟨i0, hi, hz0, hz1, hz2⟩ := info_parts infoI
  obtain ⟨c0, c1, c2, fq, fg, cg⟩ := hR.cells
  have hll := hR.hlen
  obtain ⟨hlq, hlg⟩ := hR.lt
  have HR := Lib.hid hR
  clear hR fq fg cg
  have hmk := fun W => run_make (P := Tryd.prog) W 70 3 i0 (.int .i64 0) Tryd.underlying70 hi hz0 .i64 .i64 0 (L.length : Int) (by omega) (by omega) (by rw [hz2]; omega) (by omega)
  simp only [Int.toNat_natCast, Int.toNat_zero] at hmk
  have h1 : 1 ≤ n := by omega
  unfold AllOf
  refine callsIn_of_wp_marks Tryd.func41 rfl trivial ?_ rfl
  simp only [Tryd.ntmps41, List.size_toArray, List.length_cons, List.length_nil, Nat.reduceAdd, Nat.reduceSub, Array.replicate_succ, Array.replicate_zero, List.push_toArray, List.append_toArray, List.nil_append, List.cons_append]
  gi_wp2_with (refine ⟨trivial, ?_⟩; gi_at_call 77; refine (now_in (n - 1) _ _).mono ?_; rintro e w' ⟨rfl, rfl⟩)
  have hown0 : (((w.alloc (.cells (madeCells #[.int .i64 0] L.length) 3)).alloc (.cells #[.slice (some ⟨w.heap.size, 0, none⟩) 0 L.length] 70)).alloc (.cells #[.pointer (some ⟨q, 0, none⟩)] 26)).ownsRow w.heap.size 3 1 (.slice (some ⟨w.heap.size, 0, none⟩) 0 L.length) ([] : List Int).length (([] : List Int).map (Value.int .i64)) := by
    have h := own_made (w := w) (base := w.heap.size) (e := 3) (z := .int .i64 0) 0 L.length (Nat.zero_le _) (by omega) (Nat.le_refl _)
    exact (h.alloc _).alloc _
  have bO := (Boxed.new (w.alloc (.cells (madeCells #[.int .i64 0] L.length) 3)) 70 (.slice (some ⟨w.heap.size, 0, none⟩) 0 L.length)).alloc (.cells #[.pointer (some ⟨q, 0, none⟩)] 26)
  rw [World.size_alloc] at bO
  have bQ := Has.new ((w.alloc (.cells (madeCells #[.int .i64 0] L.length) 3)).alloc (.cells #[.slice (some ⟨w.heap.size, 0, none⟩) 0 L.length] 70)) 26 #[.pointer (some ⟨q, 0, none⟩)]
  rw [World.size_alloc, World.size_alloc] at bQ
  have hB0 : Below w.heap.size w (((w.alloc (.cells (madeCells #[.int .i64 0] L.length) 3)).alloc (.cells #[.slice (some ⟨w.heap.size, 0, none⟩) 0 L.length] 70)).alloc (.cells #[.pointer (some ⟨q, 0, none⟩)] 26)) := (by repeat (first | exact Below.refl _ _ | assumption | refine Below.drew ?_ | refine below_drewN ?_ _ | (refine Below.alloc ?_ (by (try simp); (try omega)) _) | (refine Below.setCell ?_ (by (try simp); (try omega)) _)))
  refine wpIn_rangeFunc_ownG rfl h1 (gf := 97) (lb := #[.pointer (some ⟨w.heap.size + 1 + 1, 0, none⟩)]) rfl trivial (enters_of Tryd.func97 (by kernel_rfl) rfl)
    (now_stops (n - 1) (by omega) (w.heap.size + 1 + 1) w.heap.size q g room from_ L hr hlq hlg _ (by simp; omega) bQ (HR.out.below hB0 hlq hlg)) (fun h h' => KQ.trans h h') (KQ.put (by simp; omega)) (Below.refl _ _) (fun _ => rfl)
    (fun pre W => (∃ v, Boxed W (w.heap.size + 1) 70 v ∧ W.ownsRow w.heap.size 3 1 v pre.length (pre.map (Value.int .i64)) ∧ True) ∧ Below w.heap.size w W)
    (fun _ _ _ => False)
    (OwnFrom.and (Own.from (holdsRow_own w.heap.size (w.heap.size + 1) 70 3 1 (fun pre : List Int => pre.length) (fun pre => pre.map (Value.int .i64)) (fun pre v => True)) _) (ownFrom_below (Nat.le_refl _) (by simp; omega)))
    (fun _ _ _ _ _ hs _ _ => hs)
    ⟨⟨_, bO, hown0, trivial⟩, hB0⟩
    (fun x => { tmps := #[.pointer (some ⟨q, 0, none⟩), undef, .nilFunc, .pointer (some ⟨w.heap.size + 1, 0, none⟩), .int .i64 x, .pointer (some ⟨q, 0, none⟩), .pointer (some ⟨q, 0, none⟩), .pointer (some ⟨q, 2, none⟩), .int .i64 (L.length : Int), .slice (some ⟨w.heap.size, 0, none⟩) 0 L.length, .pointer (some ⟨q, 0, none⟩), .func (.func 97) #[] #[.pointer (some ⟨w.heap.size + 1 + 1, 0, none⟩)], .int .i64 x, undef, undef, undef, undef, undef], defers := [] }) ?assign ?body ?done ?stop
  case assign =>
    intro l x W K hK
    gi_wp2
    exact hK
  case body =>
    rintro l pre x W ⟨⟨v, hv, hrow, _⟩, hB⟩ hlt
    have hc := hv.cell
    gi_wp2_with (gi_at_builtin; refine wpListIn_append_own _ rfl _ _ 70 rfl w.heap.size 3 i0 (.int .i64 0) 1 8 Tryd.underlying70 hi hz0 hz1 hz2 rfl (by decide) _ _ _ rfl (hrow.alloc _) ⟨W.heap.size, 0, none⟩ 1 1 [.int .i64 x] rfl rfl (cell_one_new _ _ _) (by simp [Value.oneCell']) (by unfold maxLen; omega) (by omega) (by have := hB.size; simp; omega) ?_; intro v' w1 hown' hgrow _; obtain ⟨g', cap', rfl⟩ := ownsRow_succ hown'; obtain ⟨hv1, hv2, hr2, hk2, hb2⟩ := hv.appended (by decide) hrow hB.size (by omega) hown' hgrow; have hc1 := hv1.cell; have hf1 := hv1.frozen)
    have HB2 := hb2
    refine ⟨hk2.from _, ⟨hb2, fun cs hc5 => ?_⟩, ⟨_, hv2, by simpa using hr2, trivial⟩, hB.trans hb2⟩
    refine Has.far (p := ⟨w.heap.size + 1, 0, none⟩) (Has.grown ?_ hgrow (fun e => own_has_ne hrow hc5 (by decide) e.symm)) (by simp) _
    exact hc5.alloc _
  case done =>
    rintro D ys W hD rfl ⟨⟨v, hv, hrow, _⟩, hB⟩ hK
    have hc := hv.cell
    gi_wp2
    refine ⟨by simp, .inl ⟨_, _, rfl, run_takeDeferred hK, ?_⟩⟩
    exact ⟨_, results_tmp rfl _ _ _, w.heap.size + 1, v, rfl, by omega, cell_kept hc (grownBy_putObj' _ D (.deferred none)) (fun r e => by cases e; exact ⟨_, hK, rfl⟩), ownsRow_putObj hrow _ hK rfl, hB.trans (belowK_b (w := w) (Nat.le_refl _) W D _ _ (by simp at hD; omega) hK rfl rfl)⟩
  case stop =>
    rintro D c pre W _ _ h _
    exact h.elim
end qit
end Go.Proofs.YthjjockimpndbaaDoor
