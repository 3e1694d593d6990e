/- Proves RawBetweenCardSaid: what fits is what lies from the least to the greatest one. Condition: the card's listed tables. -/
import Derived.Test.YtfigkgpolpggcaaDoorRows
import Derived.Test.YtfigkgpolpggcaaDoorDoor
import Derived.Test.YtfigkgpolpggcaaDoorCards
import Derived.Test.YtfigkgpolpggcaaDoorTie
import Derived.Test.YtfigkgpolpggcaaDoorOpen
import Derived.SevenTiedAt
import Derived.Test.YtfigkgpolpggcaaDoorRawWorks
namespace Go.Proofs.YtfigkgpolpggcaaDoor.rawBetween
open Go.RowKit Go.Bus Go.Bus.rawK Go.ChangeShapes Go.WideShapes Go.ChangeAt Go.Joins
set_option linter.unusedVariables false
def lt (a b : Int) (s : Bool) : Bool := if s then decide (wrap64 a < wrap64 b) else decide (a < b)
theorem lt_fits {v n : Int} {s : Bool} (hv : 0 ≤ v) (hv' : v < 18446744073709551616) (h1 : 1 ≤ n) (h2 : n ≤ 64) : fitsB v n s = (!lt v (eLo n s) s && !lt (eHi n s) v s) := by
  cases s
  · rw [← fits_un hv hv' h1 h2, eLo_un]
    simp only [lt, Bool.false_eq_true, if_false]
    rw [Bool.eq_iff_iff]; simp; omega
  · rw [← fits_si hv hv' h1 h2]
    simp only [lt, if_true]
    rw [Bool.eq_iff_iff]; simp

set_option maxRecDepth 100000 in
set_option maxHeartbeats 1000000 in
theorem below_any (a b : Int) (s : Bool) (w : World) (ha : 0 ≤ a) (ha' : a < 18446744073709551616) (hb : 0 ≤ b) (hb' : b < 18446744073709551616) : Calls Tryd.prog 22 #[.int .u64 a, .int .u64 b, .bool s] w fun e w' => e = .returned (.bool (lt a b s)) ∧ w = w' := by
  cases s
  · go_enter Tryd.func22, Tryd.ntmps22
    go_wp2
    go_ret
    exact ⟨rfl, rfl⟩
  · go_enter Tryd.func22, Tryd.ntmps22
    go_wp2
    go_ret
    exact ⟨rfl, rfl⟩

set_option maxRecDepth 100000 in
set_option maxHeartbeats 2000000 in
theorem walk (v z : Int) (s : Bool) (w : World) (hv : 0 ≤ v) (hv' : v < 18446744073709551616) (hz : (Lit.int .i64 z).wf = true) (ht : rawP.Tab w) : Calls Tryd.prog 5 #[.int .u64 v, .int .i64 z, .bool s] w fun e w' => e = .returned (.bool true) ∧ Below w.heap.size w w' := by
  have HT := Lib.hid ht; clear ht
  have hzb := wf_i64 hz
  clear hz
  have hr0 := Int.emod_nonneg z (show (64 : Int) ≠ 0 by omega)
  have hr1 := Int.emod_lt_of_pos z (show (0 : Int) < 64 by omega)
  obtain ⟨n, hn⟩ : ∃ n : Int, n = 1 + z % 64 := ⟨_, rfl⟩
  have HN := Lib.hid hn
  have h1 : 1 ≤ n := by omega
  have h2 : n ≤ 64 := by omega
  clear hn hr0 hr1
  obtain ⟨f1, a0, a1⟩ := fits_lo (s := s) h1 h2
  obtain ⟨f2, b0, b1⟩ := fits_hi (s := s) h1 h2
  have f3 := lt_fits (s := s) hv hv' h1 h2
  obtain ⟨p, hp⟩ : ∃ p, p = lt v (eLo n s) s := ⟨_, rfl⟩
  obtain ⟨q, hq⟩ : ∃ q, q = lt (eHi n s) v s := ⟨_, rfl⟩
  rw [← hp, ← hq] at f3
  have hp' := hp.symm
  have hq' := hq.symm
  clear hp hq
  cases p <;> cases q <;>
  · go_enter Tryd.func5, Tryd.ntmps5
    go_wp2_with fail
    refine (pickK.pick_any z 64 _ (by omega) (by omega) (by omega) (by omega)).mono ?_
    rintro e w2 ⟨rfl, rfl⟩
    go_wp2_with fail
    rw [← HN.out]
    refine (rawW.ends_any _ _ _).mono ?_
    rintro e w2 ⟨rfl, rfl⟩
    go_wp2_with fail
    refine (rawW.works_yes _ HT.out).mono ?_
    rintro e w2 ⟨rfl, hb2⟩
    have HB := Lib.hid hb2; clear hb2
    go_wp2_with (first
      | (go_at_call 19; refine (rawW.fits_any _ _ _ _ (by assumption) (by assumption)).mono ?_; rintro e w' ⟨rfl, rfl⟩)
      | (go_at_call 22; refine (below_any _ _ _ _ (by assumption) (by assumption) (by assumption) (by assumption)).mono ?_; rintro e w' ⟨rfl, rfl⟩))
    go_ret
    exact ⟨rfl, HB.out⟩

/-! The row's step. -/
theorem own : ownKnob Tryd.prog.godebug = none := by kernel_rfl
theorem laidOut : laidOutB Tryd.prog = true := by kernel_rfl

theorem door_met (os : Os) (args : Array Value) : laidMetH Tryd.prog Rows.rawBetweenRow.laid ((World.doorLaid Tryd.prog 400 os).forCall (fun _ _ => 0) ⟨#[], args, []⟩).memory :=
  (doorK.met os args).filter (fun x => (List.map Prod.fst Rows.rawBetweenRow.laid).contains x.1)

set_option maxRecDepth 100000 in
theorem lifted (os : Os) (started : os.Started) (H : Type) (enc : TypeId × Value → H) :
    ReturnsInHanded {} Tryd.checked os 5 .any (fun w args => (Rows.rawBetweenSpec.pre enc Tryd.prog Tryd.f5 [] false w args ∧ laidMetH Tryd.prog Rows.rawBetweenRow.laid w) ∧ sizedMet enc Tryd.prog Tryd.f5 (OpenSpec.ofChange Rows.rawBetweenSpec) false w args)
      (Rows.rawBetweenSpec.post enc Tryd.prog Tryd.f5 false true false false) := by
  refine returnsInHanded_of_change_and (C := Tryd.checked) (X := fun w _ => laidMetH Tryd.prog Rows.rawBetweenRow.laid w) (fun _ _ _ hh h => h.of_heap hh) own started (by kernel_rfl) Tryd.func5
    (ChangeSpec.witness_shaped (enc := enc) (C := Tryd.checked) (os := os) (X := fun w _ => laidMetH Tryd.prog Rows.rawBetweenRow.laid w) false (World.doorLaid Tryd.prog 400 os) #[.int .u64 0, .int .i64 0, .bool false] 8 rfl (doorK.shaped os _) (by kernel_rfl) (by kernel_rfl) (by kernel_rfl) (door_met os _)) ?_
  intro W base args ds gs before hval0 hW hcnd hsz0 hL _
  have hval : ∀ (j : Nat) t v, Tryd.f5.params[j]? = some t → args[j]? = some v → Value.okWide Tryd.prog W .any base t v := hval0
  have hsz : (DataW.weightsEach Tryd.prog (Tryd.f5.params.toList ++ Rows.rawBetweenSpec.plain.varTypes Tryd.prog) (ds ++ gs)).all (· ≤ reachBytes) = true := hsz0
  have hW' := hW
  obtain ⟨p, q, hA0, hV, rfl, hfz, hnd⟩ := hW
  have hA : DataW.TrodAll enc Tryd.prog W 0 (fun _ => true) true Tryd.f5.params.toList args.toList ds p := hA0
  rw [Tryd.params5] at hA hval hsz
  obtain ⟨v0, vs0, d0, ds0, p0, q0, hargs, rfl, rfl, h0, r0⟩ := trodAll_cons hA
  obtain ⟨v1, vs1, d1, ds1, p1, q1, rfl, rfl, rfl, h1, r1⟩ := trodAll_cons r0
  obtain ⟨v2, vs2, d2, ds2, p2, q2, rfl, rfl, rfl, h2, r2⟩ := trodAll_cons r1
  obtain ⟨rfl, rfl, rfl⟩ := trodAll_nil r2
  obtain rfl : args = #[v0, v1, v2] := by cases args; simp_all
  obtain ⟨rfl, rfl⟩ := trodVars_none hV
  have k0 := h0
  have lt0 : ∀ x ∈ p0, x.block < W.heap.size := by obtain ⟨m, hm⟩ := h0; exact DataW.trod_lt m _ _ _ hm
  have wt0 : ∀ m ∈ d0.weights Tryd.prog 22, m ≤ reachBytes := fun m hm => by
    simpa using List.all_eq_true.1 hsz m (DataW.weights_mem_each (j := 0) rfl rfl m hm)
  have k1 := h1
  have lt1 : ∀ x ∈ p1, x.block < W.heap.size := by obtain ⟨m, hm⟩ := h1; exact DataW.trod_lt m _ _ _ hm
  have wt1 : ∀ m ∈ d1.weights Tryd.prog 3, m ≤ reachBytes := fun m hm => by
    simpa using List.all_eq_true.1 hsz m (DataW.weights_mem_each (j := 1) rfl rfl m hm)
  have k2 := h2
  have lt2 : ∀ x ∈ p2, x.block < W.heap.size := by obtain ⟨m, hm⟩ := h2; exact DataW.trod_lt m _ _ _ hm
  have wt2 : ∀ m ∈ d2.weights Tryd.prog 4, m ≤ reachBytes := fun m hm => by
    simpa using List.all_eq_true.1 hsz m (DataW.weights_mem_each (j := 2) rfl rfl m hm)
  obtain ⟨x0, rfl, rfl, rfl, g0⟩ := open_int Tryd.underlying22 (hval 0 22 v0 rfl rfl) h0
  obtain ⟨x1, rfl, rfl, rfl, g1⟩ := open_int Tryd.underlying3 (hval 1 3 v1 rfl rfl) h1
  obtain ⟨x2, rfl, rfl, rfl⟩ := open_bool Tryd.underlying4 (hval 2 4 v2 rfl rfl) h2
  have hT := laidK.tab_of_laid hL (by rfl)
  clear hA0 hval0 hsz0 hL
  refine (walk x0 x1 x2 W (wf_u64 g0).1 (wf_u64 g0).2 g1 hT).mono fun e W' ⟨he, bel⟩ => ?_
  subst he
  exact ⟨_, rfl, _, _, _, [], _, [], hW', trodAll_mk1 (shut_bool Tryd.underlying4 _), (trodAll_cons_mk (shut_int Tryd.underlying22 g0) (trodAll_cons_mk (shut_int Tryd.underlying3 g1) (trodAll_cons_mk (shut_bool Tryd.underlying4 x2) trodAll_mk0))), rfl, bel.frame _, fun h => by cases h⟩

theorem over : Rows.rawBetweenRow.holds Tryd.pinned (OpenSpec.ofChange Rows.rawBetweenSpec) :=
  OpenClaim.holds_of_wide 5 Tryd.f5 rfl rfl rfl rfl rfl rfl rfl ⟨rfl, rfl, rfl, rfl, rfl⟩ rfl rfl rfl rfl rfl (by kernel_rfl) Tryd.func5 (by kernel_rfl)
    (of_decide_eq_true (by kernel_rfl)) (by unfold Func.isWrapper; first | (rw [if_pos (by decide +kernel)]; kernel_rfl) | (rw [if_neg (by decide +kernel)]; exact ⟨rfl, rfl⟩))
    (fun os started H enc _ => lifted os started H enc)


theorem proved : Rows.RawBetweenCardSaid :=
  Claim7.holds_tied_plain_at .later [] _ true _ true
    over (fun _ h => by cases h) (by kernel_rfl) (fun _ h => by cases h) rawBetween_row_tie rfl ⟨rfl, rfl⟩ (by kernel_rfl) rfl
    (fun f fn hf hfn => by
      obtain rfl : f = 5 := Option.some.inj ((show Tryd.prog.funcNamed "busbar/busbarlaw10.RawBetween" = some 5 by kernel_rfl).symm.trans hf) |>.symm
      obtain rfl : fn = Tryd.f5 := (Option.some.inj (Tryd.func5.symm.trans hfn)).symm
      exact ⟨by kernel_rfl, fun j t ht => by
        rw [Tryd.params5] at ht
        have hm : t ∈ [22, 3, 4] := by simpa using Array.mem_of_getElem? ht
        have hall : ([22, 3, 4].all fun u => !Tryd.prog.wantsStandIn u) = true := by kernel_rfl
        exact (show Tryd.prog.wantsStandIn t = false by simpa using List.all_eq_true.1 hall t hm)⟩)
    (by kernel_rfl)
#print axioms proved
end Go.Proofs.YtfigkgpolpggcaaDoor.rawBetween
