/- Proves PhysFromCardSaid: of any signal and fraction: what the document answers; memory. Condition: the card's listed variables. -/
import Derived.Test.YtllbpanfhlbbgaaDoorRows
import Derived.Test.YtllbpanfhlbbgaaDoorDoor
import Derived.Test.YtllbpanfhlbbgaaDoorCards
import Derived.Test.YtllbpanfhlbbgaaDoorTie
import Derived.Test.YtllbpanfhlbbgaaDoorOpen
import Derived.Test.YtllbpanfhlbbgaaDoorSigOpen
import Derived.Test.YtllbpanfhlbbgaaDoorZLaid
import Derived.SevenTiedAt
import Derived.Test.YtllbpanfhlbbgaaDoorZPhysFx
namespace Go.Proofs.YtllbpanfhlbbgaaDoor.physFrom
open Go.RowKit Go.Bus Go.Bus.cellK Go.Bus.dbK Go.ChangeShapes Go.WideShapes Go.ChangeAt Go.Joins
set_option linter.unusedVariables false
theorem rats {x : Sig} (h : SigOk x) : physW.RatsOk x := by
  obtain ⟨_, _, _, _, _, _, _, a, b, c, d, e, f, g, i, _, _⟩ := h
  constructor <;> omega
theorem lows {x : Sig} (h : SigOk x) : rphysW.RatsLo x := by
  obtain ⟨_, _, _, _, _, _, _, a, b, c, d, e, f, g, i, _, _⟩ := h
  constructor <;> omega
theorem walk (x : Sig) (t : Value) (n d : Int) (W : World) (hs : SlK 1 strE W (Old W.heap.size) t x.to) (ok : SigOk x) (g : I64 n) (g' : I64 d) (hG : asK.ErrT W) :
    Calls Tryd.prog 4 #[.agg (sigCells x t).toArray, .agg #[.int .i64 n, .int .i64 d]] W fun e w' => e = .returned (.bool true) ∧ Below W.heap.size W w' :=
  physF.from_val x t n d W g.1 (by have := g.2; omega) (by have := g'.2; omega) g'.1 (rats ok) (lows ok) hs ok.to hG
/-! The row's step. -/
theorem own : ownKnob Tryd.prog.godebug = none := by kernel_rfl
theorem laidOut : laidOutB Tryd.prog = true := by kernel_rfl

theorem door_met (os : Os) (args : Array Value) : laidMetH Tryd.prog Rows.physFromRow.laid ((World.doorLaid Tryd.prog 400 os).forCall (fun _ _ => 0) ⟨#[], args, []⟩).memory :=
  (doorK.met os args).filter (fun x => (List.map Prod.fst Rows.physFromRow.laid).contains x.1)

set_option maxRecDepth 100000 in
theorem lifted (os : Os) (started : os.Started) (H : Type) (enc : TypeId × Value → H) :
    ReturnsInHanded {} Tryd.checked os 4 .any (fun w args => (Rows.physFromSpec.pre enc Tryd.prog Tryd.f4 [] false w args ∧ laidMetH Tryd.prog Rows.physFromRow.laid w) ∧ sizedMet enc Tryd.prog Tryd.f4 (OpenSpec.ofChange Rows.physFromSpec) false w args)
      (Rows.physFromSpec.post enc Tryd.prog Tryd.f4 false true false false) := by
  refine returnsInHanded_of_change_and (C := Tryd.checked) (X := fun w _ => laidMetH Tryd.prog Rows.physFromRow.laid w) (fun _ _ _ hh h => h.of_heap hh) own started (by kernel_rfl) Tryd.func4
    (ChangeSpec.witness_shaped (enc := enc) (C := Tryd.checked) (os := os) (X := fun w _ => laidMetH Tryd.prog Rows.physFromRow.laid w) false (World.doorLaid Tryd.prog 400 os) #[.agg #[.int .i64 0, .int .i64 0, .string ByteArray.empty, .int .i64 0, .int .u64 0, .int .i64 0, .int .i64 0, .bool false, .bool false, .int .i64 0, .int .i64 0, .int .i64 0, .int .i64 0, .int .i64 0, .int .i64 0, .int .i64 0, .int .i64 0, .string ByteArray.empty, .slice none 0 0], .agg #[.int .i64 0, .int .i64 0]] 8 rfl (doorK.shaped os _) (by kernel_rfl) (by kernel_rfl) (by kernel_rfl) (door_met os _)) ?_
  intro W base args ds gs before hval0 hW hcnd hsz0 hL _
  have hval : ∀ (j : Nat) t v, Tryd.f4.params[j]? = some t → args[j]? = some v → Value.okWide Tryd.prog W .any base t v := hval0
  have hsz : (DataW.weightsEach Tryd.prog (Tryd.f4.params.toList ++ Rows.physFromSpec.plain.varTypes Tryd.prog) (ds ++ gs)).all (· ≤ reachBytes) = true := hsz0
  have hW' := hW
  obtain ⟨p, q, hA0, hV, rfl, hfz, hnd⟩ := hW
  have hA : DataW.TrodAll enc Tryd.prog W 0 (fun _ => true) true Tryd.f4.params.toList args.toList ds p := hA0
  rw [Tryd.params4] at hA hval hsz
  obtain ⟨v0, vs0, d0, ds0, p0, q0, hargs, rfl, rfl, h0, r0⟩ := trodAll_cons hA
  obtain ⟨v1, vs1, d1, ds1, p1, q1, rfl, rfl, rfl, h1, r1⟩ := trodAll_cons r0
  obtain ⟨rfl, rfl, rfl⟩ := trodAll_nil r1
  obtain rfl : args = #[v0, v1] := by cases args; simp_all
  obtain ⟨rfl, rfl⟩ := trodVars_none hV
  have k0 := h0
  have lt0 : ∀ x ∈ p0, x.block < W.heap.size := by obtain ⟨m, hm⟩ := h0; exact DataW.trod_lt m _ _ _ hm
  have wt0 : ∀ m ∈ d0.weights Tryd.prog 29, m ≤ reachBytes := fun m hm => by
    simpa using List.all_eq_true.1 hsz m (DataW.weights_mem_each (j := 0) rfl rfl m hm)
  have k1 := h1
  have lt1 : ∀ x ∈ p1, x.block < W.heap.size := by obtain ⟨m, hm⟩ := h1; exact DataW.trod_lt m _ _ _ hm
  have wt1 : ∀ m ∈ d1.weights Tryd.prog 26, m ≤ reachBytes := fun m hm => by
    simpa using List.all_eq_true.1 hsz m (DataW.weights_mem_each (j := 1) rfl rfl m hm)
  obtain ⟨x0, t0, rfl, hd0, ok0⟩ := sigA.open_sig (hval 0 29 v0 rfl rfl) h0 wt0
  obtain ⟨rn1, rd1, rfl, ra1, rb1⟩ := sigA.open_rat (hval 1 26 v1 rfl rfl) h1 wt1
  have hG := laidK.errT_of_laid hL (by rfl)
  clear hA0 hval0 hsz0 hL
  refine (walk x0 t0 rn1 rd1 W hd0 ok0 ra1 rb1 hG).mono fun e W' ⟨he, bel⟩ => ?_
  subst he
  exact ⟨_, rfl, _, _, _, [], _, [], hW', trodAll_mk1 (shut_bool Tryd.underlying4 _), (trodAll_cons_mk (Below.trod laidOut (by kernel_rfl) (of_decide_eq_true (by kernel_rfl)) k0 bel lt0) (trodAll_cons_mk (Below.trod laidOut (by kernel_rfl) (of_decide_eq_true (by kernel_rfl)) k1 bel lt1) trodAll_mk0)), rfl, bel.frame _, fun h => by cases h⟩

theorem over : Rows.physFromRow.holds Tryd.pinned (OpenSpec.ofChange Rows.physFromSpec) :=
  OpenClaim.holds_of_wide 4 Tryd.f4 rfl rfl rfl rfl rfl rfl rfl ⟨rfl, rfl, rfl, rfl, rfl⟩ rfl rfl rfl rfl rfl (by kernel_rfl) Tryd.func4 (by kernel_rfl)
    (of_decide_eq_true (by kernel_rfl)) (by unfold Func.isWrapper; first | (rw [if_pos (by decide +kernel)]; kernel_rfl) | (rw [if_neg (by decide +kernel)]; exact ⟨rfl, rfl⟩))
    (fun os started H enc _ => lifted os started H enc)


theorem proved : Rows.PhysFromCardSaid :=
  Claim7.holds_tied_plain_at .later [] _ true _ true
    over (fun _ h => by cases h) (by kernel_rfl) (fun _ h => by cases h) physFrom_row_tie rfl ⟨rfl, rfl⟩ (by kernel_rfl) rfl
    (fun f fn hf hfn => by
      obtain rfl : f = 4 := Option.some.inj ((show Tryd.prog.funcNamed "busbar/busbarlaw11.PhysFrom" = some 4 by kernel_rfl).symm.trans hf) |>.symm
      obtain rfl : fn = Tryd.f4 := (Option.some.inj (Tryd.func4.symm.trans hfn)).symm
      exact ⟨by kernel_rfl, fun j t ht => by
        rw [Tryd.params4] at ht
        have hm : t ∈ [29, 26] := by simpa using Array.mem_of_getElem? ht
        have hall : ([29, 26].all fun u => !Tryd.prog.wantsStandIn u) = true := by kernel_rfl
        exact (show Tryd.prog.wantsStandIn t = false by simpa using List.all_eq_true.1 hall t hm)⟩)
    (by kernel_rfl)
#print axioms proved
end Go.Proofs.YtllbpanfhlbbgaaDoor.physFrom
