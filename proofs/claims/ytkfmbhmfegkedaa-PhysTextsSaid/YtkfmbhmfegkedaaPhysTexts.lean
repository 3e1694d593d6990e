/- Proves PhysTextsSaid: of any rows, signal, raw value and text: what the document answers; memory. No condition. -/
import Derived.Test.YtkfmbhmfegkedaaRows
import Derived.Test.YtkfmbhmfegkedaaPhysTx
import Derived.Test.YtkfmbhmfegkedaaSigOpen
import Derived.Test.YtkfmbhmfegkedaaOpen
namespace Go.Proofs.Ytkfmbhmfegkedaa.physTexts
open Go.RowKit Go.Bus Go.Bus.cellK Go.Bus.dbK Go.ChangeShapes Go.WideShapes Go.ChangeAt Go.Joins
set_option linter.unusedVariables false
theorem rats {x : Sig} (h : SigOk x) : physW.RatsOk x := by
  obtain ⟨_, _, _, _, _, _, _, a, b, c, d, e, f, g, i, _, _⟩ := h
  constructor <;> omega
theorem walk (L : Value) (l : List RowD) (x : Sig) (t : Value) (u : Int) (s : ByteArray) (W : World) (hl : SlK 2 rowE W (Old W.heap.size) L l) (hok : ∀ r ∈ l, RowOk r) (hb : l.length * 24 ≤ 140737488351232) (hs : SlK 1 strE W (Old W.heap.size) t x.to) (ok : SigOk x) (g : 0 ≤ u ∧ u < 18446744073709551616) :
    Calls Try.prog 3 #[L, .agg (sigCells x t).toArray, .int .u64 u, .string s] W fun e w' => e = .returned (.bool true) ∧ Below W.heap.size W w' :=
  physW.texts_val l L x t u s W g.1 g.2 (rats ok) hl hok hs hb ok.to
/-! The row's step. -/
theorem own : ownKnob Try.prog.godebug = none := by kernel_rfl
theorem laidOut : laidOutB Try.prog = true := by kernel_rfl

set_option maxRecDepth 100000 in
theorem lifted (os : Os) (started : os.Started) (H : Type) (enc : TypeId × Value → H) :
    ReturnsInHanded {} Try.checked os 3 .any (Rows.physTextsSpec.pre6 enc Try.prog Try.f3 Rows.physTextsRow.domain false) (Rows.physTextsSpec.post enc Try.prog Try.f3 false true false false) := by
  refine returnsInHanded_of_change_sized (C := Try.checked) own started (by kernel_rfl) Try.func3
    (ChangeSpec.witness6 (enc := enc) (C := Try.checked) false ⟨#[], #[.slice none 0 0, .agg #[.int .i64 0, .int .i64 0, .string ByteArray.empty, .int .i64 0, .int .u64 0, .int .i64 0, .int .i64 0, .bool false, .bool false, .int .i64 0, .int .i64 0, .int .i64 0, .int .i64 0, .int .i64 0, .int .i64 0, .int .i64 0, .int .i64 0, .string ByteArray.empty, .slice none 0 0], .int .u64 0, .string ByteArray.empty], []⟩ 8 (by kernel_rfl) (by kernel_rfl) (by kernel_rfl) (by kernel_rfl)) ?_
  intro W base args ds gs before hval0 hW hcnd hsz0 _
  have hval : ∀ (j : Nat) t v, Try.f3.params[j]? = some t → args[j]? = some v → Value.okWide Try.prog W .any base t v := hval0
  have hsz : (DataW.weightsEach Try.prog (Try.f3.params.toList ++ Rows.physTextsSpec.plain.varTypes Try.prog) (ds ++ gs)).all (· ≤ reachBytes) = true := hsz0
  have hW' := hW
  obtain ⟨p, q, hA0, hV, rfl, hfz, hnd⟩ := hW
  have hA : DataW.TrodAll enc Try.prog W 0 (fun _ => true) true Try.f3.params.toList args.toList ds p := hA0
  rw [Try.params3] at hA hval hsz
  obtain ⟨v0, vs0, d0, ds0, p0, q0, hargs, rfl, rfl, h0, r0⟩ := trodAll_cons hA
  obtain ⟨v1, vs1, d1, ds1, p1, q1, rfl, rfl, rfl, h1, r1⟩ := trodAll_cons r0
  obtain ⟨v2, vs2, d2, ds2, p2, q2, rfl, rfl, rfl, h2, r2⟩ := trodAll_cons r1
  obtain ⟨v3, vs3, d3, ds3, p3, q3, rfl, rfl, rfl, h3, r3⟩ := trodAll_cons r2
  obtain ⟨rfl, rfl, rfl⟩ := trodAll_nil r3
  obtain rfl : args = #[v0, v1, v2, v3] := by cases args; simp_all
  obtain ⟨rfl, rfl⟩ := trodVars_none hV
  have k0 := h0
  have lt0 : ∀ x ∈ p0, x.block < W.heap.size := by obtain ⟨m, hm⟩ := h0; exact DataW.trod_lt m _ _ _ hm
  have wt0 : ∀ m ∈ d0.weights Try.prog 22, m ≤ reachBytes := fun m hm => by
    simpa using List.all_eq_true.1 hsz m (DataW.weights_mem_each (j := 0) rfl rfl m hm)
  have k1 := h1
  have lt1 : ∀ x ∈ p1, x.block < W.heap.size := by obtain ⟨m, hm⟩ := h1; exact DataW.trod_lt m _ _ _ hm
  have wt1 : ∀ m ∈ d1.weights Try.prog 30, m ≤ reachBytes := fun m hm => by
    simpa using List.all_eq_true.1 hsz m (DataW.weights_mem_each (j := 1) rfl rfl m hm)
  have k2 := h2
  have lt2 : ∀ x ∈ p2, x.block < W.heap.size := by obtain ⟨m, hm⟩ := h2; exact DataW.trod_lt m _ _ _ hm
  have wt2 : ∀ m ∈ d2.weights Try.prog 25, m ≤ reachBytes := fun m hm => by
    simpa using List.all_eq_true.1 hsz m (DataW.weights_mem_each (j := 2) rfl rfl m hm)
  have k3 := h3
  have lt3 : ∀ x ∈ p3, x.block < W.heap.size := by obtain ⟨m, hm⟩ := h3; exact DataW.trod_lt m _ _ _ hm
  have wt3 : ∀ m ∈ d3.weights Try.prog 9, m ≤ reachBytes := fun m hm => by
    simpa using List.all_eq_true.1 hsz m (DataW.weights_mem_each (j := 3) rfl rfl m hm)
  obtain ⟨l0, hd0, ok0, bd0⟩ := sigA.open_rows (hval 0 22 v0 rfl rfl) h0 wt0
  obtain ⟨x1, t1, rfl, hd1, ok1⟩ := sigA.open_sig (hval 1 30 v1 rfl rfl) h1 wt1
  obtain ⟨x2, rfl, rfl, rfl, g2⟩ := open_int Try.underlying25 (hval 2 25 v2 rfl rfl) h2
  obtain ⟨x3, rfl, rfl, rfl, g3⟩ := Go.ChangeMaps.open_string Try.underlying9 (hval 3 9 v3 rfl rfl) h3
  clear hA0 hval0 hsz0
  refine (walk v0 l0 x1 t1 x2 x3 W hd0 ok0 bd0 hd1 ok1 (wf_u64 g2)).mono fun e W' ⟨he, bel⟩ => ?_
  subst he
  exact ⟨_, rfl, _, _, _, [], _, [], hW', trodAll_mk1 (shut_bool Try.underlying4 _), (trodAll_cons_mk (Below.trod laidOut (by kernel_rfl) (of_decide_eq_true (by kernel_rfl)) k0 bel lt0) (trodAll_cons_mk (Below.trod laidOut (by kernel_rfl) (of_decide_eq_true (by kernel_rfl)) k1 bel lt1) (trodAll_cons_mk (shut_int Try.underlying25 g2) (trodAll_cons_mk (Go.ChangeMaps.shut_string Try.underlying9 g3) trodAll_mk0)))), rfl, bel.frame _, fun h => by cases h⟩

theorem over : Rows.physTextsRow.holds Try.pinned (OpenSpec.ofChange Rows.physTextsSpec) :=
  OpenClaim.holds_of_wide 3 Try.f3 rfl rfl rfl rfl rfl rfl rfl ⟨rfl, rfl, rfl, rfl, rfl⟩ rfl rfl rfl rfl rfl (by kernel_rfl) Try.func3 (by kernel_rfl)
    (of_decide_eq_true (by kernel_rfl)) (by unfold Func.isWrapper; first | (rw [if_pos (by decide +kernel)]; kernel_rfl) | (rw [if_neg (by decide +kernel)]; exact ⟨rfl, rfl⟩))
    (fun os started H enc _ => lifted os started H enc)

theorem proved : Rows.PhysTextsSaid := over
#print axioms proved
end Go.Proofs.Ytkfmbhmfegkedaa.physTexts
