/- Proves PhysNearestSaid: of any signal and fraction: what is answered fits and is the nearest. No condition. -/
import Derived.Test.YtkfmbhmfegkedaaRows
import Derived.Test.YtkfmbhmfegkedaaPhysN
import Derived.Test.YtkfmbhmfegkedaaSigOpen
import Derived.Test.YtkfmbhmfegkedaaOpen
namespace Go.Proofs.Ytkfmbhmfegkedaa.physNearest
open Go.RowKit Go.Bus Go.Bus.cellK Go.Bus.dbK Go.ChangeShapes Go.WideShapes Go.ChangeAt Go.Joins Go.Bus.rawK
set_option linter.unusedVariables false
open physW ratW
theorem tdiv_rng {n : Int} {d : Nat} (hd : 0 < d) (h1 : -9223372036854775808 ≤ n) (h2 : n < 9223372036854775808) : -9223372036854775808 ≤ n.tdiv d ∧ n.tdiv d < 9223372036854775808 := by
  rcases (by omega : n < 0 ∨ 0 ≤ n) with hn | hn
  · obtain ⟨m, rfl⟩ : ∃ m : Nat, n = -(m : Int) := ⟨n.natAbs, by omega⟩
    rw [Int.neg_tdiv, ← Int.ofNat_tdiv]
    have := Nat.div_le_self m d
    generalize m / d = x at *
    omega
  · obtain ⟨m, rfl⟩ : ∃ m : Nat, n = (m : Int) := ⟨n.natAbs, by omega⟩
    rw [← Int.ofNat_tdiv]
    have := Nat.div_le_self m d
    generalize m / d = x at *
    omega
theorem tmod_rng {n : Int} {d : Nat} (hd : 0 < d) : -(d : Int) < n.tmod d ∧ n.tmod d < d := by
  rcases (by omega : n < 0 ∨ 0 ≤ n) with hn | hn
  · obtain ⟨m, rfl⟩ : ∃ m : Nat, n = -(m : Int) := ⟨n.natAbs, by omega⟩
    rw [Int.neg_tmod, ← Int.ofNat_tmod]
    have := Nat.mod_lt m hd
    omega
  · obtain ⟨m, rfl⟩ : ∃ m : Nat, n = (m : Int) := ⟨n.natAbs, by omega⟩
    rw [← Int.ofNat_tmod]
    have := Nat.mod_lt m hd
    omega
theorem wr {n : Int} (h1 : -9223372036854775808 ≤ n) (h2 : n < 9223372036854775808) : IntKind.i64.wrap n = n := by rw [IntKind.wrap_i64]; omega
theorem near_val (s : Sig) (A : Option Addr) (m c : Nat) (n d : Int) (w : World) (ok : RatsOk s) (n1 : -9223372036854775808 ≤ n) (n2 : n < 9223372036854775808) (n3 : d < 9223372036854775808) :
    Cl1 5 #[sigV s (.slice A m c), .agg #[.int .i64 n, .int .i64 d]] (.bool true) w := by
  have C1 : Hid (Cl 15 #[] (.bool true)) := hidf fun w => works_val w
  have C2 : Hid (Cl 17 #[.agg (csOf s (.slice A m c)), .agg #[.int .i64 n, .int .i64 d]] (trV s n d)) := hidf fun w => toR_val s A m c n d w ok n1 n2 n3
  have HN := cs_size s (.slice A m c)
  have HI := cs_info s (.slice A m c)
  have H1 := cs_one s A m c
  rw [sigV_cs]
  cases h : toR s n d with
  | error k =>
    rw [trV_er h] at C2
    exact near_er (v := 0) (sz := 0) (on := 0) (od := 0) (sn := 0) (sd := 0) (q1 := 0) (q2 := 0) (r1 := 0) (r2 := 0) (wq := 0) (rt := 0) (rn := 0) (rs := 0) (Z := 0) _ w HN HI H1 C1 C2
  | ok v =>
    rw [trV_ok h] at C2
    obtain ⟨⟨q1, q2⟩, ⟨r1, r2⟩, N⟩ := phys_near h
    obtain ⟨p1, p2⟩ := sg_parts N.hs
    have C3 : Hid (∀ w, Calls Try.prog 18 #[.int .u64 v, .int .i64 s.size, .bool s.sgn] w fun e w' => e = .returned (.bool true) ∧ w = w') := hidf fun w => by rw [← N.fit]; exact rawW.fits_any _ _ _ w N.v0 N.v1
    have C4 : Hid (Cl 19 #[.agg #[.int .i64 n, .int .i64 d], .agg #[.int .i64 s.on, .int .i64 s.od]] (.tuple #[.agg #[.int .i64 q1, .int .i64 q2], .nilIface])) := hidf fun w => by
      rw [← sumV_of' (p := (q1, q2)) N.hr p2 N.sub]; exact sub_val n d s.on s.od w n1 n2 n3 ok.on.1 ok.on.2 ok.od
    have C5 : Hid (Cl 20 #[.agg #[.int .i64 q1, .int .i64 q2], .agg #[.int .i64 s.sn, .int .i64 s.sd]] (.tuple #[.agg #[.int .i64 r1, .int .i64 r2], .nilIface])) := hidf fun w => by
      rw [← divV_of (p := (r1, r2)) N.qr p1 N.hz N.dv]; exact div_val q1 q2 s.sn s.sd w N.c1 N.c2 N.c3 ok.sn.1 ok.sn.2 ok.sd
    have wz : IntKind.i64.wrap v = wrap64 v := by unfold wrap64; rw [IntKind.wrap_i64]
    have num := N.num
    have den := N.den
    have bd := N.bd
    have b1 := N.b1
    have b2 := N.b2
    simp only at num den bd b1 b2
    obtain ⟨k, rfl⟩ : ∃ k : Nat, r2 = k := ⟨r2.toNat, by omega⟩
    have k0 : 0 < k := by omega
    have hZ := rndZ_rng den b1 b2
    rw [rndZ_near k0] at num hZ
    obtain ⟨t1, t2⟩ := tdiv_rng k0 b1 b2
    obtain ⟨t3, t4⟩ := tmod_rng (n := r1) k0
    have hq := wr t1 t2
    rw [num] at wz
    have h2 : ((k : Int) == 0) = false := by rw [beq_eq_false_iff_ne]; omega
    have h2n : ¬ (k : Int) = 0 := by omega
    have hp : s.sgn = false → v / 2 ^ 63 = 0 ∧ v < 9223372036854775808 := fun hg => ⟨Int.ediv_eq_zero_of_lt N.v0 (N.pos hg), N.pos hg⟩
    have v0 := N.v0
    generalize hW : r1.tdiv k = W at *
    generalize hr : r1.tmod k = T at *
    rcases (by omega : T < 0 ∨ 0 ≤ T) with hn | hn
    · rw [if_pos hn] at wz hZ
      have wn := wr (n := -T) (by omega) (by omega)
      have ws := wr (n := (k : Int) - -T) (by omega) (by omega)
      rcases (by omega : (k : Int) - T.natAbs ≤ T.natAbs ∨ ¬ (k : Int) - T.natAbs ≤ T.natAbs) with hg | hg
      · rw [if_pos hg] at wz hZ
        have wa := wr (n := W + -1) (by omega) (by omega)
        cases hs : s.sgn
        · rw [hs] at C3
          exact near_ftt (k := 0) _ w HN HI H1 C1 C2 rfl (by rw [← hs]; rfl) C3 rfl rfl C4 rfl rfl C5 (hp hs).1 v0 (hp hs).2 wz h2 h2n (hW.symm ▸ hq) hr (decide_eq_true hn) wn ws (decide_eq_true (by omega)) wa
        · rw [hs] at C3
          exact near_ttt (k := 0) _ w HN HI H1 C1 C2 rfl (by rw [← hs]; rfl) C3 rfl rfl C4 rfl rfl C5 wz h2 h2n (hW.symm ▸ hq) hr (decide_eq_true hn) wn ws (decide_eq_true (by omega)) wa
      · rw [if_neg hg] at wz hZ
        cases hs : s.sgn
        · rw [hs] at C3
          exact near_ftf (k := 0) _ w HN HI H1 C1 C2 rfl (by rw [← hs]; rfl) C3 rfl rfl C4 rfl rfl C5 (hp hs).1 v0 (hp hs).2 wz h2 h2n (hW.symm ▸ hq) hr (decide_eq_true hn) wn ws (decide_eq_false (by omega)) rfl
        · rw [hs] at C3
          exact near_ttf (k := 0) _ w HN HI H1 C1 C2 rfl (by rw [← hs]; rfl) C3 rfl rfl C4 rfl rfl C5 wz h2 h2n (hW.symm ▸ hq) hr (decide_eq_true hn) wn ws (decide_eq_false (by omega)) rfl
    · rw [if_neg (by omega : ¬ T < 0)] at wz hZ
      have ws := wr (n := (k : Int) - T) (by omega) (by omega)
      rcases (by omega : (k : Int) - T.natAbs ≤ T.natAbs ∨ ¬ (k : Int) - T.natAbs ≤ T.natAbs) with hg | hg
      · rw [if_pos hg] at wz hZ
        have wa := wr (n := W + 1) (by omega) (by omega)
        cases hs : s.sgn
        · rw [hs] at C3
          exact near_fft (k := 0) (rn := 0) _ w HN HI H1 C1 C2 rfl (by rw [← hs]; rfl) C3 rfl rfl C4 rfl rfl C5 (hp hs).1 v0 (hp hs).2 wz h2 h2n (hW.symm ▸ hq) hr (decide_eq_false (by omega)) ws (decide_eq_true (by omega)) wa
        · rw [hs] at C3
          exact near_tft (k := 0) (rn := 0) _ w HN HI H1 C1 C2 rfl (by rw [← hs]; rfl) C3 rfl rfl C4 rfl rfl C5 wz h2 h2n (hW.symm ▸ hq) hr (decide_eq_false (by omega)) ws (decide_eq_true (by omega)) wa
      · rw [if_neg hg] at wz hZ
        cases hs : s.sgn
        · rw [hs] at C3
          exact near_fff (k := 0) (rn := 0) _ w HN HI H1 C1 C2 rfl (by rw [← hs]; rfl) C3 rfl rfl C4 rfl rfl C5 (hp hs).1 v0 (hp hs).2 wz h2 h2n (hW.symm ▸ hq) hr (decide_eq_false (by omega)) ws (decide_eq_false (by omega)) rfl
        · rw [hs] at C3
          exact near_tff (k := 0) (rn := 0) _ w HN HI H1 C1 C2 rfl (by rw [← hs]; rfl) C3 rfl rfl C4 rfl rfl C5 wz h2 h2n (hW.symm ▸ hq) hr (decide_eq_false (by omega)) ws (decide_eq_false (by omega)) rfl
theorem rats {x : Sig} (h : SigOk x) : physW.RatsOk x := by
  obtain ⟨_, _, _, _, _, _, _, a, b, c, d, e, f, g, i, _, _⟩ := h
  constructor <;> omega
theorem walk (x : Sig) (t : Value) (n d : Int) (W : World) (hs : SlK 1 strE W (Old W.heap.size) t x.to) (ok : SigOk x) (g : I64 n) (g' : I64 d) :
    Calls Try.prog 5 #[.agg (sigCells x t).toArray, .agg #[.int .i64 n, .int .i64 d]] W fun e w' => e = .returned (.bool true) ∧ Below W.heap.size W w' := by
  obtain ⟨A, c, rfl, _⟩ := hs.form
  exact near_val x A _ c n d W (rats ok) g.1 (by have := g.2; omega) (by have := g'.2; omega)
/-! The row's step. -/
theorem own : ownKnob Try.prog.godebug = none := by kernel_rfl
theorem laidOut : laidOutB Try.prog = true := by kernel_rfl

set_option maxRecDepth 100000 in
theorem lifted (os : Os) (started : os.Started) (H : Type) (enc : TypeId × Value → H) :
    ReturnsInHanded {} Try.checked os 5 .any (Rows.physNearestSpec.pre6 enc Try.prog Try.f5 Rows.physNearestRow.domain false) (Rows.physNearestSpec.post enc Try.prog Try.f5 false true false false) := by
  refine returnsInHanded_of_change_sized (C := Try.checked) own started (by kernel_rfl) Try.func5
    (ChangeSpec.witness6 (enc := enc) (C := Try.checked) false ⟨#[], #[.agg #[.int .i64 0, .int .i64 0, .string ByteArray.empty, .int .i64 0, .int .u64 0, .int .i64 0, .int .i64 0, .bool false, .bool false, .int .i64 0, .int .i64 0, .int .i64 0, .int .i64 0, .int .i64 0, .int .i64 0, .int .i64 0, .int .i64 0, .string ByteArray.empty, .slice none 0 0], .agg #[.int .i64 0, .int .i64 0]], []⟩ 8 (by kernel_rfl) (by kernel_rfl) (by kernel_rfl) (by kernel_rfl)) ?_
  intro W base args ds gs before hval0 hW hcnd hsz0 _
  have hval : ∀ (j : Nat) t v, Try.f5.params[j]? = some t → args[j]? = some v → Value.okWide Try.prog W .any base t v := hval0
  have hsz : (DataW.weightsEach Try.prog (Try.f5.params.toList ++ Rows.physNearestSpec.plain.varTypes Try.prog) (ds ++ gs)).all (· ≤ reachBytes) = true := hsz0
  have hW' := hW
  obtain ⟨p, q, hA0, hV, rfl, hfz, hnd⟩ := hW
  have hA : DataW.TrodAll enc Try.prog W 0 (fun _ => true) true Try.f5.params.toList args.toList ds p := hA0
  rw [Try.params5] at hA hval hsz
  obtain ⟨v0, vs0, d0, ds0, p0, q0, hargs, rfl, rfl, h0, r0⟩ := trodAll_cons hA
  obtain ⟨v1, vs1, d1, ds1, p1, q1, rfl, rfl, rfl, h1, r1⟩ := trodAll_cons r0
  obtain ⟨rfl, rfl, rfl⟩ := trodAll_nil r1
  obtain rfl : args = #[v0, v1] := by cases args; simp_all
  obtain ⟨rfl, rfl⟩ := trodVars_none hV
  have k0 := h0
  have lt0 : ∀ x ∈ p0, x.block < W.heap.size := by obtain ⟨m, hm⟩ := h0; exact DataW.trod_lt m _ _ _ hm
  have wt0 : ∀ m ∈ d0.weights Try.prog 30, m ≤ reachBytes := fun m hm => by
    simpa using List.all_eq_true.1 hsz m (DataW.weights_mem_each (j := 0) rfl rfl m hm)
  have k1 := h1
  have lt1 : ∀ x ∈ p1, x.block < W.heap.size := by obtain ⟨m, hm⟩ := h1; exact DataW.trod_lt m _ _ _ hm
  have wt1 : ∀ m ∈ d1.weights Try.prog 27, m ≤ reachBytes := fun m hm => by
    simpa using List.all_eq_true.1 hsz m (DataW.weights_mem_each (j := 1) rfl rfl m hm)
  obtain ⟨x0, t0, rfl, hd0, ok0⟩ := sigA.open_sig (hval 0 30 v0 rfl rfl) h0 wt0
  obtain ⟨rn1, rd1, rfl, ra1, rb1⟩ := sigA.open_rat (hval 1 27 v1 rfl rfl) h1 wt1
  clear hA0 hval0 hsz0
  refine (walk x0 t0 rn1 rd1 W hd0 ok0 ra1 rb1).mono fun e W' ⟨he, bel⟩ => ?_
  subst he
  exact ⟨_, rfl, _, _, _, [], _, [], hW', trodAll_mk1 (shut_bool Try.underlying4 _), (trodAll_cons_mk (Below.trod laidOut (by kernel_rfl) (of_decide_eq_true (by kernel_rfl)) k0 bel lt0) (trodAll_cons_mk (Below.trod laidOut (by kernel_rfl) (of_decide_eq_true (by kernel_rfl)) k1 bel lt1) trodAll_mk0)), rfl, bel.frame _, fun h => by cases h⟩

theorem over : Rows.physNearestRow.holds Try.pinned (OpenSpec.ofChange Rows.physNearestSpec) :=
  OpenClaim.holds_of_wide 5 Try.f5 rfl rfl rfl rfl rfl rfl rfl ⟨rfl, rfl, rfl, rfl, rfl⟩ rfl rfl rfl rfl rfl (by kernel_rfl) Try.func5 (by kernel_rfl)
    (of_decide_eq_true (by kernel_rfl)) (by unfold Func.isWrapper; first | (rw [if_pos (by decide +kernel)]; kernel_rfl) | (rw [if_neg (by decide +kernel)]; exact ⟨rfl, rfl⟩))
    (fun os started H enc _ => lifted os started H enc)

theorem proved : Rows.PhysNearestSaid := over
#print axioms proved
end Go.Proofs.Ytkfmbhmfegkedaa.physNearest
