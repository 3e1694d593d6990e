/- The methods of code.table that make fields of their own. No condition. -/
import Derived.Test.YtbbfpbmogklomaaGreatDoorZKh
import Derived.Test.YtbbfpbmogklomaaGreatDoorZKf
namespace Go.Proofs.YtbbfpbmogklomaaGreatDoor
open Go.RowKit Go.Bus Go.Bus.cellK Go.Bus.codeK
set_option linter.unusedVariables false
set_option linter.unusedSimpArgs false
namespace codeW
/-- Behind move's call: its row, and what its fields are. -/
def BSt (w W : World) (g : Nat) (c0 c1 c2 c3 c4 d0 d1 d2 d3 d4 g0 g1 g2 g3 g4 : Value) : Prop :=
  W.ownsRow w.heap.size 60 5 (.slice (some ⟨g, 0, none⟩) 3 3) 3 [c0, c1, c2, c3, c4, d0, d1, d2, d3, d4, g0, g1, g2, g3, g4] ∧ (W.os = w.os ∧ W.tape = w.tape ∧ W.output = w.output ∧ w.heap.size ≤ W.heap.size ∧ ∀ k, k < w.heap.size → W.heap[k]? = w.heap[k]?) ∧ w.heap.size ≤ g ∧ g < W.heap.size ∧
  FieldE W (Iv w.heap.size g) [d0, d1, d2, d3, d4] codeK.start ∧ FieldE W (Iv w.heap.size g) [g0, g1, g2, g3, g4] .bytes
def BEnd (w W : World) (v : Value) : Prop := SlK 5 FieldE W (Old W.heap.size) v [reg, codeK.start, .bytes, .number] ∧ Below w.heap.size w W ∧ ∀ k, v.ownBlock = some k → w.heap.size ≤ k
theorem BSt.of {w w0 W : World} {c0 c1 c2 c3 c4 : Value} {e : Ending} (h : MovePost w0 c0 c1 c2 c3 c4 e W) (h0 : Below w.heap.size w w0) : ∃ g d0 d1 d2 d3 d4 g0 g1 g2 g3 g4, e = .returned (.slice (some ⟨g, 0, none⟩) 3 3) ∧ BSt w W g c0 c1 c2 c3 c4 d0 d1 d2 d3 d4 g0 g1 g2 g3 g4 ∧ Below w0.heap.size w0 W ∧ w0.heap.size ≤ g := by
  obtain ⟨g, d0, d1, d2, d3, d4, g0, g1, g2, g3, g4, he, hH, hg, h1, h2, hb⟩ := h
  have hB := h0.trans (hb.mono h0.size)
  refine ⟨g, d0, d1, d2, d3, d4, g0, g1, g2, g3, g4, he, ⟨own_base (own_of_has hH rfl (Nat.le_refl g) (by simp [maxLen])) (Nat.le_trans h0.size hg), ⟨hB.os, hB.tape, hB.output, hB.size, hB.block⟩, Nat.le_trans h0.size hg, hH.lt, ?_, ?_⟩, hb, hg⟩
  · exact FieldE.later h1 (fun b hb' => ⟨Nat.le_trans h0.size hb'.1, hb'.2⟩) (fun b hb' => hb'.2) (Below.refl g _)
  · exact FieldE.later h2 (fun b hb' => ⟨Nat.le_trans h0.size hb'.1, hb'.2⟩) (fun b hb' => hb'.2) (Below.refl g _)
theorem BSt.alloc {w W : World} {g : Nat} {c0 c1 c2 c3 c4 d0 d1 d2 d3 d4 g0 g1 g2 g3 g4 : Value} (h : BSt w W g c0 c1 c2 c3 c4 d0 d1 d2 d3 d4 g0 g1 g2 g3 g4) (o : Obj) : BSt w (W.alloc o) g c0 c1 c2 c3 c4 d0 d1 d2 d3 d4 g0 g1 g2 g3 g4 := by
  obtain ⟨ho, ⟨a1, a2, a3, a4, a5⟩, hg, gl, h1, h2⟩ := h
  have hb : Below g W (W.alloc o) := (Below.refl g W).alloc (Nat.le_of_lt gl) o
  have hb' : Below w.heap.size w (W.alloc o) := (Below.mk a1 a2 a3 a4 a5).alloc a4 o
  exact ⟨ho.alloc _, ⟨hb'.os, hb'.tape, hb'.output, hb'.size, hb'.block⟩, hg, by simp; omega, FieldE.later h1 (fun _ h => h) (fun b hb' => hb'.2) hb, FieldE.later h2 (fun _ h => h) (fun b hb' => hb'.2) hb⟩
def SB (w : World) (T : Array Value) (W : World) : Prop := (∀ i, W.cell? ⟨w.heap.size, i, none⟩ = T[i]?) ∧ Below w.heap.size w W ∧ w.heap.size < W.heap.size
theorem SB.drew {w W : World} {T : Array Value} (h : SB w T W) : SB w T W.drew := ⟨h.1, h.2.1.drew, h.2.2⟩
theorem SB.alloc {w W : World} {T : Array Value} (h : SB w T W) (o : Obj) : SB w T (W.alloc o) := ⟨fun i => (World.cell?_alloc_lt W o ⟨_, i, none⟩ h.2.2).trans (h.1 i), h.2.1.alloc (Nat.le_of_lt h.2.2) o, by have := h.2.2; simp; omega⟩
theorem SB.below {w W W1 : World} {T : Array Value} (h : SB w T W) (hb : Below W.heap.size W W1) : SB w T W1 := ⟨fun i => (hb.cell (p := ⟨w.heap.size, i, none⟩) h.2.2).trans (h.1 i), h.2.1.trans (hb.mono (Nat.le_of_lt h.2.2)), Nat.lt_of_lt_of_le h.2.2 hb.size⟩
theorem SB.grown {w W W3 : World} {T : Array Value} {g : Nat} (h : SB w T W) (hg : W.grownBy W3 (some g)) (hne : w.heap.size < g) : SB w T W3 :=
  ⟨fun i => (World.cell?_of_block (a := ⟨w.heap.size, i, none⟩) (hg.block _ h.2.2 (fun e => by have h9 : w.heap.size = g := Option.some.inj e; omega))).trans (h.1 i), h.2.1.grown hg (Nat.le_of_lt h.2.2) (fun k hk => by cases hk; omega), Nat.lt_of_lt_of_le h.2.2 hg.size⟩
theorem infoTabC {c0 c1 c2 c3 c4 c5 c6 c7 c8 c9 c10 c11 c12 c13 c14 c15 c16 c17 c18 c19 : Value} : (Tryz.prog.info? 96).map (·.size) = some (#[c0, c1, c2, c3, c4, c5, c6, c7, c8, c9, c10, c11, c12, c13, c14, c15, c16, c17, c18, c19] : Array Value).size := by
  have h : (Tryz.prog.info? 96).map (·.size) = some 20 := by kernel_rfl
  exact h
theorem step_load_has {P : Program} {w : World} {T : Nat} {cs : Array Value} {d : TypeDesc} {ops : Array Oper} {o : Oper} {a : Act} {K : Act → World → Prop} {Q : Exit → Act → World → Prop} {E : Prop} (hgd : o.guard = none) (ty : TypeId) (x : Operand) (ho : o.op = .load ty x) (g : Nat) (hx : a.eval x = .pointer (some ⟨g, 0, none⟩)) (hg : Has w g T cs)
    (hu : P.underlying ty = some d) (hd : d.isRow = true) (hi : (P.info? ty).map (·.size) = some cs.size) (h : K (a.put o.dst (.agg cs)) w) : if Region.wanted o (yielded ops a.tmps) = true then Oper.wp P o a w K Q else E := by
  have hw : Region.wanted o (yielded ops a.tmps) = true := by simp [Region.wanted, hgd]
  rw [if_pos hw]
  unfold Oper.wp execOp
  simp only [ho, hx, Instr.loadAt, Instr.sureAddr, Sem.run_bind, Sem.run_pure, Result.andThen_ok, load_has (P := P) hg hu hd hi]
  exact h
/-- The append at blend's end. -/
theorem step_blend {w W : World} {g p : Nat} {c0 c1 c2 c3 c4 c5 c6 c7 c8 c9 c10 c11 c12 c13 c14 c15 c16 c17 c18 c19 d0 d1 d2 d3 d4 g0 g1 g2 g3 g4 : Value} {ops : Array Oper} {o : Oper} {a : Act} {K : Act → World → Prop} {Q : Exit → Act → World → Prop} {E : Prop} (hgd : o.guard = none) (ho : o.op = .call { callee := .builtin .append, args := #[.tmp 4, .tmp 7], argTypes := #[51, 51] })
    (hs : a.eval (.tmp 4) = .slice (some ⟨g, 0, none⟩) 3 3) (hx : a.eval (.tmp 7) = .slice (some ⟨p, 0, none⟩) 1 1) (hT : TabE w (Old w.heap.size) c0 c1 c2 c3 c4 c5 c6 c7 c8 c9 c10 c11 c12 c13 c14 c15 c16 c17 c18 c19) (hB : BSt w W g c0 c1 c2 c3 c4 d0 d1 d2 d3 d4 g0 g1 g2 g3 g4) (hp : Has W p 60 #[c15, c16, c17, c18, c19])
    (h : ∀ v W3, BEnd w W3 v → W.grownBy W3 (some g) → K (a.put o.dst v) W3) : if Region.wanted o (yielded ops a.tmps) = true then Oper.wp Tryz.prog o a W K Q else E := by
  obtain ⟨i0, hi, hz0, hz1, hz2⟩ := info_parts Tryz.infoF
  obtain ⟨hown, ⟨a1, a2, a3, a4, a5⟩, hg, gl, h1, h2⟩ := hB
  refine step_append_lies W hgd (.tmp 4) (.tmp 7) 51 ho w.heap.size 60 i0 (.agg #[.nilFunc, .nilFunc, .nilFunc, .nilFunc, .nilFunc]) 5 40 Tryz.underlying51 hi hz0 hz1 hz2 rfl (by decide) _ 3 _ hs hown ⟨p, 0, none⟩ 1 1 [c15, c16, c17, c18, c19] hx rfl (has_news (cs := [c15, c16, c17, c18, c19]) hp) (FieldE_one _ _ _ _ hT.i) (by omega) (by unfold maxLen; omega) (by omega) a4 _ rfl ?_
  intro gg c W3 hown1 hg1 hgg hlt1
  have hbl : Below w.heap.size w W3 := Below.grown (Below.mk a1 a2 a3 a4 a5) hg1 a4 (fun k hk => by cases hk; exact hg)
  have hbg : Below g W W3 := Below.grown (Below.refl g W) hg1 (Nat.le_of_lt gl) (fun k hk => by cases hk; exact Nat.le_refl g)
  have hg3 : g < W3.heap.size := Nat.lt_of_lt_of_le gl hbg.size
  refine h _ _ ⟨⟨_, src_of_own hown1 (fun k hk => (hown1.lt k hk).2), fun i x hi => ?_⟩, hbl, fun k hk => (hown1.lt k hk).1⟩ hg1
  match i, hi with
  | 0, hi => cases hi; exact FieldE.old hT.r hbl
  | 1, hi => cases hi; exact FieldE.later h1 (fun b hb' => Nat.lt_trans hb'.2 hg3) (fun b hb' => hb'.2) hbg
  | 2, hi => cases hi; exact FieldE.later h2 (fun b hb' => Nat.lt_trans hb'.2 hg3) (fun b hb' => hb'.2) hbg
  | 3, hi => cases hi; exact FieldE.old hT.i hbl
  | n + 4, hi => simp at hi
set_option maxRecDepth 100000 in
set_option maxHeartbeats 1000000 in
theorem blend_any {c0 c1 c2 c3 c4 c5 c6 c7 c8 c9 c10 c11 c12 c13 c14 c15 c16 c17 c18 c19 : Value} (w : World) (hT : TabE w (Old w.heap.size) c0 c1 c2 c3 c4 c5 c6 c7 c8 c9 c10 c11 c12 c13 c14 c15 c16 c17 c18 c19) : Calls Tryz.prog 55 #[.agg #[c0, c1, c2, c3, c4, c5, c6, c7, c8, c9, c10, c11, c12, c13, c14, c15, c16, c17, c18, c19]] w (MPost [reg, codeK.start, .bytes, .number] w) := by
  have HT := Lib.hid hT; clear hT
  obtain ⟨T, hTT⟩ : ∃ T : Array Value, T = #[c0, c1, c2, c3, c4, c5, c6, c7, c8, c9, c10, c11, c12, c13, c14, c15, c16, c17, c18, c19] := ⟨_, rfl⟩
  rw [← hTT]
  have HTT := Lib.hid hTT; clear hTT
  go_enter Tryz.func55, Tryz.ntmps55
  go_wp2
  have hH0 : Has (w.alloc (.cells T 96)) w.heap.size 96 T := Has.new w _ _
  have hB0 : Below w.heap.size w (w.alloc (.cells T 96)) := (Below.refl _ _).alloc (Nat.le_refl _) _
  generalize w.alloc (.cells T 96) = W0 at hH0 hB0 ⊢
  rw [HTT.out] at hH0
  have hz : w.heap.size < W0.heap.size := hH0.lt
  have j0 : W0.cell? ⟨w.heap.size, 0, none⟩ = some c0 := hH0.cell 0
  have j1 : W0.cell? ⟨w.heap.size, 1, none⟩ = some c1 := hH0.cell 1
  have j2 : W0.cell? ⟨w.heap.size, 2, none⟩ = some c2 := hH0.cell 2
  have j3 : W0.cell? ⟨w.heap.size, 3, none⟩ = some c3 := hH0.cell 3
  have j4 : W0.cell? ⟨w.heap.size, 4, none⟩ = some c4 := hH0.cell 4
  have j5 : W0.cell? ⟨w.heap.size, 5, none⟩ = some c5 := hH0.cell 5
  have j6 : W0.cell? ⟨w.heap.size, 6, none⟩ = some c6 := hH0.cell 6
  have j7 : W0.cell? ⟨w.heap.size, 7, none⟩ = some c7 := hH0.cell 7
  have j8 : W0.cell? ⟨w.heap.size, 8, none⟩ = some c8 := hH0.cell 8
  have j9 : W0.cell? ⟨w.heap.size, 9, none⟩ = some c9 := hH0.cell 9
  have j10 : W0.cell? ⟨w.heap.size, 10, none⟩ = some c10 := hH0.cell 10
  have j11 : W0.cell? ⟨w.heap.size, 11, none⟩ = some c11 := hH0.cell 11
  have j12 : W0.cell? ⟨w.heap.size, 12, none⟩ = some c12 := hH0.cell 12
  have j13 : W0.cell? ⟨w.heap.size, 13, none⟩ = some c13 := hH0.cell 13
  have j14 : W0.cell? ⟨w.heap.size, 14, none⟩ = some c14 := hH0.cell 14
  have j15 : W0.cell? ⟨w.heap.size, 15, none⟩ = some c15 := hH0.cell 15
  have j16 : W0.cell? ⟨w.heap.size, 16, none⟩ = some c16 := hH0.cell 16
  have j17 : W0.cell? ⟨w.heap.size, 17, none⟩ = some c17 := hH0.cell 17
  have j18 : W0.cell? ⟨w.heap.size, 18, none⟩ = some c18 := hH0.cell 18
  have j19 : W0.cell? ⟨w.heap.size, 19, none⟩ = some c19 := hH0.cell 19
  have HTW0 := Lib.hid hH0; clear hH0
  refine wp_region_any (by kernel_rfl) ?_
  change wpAny _ _ _ _ _ _ _ (World.drew _)
  refine wpAny_take (i := 2) (v := .pointer (some ⟨w.heap.size, 15, none⟩)) rfl (by kernel_rfl) (by kernel_rfl) (by kernel_rfl) (fun _ _ _ h => h) (Or.inl ⟨by rfl, by intro W; go_simp⟩) ?_
  refine wpAny_ready (rs := [0, 3]) (by kernel_rfl) (by simp) ?_
  refine AllReady.cons rfl (fun K hK => ?_) (AllReady.cons rfl (fun K hK => ?_) AllReady.nil)
  · refine step_load_has rfl 96 (.tmp 1) rfl w.heap.size rfl (by exact HTW0.out) Tryz.underlying96 rfl infoTabC ?_
    refine hK _ _ ?_
    refine wpAny_ready (rs := [1, 3]) (by kernel_rfl) (by simp) ?_
    refine AllReady.cons rfl (fun K hK => ?_) (AllReady.cons rfl (fun K hK => ?_) AllReady.nil)
    · go_simp
      go_at_call 54
      refine (move_own _).mono ?_
      intro e W1 hmv
      obtain ⟨g, d0, d1, d2, d3, d4, g0, g1, g2, g3, g4, rfl, hbs, hb, hgg⟩ := BSt.of (w := w) hmv (by repeat' (first | (with_reducible assumption) | (with_reducible refine Below.setCell ?_ ?_ _) | (with_reducible refine Below.alloc ?_ ?_ _) | (with_reducible refine Below.drew ?_) | (with_reducible refine below_drewN ?_ _) | (with_reducible exact Below.refl _ _) | (show _ ≤ _; (try simp); (try omega); done) | exact Below.refl _ _ | assumption))
      clear hmv
      have hT1 : Has W1 w.heap.size 96 #[c0, c1, c2, c3, c4, c5, c6, c7, c8, c9, c10, c11, c12, c13, c14, c15, c16, c17, c18, c19] := Has.below (by exact HTW0.out) hb (by simp; omega)
      clear j0 j1 j2 j3 j4 j5 j6 j7 j8 j9 j10 j11 j12 j13 j14 j15 j16 j17 j18 j19
      have j15 : W1.cell? ⟨w.heap.size, 15, none⟩ = some c15 := hT1.cell 15
      have j16 : W1.cell? ⟨w.heap.size, 16, none⟩ = some c16 := hT1.cell 16
      have j17 : W1.cell? ⟨w.heap.size, 17, none⟩ = some c17 := hT1.cell 17
      have j18 : W1.cell? ⟨w.heap.size, 18, none⟩ = some c18 := hT1.cell 18
      have j19 : W1.cell? ⟨w.heap.size, 19, none⟩ = some c19 := hT1.cell 19
      have z1 : w.heap.size < W1.heap.size := hT1.lt
      clear hT1
      have HB := Lib.hid hbs
      clear hbs hb
      refine hK _ _ ?_
      refine wpAny_ready (rs := [3]) (by kernel_rfl) (by simp) ?_
      refine AllReady.cons rfl (fun K hK => ?_) AllReady.nil
      go_simp
      refine hK _ _ ?_
      refine wpAny_ready (rs := [4]) (by kernel_rfl) (by simp) ?_
      refine AllReady.cons rfl (fun K hK => ?_) AllReady.nil
      go_simp
      refine hK _ _ ?_
      refine wpAny_ready (rs := [5]) (by kernel_rfl) (by simp) ?_
      refine AllReady.cons rfl (fun K hK => ?_) AllReady.nil
      refine step_blend (w := w) (W := W1.alloc (.cells #[c15, c16, c17, c18, c19] 60)) (g := g) (p := W1.heap.size) rfl rfl rfl rfl HT.out (by exact HB.out.alloc _) (by exact Has.new W1 _ _) ?_
      intro v W3 hE hgr
      refine hK _ _ ?_
      have HE := Lib.hid hE
      clear hE hgr
      refine wpAny_ready (rs := [6]) (by kernel_rfl) (by simp) ?_
      refine AllReady.cons rfl (fun K hK => ?_) AllReady.nil
      go_simp
      refine hK _ _ ?_
      refine wpAny_done (by kernel_rfl) ?_ _
      go_wp2
      go_ret
      exact ⟨_, rfl, HE.out.1, HE.out.2⟩
    · go_simp
      refine hK _ _ ?_
      refine wpAny_ready (rs := [1, 4]) (by kernel_rfl) (by simp) ?_
      refine AllReady.cons rfl (fun K hK => ?_) (AllReady.cons rfl (fun K hK => ?_) AllReady.nil)
      · go_simp
        go_at_call 54
        refine (move_own _).mono ?_
        intro e W1 hmv
        obtain ⟨g, d0, d1, d2, d3, d4, g0, g1, g2, g3, g4, rfl, hbs, hb, hgg⟩ := BSt.of (w := w) hmv (by repeat' (first | (with_reducible assumption) | (with_reducible refine Below.setCell ?_ ?_ _) | (with_reducible refine Below.alloc ?_ ?_ _) | (with_reducible refine Below.drew ?_) | (with_reducible refine below_drewN ?_ _) | (with_reducible exact Below.refl _ _) | (show _ ≤ _; (try simp); (try omega); done) | exact Below.refl _ _ | assumption))
        clear hmv
        have hT1 : Has W1 w.heap.size 96 #[c0, c1, c2, c3, c4, c5, c6, c7, c8, c9, c10, c11, c12, c13, c14, c15, c16, c17, c18, c19] := Has.below (by exact HTW0.out) hb (by simp; omega)
        clear j0 j1 j2 j3 j4 j5 j6 j7 j8 j9 j10 j11 j12 j13 j14 j15 j16 j17 j18 j19
        have j15 : W1.cell? ⟨w.heap.size, 15, none⟩ = some c15 := hT1.cell 15
        have j16 : W1.cell? ⟨w.heap.size, 16, none⟩ = some c16 := hT1.cell 16
        have j17 : W1.cell? ⟨w.heap.size, 17, none⟩ = some c17 := hT1.cell 17
        have j18 : W1.cell? ⟨w.heap.size, 18, none⟩ = some c18 := hT1.cell 18
        have j19 : W1.cell? ⟨w.heap.size, 19, none⟩ = some c19 := hT1.cell 19
        have z1 : w.heap.size < W1.heap.size := hT1.lt
        clear hT1
        have HB := Lib.hid hbs
        clear hbs hb
        refine hK _ _ ?_
        refine wpAny_ready (rs := [4]) (by kernel_rfl) (by simp) ?_
        refine AllReady.cons rfl (fun K hK => ?_) AllReady.nil
        go_simp
        refine hK _ _ ?_
        refine wpAny_ready (rs := [5]) (by kernel_rfl) (by simp) ?_
        refine AllReady.cons rfl (fun K hK => ?_) AllReady.nil
        refine step_blend (w := w) (W := W1.alloc (.cells #[c15, c16, c17, c18, c19] 60)) (g := g) (p := W1.heap.size) rfl rfl rfl rfl HT.out (by exact HB.out.alloc _) (by exact Has.new W1 _ _) ?_
        intro v W3 hE hgr
        refine hK _ _ ?_
        have HE := Lib.hid hE
        clear hE hgr
        refine wpAny_ready (rs := [6]) (by kernel_rfl) (by simp) ?_
        refine AllReady.cons rfl (fun K hK => ?_) AllReady.nil
        go_simp
        refine hK _ _ ?_
        refine wpAny_done (by kernel_rfl) ?_ _
        go_wp2
        go_ret
        exact ⟨_, rfl, HE.out.1, HE.out.2⟩
      · go_simp
        refine hK _ _ ?_
        refine wpAny_ready (rs := [1]) (by kernel_rfl) (by simp) ?_
        refine AllReady.cons rfl (fun K hK => ?_) AllReady.nil
        go_simp
        go_at_call 54
        refine (move_own _).mono ?_
        intro e W1 hmv
        obtain ⟨g, d0, d1, d2, d3, d4, g0, g1, g2, g3, g4, rfl, hbs, hb, hgg⟩ := BSt.of (w := w) hmv (by repeat' (first | (with_reducible assumption) | (with_reducible refine Below.setCell ?_ ?_ _) | (with_reducible refine Below.alloc ?_ ?_ _) | (with_reducible refine Below.drew ?_) | (with_reducible refine below_drewN ?_ _) | (with_reducible exact Below.refl _ _) | (show _ ≤ _; (try simp); (try omega); done) | exact Below.refl _ _ | assumption))
        clear hmv
        have HI : Hid (Has W1 W0.heap.size 60 #[c15, c16, c17, c18, c19]) := Lib.hid (Has.below (by exact has_new _ _ _ _ rfl) hb (by simp))
        have HB := Lib.hid hbs
        clear hbs hb
        refine hK _ _ ?_
        refine wpAny_ready (rs := [5]) (by kernel_rfl) (by simp) ?_
        refine AllReady.cons rfl (fun K hK => ?_) AllReady.nil
        refine step_blend (w := w) (W := W1) (g := g) (p := W0.heap.size) rfl rfl rfl rfl HT.out (by exact HB.out) (by exact HI.out) ?_
        intro v W3 hE hgr
        refine hK _ _ ?_
        have HE := Lib.hid hE
        clear hE hgr
        refine wpAny_ready (rs := [6]) (by kernel_rfl) (by simp) ?_
        refine AllReady.cons rfl (fun K hK => ?_) AllReady.nil
        go_simp
        refine hK _ _ ?_
        refine wpAny_done (by kernel_rfl) ?_ _
        go_wp2
        go_ret
        exact ⟨_, rfl, HE.out.1, HE.out.2⟩
  · go_simp
    refine hK _ _ ?_
    refine wpAny_ready (rs := [0, 4]) (by kernel_rfl) (by simp) ?_
    refine AllReady.cons rfl (fun K hK => ?_) (AllReady.cons rfl (fun K hK => ?_) AllReady.nil)
    · refine step_load_has rfl 96 (.tmp 1) rfl w.heap.size rfl (by exact HTW0.out) Tryz.underlying96 rfl infoTabC ?_
      refine hK _ _ ?_
      refine wpAny_ready (rs := [1, 4]) (by kernel_rfl) (by simp) ?_
      refine AllReady.cons rfl (fun K hK => ?_) (AllReady.cons rfl (fun K hK => ?_) AllReady.nil)
      · go_simp
        go_at_call 54
        refine (move_own _).mono ?_
        intro e W1 hmv
        obtain ⟨g, d0, d1, d2, d3, d4, g0, g1, g2, g3, g4, rfl, hbs, hb, hgg⟩ := BSt.of (w := w) hmv (by repeat' (first | (with_reducible assumption) | (with_reducible refine Below.setCell ?_ ?_ _) | (with_reducible refine Below.alloc ?_ ?_ _) | (with_reducible refine Below.drew ?_) | (with_reducible refine below_drewN ?_ _) | (with_reducible exact Below.refl _ _) | (show _ ≤ _; (try simp); (try omega); done) | exact Below.refl _ _ | assumption))
        clear hmv
        have hT1 : Has W1 w.heap.size 96 #[c0, c1, c2, c3, c4, c5, c6, c7, c8, c9, c10, c11, c12, c13, c14, c15, c16, c17, c18, c19] := Has.below (by exact HTW0.out) hb (by simp; omega)
        clear j0 j1 j2 j3 j4 j5 j6 j7 j8 j9 j10 j11 j12 j13 j14 j15 j16 j17 j18 j19
        have j15 : W1.cell? ⟨w.heap.size, 15, none⟩ = some c15 := hT1.cell 15
        have j16 : W1.cell? ⟨w.heap.size, 16, none⟩ = some c16 := hT1.cell 16
        have j17 : W1.cell? ⟨w.heap.size, 17, none⟩ = some c17 := hT1.cell 17
        have j18 : W1.cell? ⟨w.heap.size, 18, none⟩ = some c18 := hT1.cell 18
        have j19 : W1.cell? ⟨w.heap.size, 19, none⟩ = some c19 := hT1.cell 19
        have z1 : w.heap.size < W1.heap.size := hT1.lt
        clear hT1
        have HB := Lib.hid hbs
        clear hbs hb
        refine hK _ _ ?_
        refine wpAny_ready (rs := [4]) (by kernel_rfl) (by simp) ?_
        refine AllReady.cons rfl (fun K hK => ?_) AllReady.nil
        go_simp
        refine hK _ _ ?_
        refine wpAny_ready (rs := [5]) (by kernel_rfl) (by simp) ?_
        refine AllReady.cons rfl (fun K hK => ?_) AllReady.nil
        refine step_blend (w := w) (W := W1.alloc (.cells #[c15, c16, c17, c18, c19] 60)) (g := g) (p := W1.heap.size) rfl rfl rfl rfl HT.out (by exact HB.out.alloc _) (by exact Has.new W1 _ _) ?_
        intro v W3 hE hgr
        refine hK _ _ ?_
        have HE := Lib.hid hE
        clear hE hgr
        refine wpAny_ready (rs := [6]) (by kernel_rfl) (by simp) ?_
        refine AllReady.cons rfl (fun K hK => ?_) AllReady.nil
        go_simp
        refine hK _ _ ?_
        refine wpAny_done (by kernel_rfl) ?_ _
        go_wp2
        go_ret
        exact ⟨_, rfl, HE.out.1, HE.out.2⟩
      · go_simp
        refine hK _ _ ?_
        refine wpAny_ready (rs := [1]) (by kernel_rfl) (by simp) ?_
        refine AllReady.cons rfl (fun K hK => ?_) AllReady.nil
        go_simp
        go_at_call 54
        refine (move_own _).mono ?_
        intro e W1 hmv
        obtain ⟨g, d0, d1, d2, d3, d4, g0, g1, g2, g3, g4, rfl, hbs, hb, hgg⟩ := BSt.of (w := w) hmv (by repeat' (first | (with_reducible assumption) | (with_reducible refine Below.setCell ?_ ?_ _) | (with_reducible refine Below.alloc ?_ ?_ _) | (with_reducible refine Below.drew ?_) | (with_reducible refine below_drewN ?_ _) | (with_reducible exact Below.refl _ _) | (show _ ≤ _; (try simp); (try omega); done) | exact Below.refl _ _ | assumption))
        clear hmv
        have HI : Hid (Has W1 W0.heap.size 60 #[c15, c16, c17, c18, c19]) := Lib.hid (Has.below (by exact has_new _ _ _ _ rfl) hb (by simp))
        have HB := Lib.hid hbs
        clear hbs hb
        refine hK _ _ ?_
        refine wpAny_ready (rs := [5]) (by kernel_rfl) (by simp) ?_
        refine AllReady.cons rfl (fun K hK => ?_) AllReady.nil
        refine step_blend (w := w) (W := W1) (g := g) (p := W0.heap.size) rfl rfl rfl rfl HT.out (by exact HB.out) (by exact HI.out) ?_
        intro v W3 hE hgr
        refine hK _ _ ?_
        have HE := Lib.hid hE
        clear hE hgr
        refine wpAny_ready (rs := [6]) (by kernel_rfl) (by simp) ?_
        refine AllReady.cons rfl (fun K hK => ?_) AllReady.nil
        go_simp
        refine hK _ _ ?_
        refine wpAny_done (by kernel_rfl) ?_ _
        go_wp2
        go_ret
        exact ⟨_, rfl, HE.out.1, HE.out.2⟩
    · go_simp
      refine hK _ _ ?_
      refine wpAny_ready (rs := [0]) (by kernel_rfl) (by simp) ?_
      refine AllReady.cons rfl (fun K hK => ?_) AllReady.nil
      refine step_load_has rfl 96 (.tmp 1) rfl w.heap.size rfl (by exact HTW0.out.alloc _) Tryz.underlying96 rfl infoTabC ?_
      refine hK _ _ ?_
      refine wpAny_ready (rs := [1]) (by kernel_rfl) (by simp) ?_
      refine AllReady.cons rfl (fun K hK => ?_) AllReady.nil
      go_simp
      go_at_call 54
      refine (move_own _).mono ?_
      intro e W1 hmv
      obtain ⟨g, d0, d1, d2, d3, d4, g0, g1, g2, g3, g4, rfl, hbs, hb, hgg⟩ := BSt.of (w := w) hmv (by repeat' (first | (with_reducible assumption) | (with_reducible refine Below.setCell ?_ ?_ _) | (with_reducible refine Below.alloc ?_ ?_ _) | (with_reducible refine Below.drew ?_) | (with_reducible refine below_drewN ?_ _) | (with_reducible exact Below.refl _ _) | (show _ ≤ _; (try simp); (try omega); done) | exact Below.refl _ _ | assumption))
      clear hmv
      have HI : Hid (Has W1 W0.heap.size 60 #[c15, c16, c17, c18, c19]) := Lib.hid (Has.below (by exact has_new _ _ _ _ rfl) hb (by simp))
      have HB := Lib.hid hbs
      clear hbs hb
      refine hK _ _ ?_
      refine wpAny_ready (rs := [5]) (by kernel_rfl) (by simp) ?_
      refine AllReady.cons rfl (fun K hK => ?_) AllReady.nil
      refine step_blend (w := w) (W := W1) (g := g) (p := W0.heap.size) rfl rfl rfl rfl HT.out (by exact HB.out) (by exact HI.out) ?_
      intro v W3 hE hgr
      refine hK _ _ ?_
      have HE := Lib.hid hE
      clear hE hgr
      refine wpAny_ready (rs := [6]) (by kernel_rfl) (by simp) ?_
      refine AllReady.cons rfl (fun K hK => ?_) AllReady.nil
      go_simp
      refine hK _ _ ?_
      refine wpAny_done (by kernel_rfl) ?_ _
      go_wp2
      go_ret
      exact ⟨_, rfl, HE.out.1, HE.out.2⟩
end codeW
end Go.Proofs.YtbbfpbmogklomaaGreatDoor
