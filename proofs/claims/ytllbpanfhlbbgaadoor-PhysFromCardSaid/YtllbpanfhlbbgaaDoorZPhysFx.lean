/- Walks of busbarlaw11.PhysTo and PhysFrom. Condition: errors.errorType is laid; no list of more than 2^47 bytes. -/
import Derived.Test.YtllbpanfhlbbgaaDoorZPr
import Derived.Test.YtllbpanfhlbbgaaDoorSigK
import Derived.Test.YtllbpanfhlbbgaaDoorZPk
namespace Go.Proofs.YtllbpanfhlbbgaaDoor
open Go.RowKit Go.Bus Go.Rt Go.Bus.dbK Go.Bus.rawK Go.Bus.cellK Go.Bus.lentT
set_option linter.unusedVariables false
set_option linter.unusedSimpArgs false
namespace physF
open ratW textsK sigK physW rphysW
theorem wpList_load_if {P : Program} {w : World} {T : Nat} {cs : Array Value} {d : TypeDesc} {ops : Array Oper} {rest : List Oper} {op : Oper} {a : Act} {Q : Exit → Act → World → Prop} (hw : Region.wanted op (yielded ops a.tmps) = true) (ty : TypeId) (x : Operand) (ho : op.op = .load ty x) (g : Nat) (hx : a.eval x = .pointer (some ⟨g, 0, none⟩)) (hg : Has w g T cs)
    (hu : P.underlying ty = some d) (hd : d.isRow = true) (hi : (P.info? ty).map (·.size) = some cs.size) (h : wpList P ops Q rest (a.put op.dst (.agg cs)) w) : wpList P ops Q (op :: rest) a w :=
  wpList_step fun K hK => by
    rw [if_pos hw]
    unfold Oper.wp execOp
    simp only [ho, hx, Instr.loadAt, Instr.sureAddr, Sem.run_bind, Sem.run_pure, Result.andThen_ok, load_has (P := P) hg hu hd hi]
    exact hK _ _ h
abbrev ClW (w : World) (f : FuncId) (args : Array Value) (v : Value) : Prop := ∀ W, Below w.heap.size w W → Cl1 f args v W
def LendA (s : Sig) (w : World) (e : Ending) (w' : World) : Prop := ∃ ds g c, e = .returned (.agg ds) ∧ Hid (ds = csOf s (.slice (some g) s.to.length c)) ∧ Hid (LentK w' w.heap.size 9 1 (.slice (some g) s.to.length c) s.to.length ((s.to ++ marksT).flatMap tCells)) ∧ Below w.heap.size w w'
theorem lenda {s : Sig} {w w' : World} {e : Ending} (h : Lend s w e w') : LendA s w e w' := by
  obtain ⟨g, c, rfl, h1, h2⟩ := h
  exact ⟨_, g, c, rfl, Lib.hid rfl, Lib.hid h1, h2⟩
set_option maxRecDepth 100000 in
set_option maxHeartbeats 4000000 in
theorem to_go {a b k : Int} {E : Value} (v : Int) (t0 : Value) (s : Sig) (cs : Array Value) (w : World) (HI : Hid ((Tryd.prog.info? 29).map (·.size) = some cs.size)) (HN : Hid (cs.size = 19))
    (HCS : Hid (Value.agg cs = sigV s t0)) (HS : Hid (SlK 1 strE w (Old w.heap.size) t0 s.to)) (HB2 : Hid (s.to.length * 16 ≤ 140737488351232))
    (CA : Hid (ClW w 6 #[.agg cs, .int .u64 v] (.tuple #[.agg #[.int .i64 a, .int .i64 b], .int .i64 k])))
    (CT : Hid (∀ W A m c, Cl1 8 #[.agg (csOf s (.slice A m c)), .int .u64 v] (.tuple #[.agg #[.int .i64 a, .int .i64 b], E]) W))
    (CP : Hid (ClW w 9 #[E, .int .i64 k] (.bool true))) :
    Cl1 3 #[.agg cs, .int .u64 v] (.bool true) w := by
  have HZ : Hid ((#[.int .i64 0, .int .i64 0, .string ⟨#[]⟩, .int .i64 0, .int .u64 0, .int .i64 0, .int .i64 0, .bool false, .bool false, .int .i64 0, .int .i64 0, .int .i64 0, .int .i64 0, .int .i64 0, .int .i64 0, .int .i64 0, .int .i64 0, .string ⟨#[]⟩, .slice none 0 0] : Array Value).size = 19) := Lib.hid rfl
  have CG := Lib.hid (fun (W : World) (hb : Below w.heap.size w W) => (lent_sig s t0 W (HS.out.later strE_mono hb) HB2.out))
  rw [← HCS.out] at CG
  go_enter Tryd.func3, Tryd.ntmps3
  go_wp2_with (first
    | (refine wpList_load_has rfl 29 _ rfl w.heap.size rfl (by first | exact Has.new w _ _ | exact (Has.new w _ _).alloc _ | exact HS1.out | exact HS1.out.alloc _ | exact HS2.out) Tryd.underlying29 rfl HI.out ?_)
    | (refine wpList_load_has rfl 29 _ rfl w2.heap.size rfl (by first | exact Has.new w2 _ _ | exact HD3.out) Tryd.underlying29 rfl HI2.out ?_)
    | (refine wpList_store_last rfl 29 _ _ rfl 29 _ rfl rfl HI2.out HZ2.out H12.out ?_)
    | (go_at_call 6; refine (CA.out _ (by exact (by repeat' (first | (with_reducible assumption) | (with_reducible refine Below.setCell ?_ ?_ _) | (with_reducible refine Below.alloc ?_ ?_ _) | (with_reducible refine Below.drew ?_) | (with_reducible refine below_drewN ?_ _) | (with_reducible exact Below.refl _ _) | (show _ ≤ _; (try simp); (try omega); done) | exact Below.refl _ _ | assumption)))).mono ?_; rintro e w1 ⟨rfl, hb1⟩; have hz1 := hb1.size; (try simp at hz1); have HS1 := Lib.hid (show Has w1 w.heap.size 29 cs from Has.below (by exact Has.new w _ cs) hb1 (by (try simp); (try omega))); have HW1 : Hid (Below w.heap.size w w1) := Lib.hid (Below.trans (by repeat' (first | (with_reducible assumption) | (with_reducible refine Below.setCell ?_ ?_ _) | (with_reducible refine Below.alloc ?_ ?_ _) | (with_reducible refine Below.drew ?_) | (with_reducible refine below_drewN ?_ _) | (with_reducible exact Below.refl _ _) | (show _ ≤ _; (try simp); (try omega); done) | exact Below.refl _ _ | assumption)) (hb1.mono (by (try simp); (try omega)))); clear hb1)
    | (go_at_call 7; refine (CG.out _ (HW1.out.alloc (by omega) _)).mono ?_; intro e w2 hl2; obtain ⟨ds, g, c, rfl, HDS, HY2, hb2⟩ := lenda hl2; have hz2 := hb2.size; (try simp at hz2)
       have HS2 := Lib.hid (show Has w2 w.heap.size 29 cs from Has.below (by exact HS1.out.alloc _) hb2 (by (try simp); (try omega)))
       have HR2 := Lib.hid (show Has w2 w1.heap.size 26 #[.int .i64 a, .int .i64 b] from Has.below (by exact Has.new w1 _ _) hb2 (by (try simp); (try omega)))
       have HW2 := Lib.hid (show Below w.heap.size w w2 from (HW1.out.alloc (by omega) _).trans (hb2.mono (by (try simp); (try omega))))
       clear hb2 hl2
       have HI2 : Hid ((Tryd.prog.info? 29).map (·.size) = some ds.size) := Lib.hid (by rw [HDS.out]; exact (cs_info s _).out)
       have HZ2 := Lib.hid (HZ.out.trans (show 19 = ds.size by rw [HDS.out]; rfl))
       have H12 : Hid (ds.all (·.oneCell') = true) := Lib.hid (by rw [HDS.out]; exact (cs_one s _ _ _).out))
    | (go_at_call 8; refine (show Cl1 _ _ (.tuple #[.agg #[.int .i64 a, .int .i64 b], E]) _ from by rw [HDS.out]; exact CT.out _ _ _ _).mono ?_; rintro e w3 ⟨rfl, hb3⟩; have hz3 := hb3.size; (try simp at hz3)
       have HD3 := Lib.hid (show Has w3 w2.heap.size 29 ds from Has.below (by exact Has.new w2 _ _) hb3 (by (try simp); (try omega)))
       have HS3 := Lib.hid (show Has w3 w.heap.size 29 cs from Has.below (by exact HS2.out.alloc _) hb3 (by (try simp); (try omega)))
       have HR3 := Lib.hid (show Has w3 w1.heap.size 26 #[.int .i64 a, .int .i64 b] from Has.below (by exact HR2.out.alloc _) hb3 (by (try simp); (try omega)))
       have hK : Below w2.heap.size w2 w3 := Below.trans (by repeat' (first | (with_reducible assumption) | (with_reducible refine Below.setCell ?_ ?_ _) | (with_reducible refine Below.alloc ?_ ?_ _) | (with_reducible refine Below.drew ?_) | (with_reducible refine below_drewN ?_ _) | (with_reducible exact Below.refl _ _) | (show _ ≤ _; (try simp); (try omega); done) | exact Below.refl _ _ | assumption)) (hb3.mono (by (try simp); (try omega)))
       have HY3 := Lib.hid (HY2.out.keep hK)
       have HW3 := Lib.hid (HW2.out.trans (hK.mono (by omega)))
       clear hb3 hK HY2)
    | (go_at_call 9; refine (CP.out _ (HW3.out.alloc (by omega) _)).mono ?_; rintro e w4 ⟨rfl, hb4⟩; have hz4 := hb4.size; (try simp at hz4)
       have HD4 := Lib.hid (show Has w4 w2.heap.size 29 ds from Has.below (by exact HD3.out.alloc _) hb4 (by (try simp); (try omega)))
       have HS4 := Lib.hid (show Has w4 w.heap.size 29 cs from Has.below (by exact HS3.out.alloc _) hb4 (by (try simp); (try omega)))
       have HR4 := Lib.hid (show Has w4 w1.heap.size 26 #[.int .i64 a, .int .i64 b] from Has.below (by exact HR3.out.alloc _) hb4 (by (try simp); (try omega)))
       have HG4 := Lib.hid (show Has w4 w3.heap.size 26 #[.int .i64 a, .int .i64 b] from Has.below (by exact Has.new w3 _ _) hb4 (by (try simp); (try omega)))
       have hK : Below w3.heap.size w3 w4 := Below.trans (by repeat' (first | (with_reducible assumption) | (with_reducible refine Below.setCell ?_ ?_ _) | (with_reducible refine Below.alloc ?_ ?_ _) | (with_reducible refine Below.drew ?_) | (with_reducible refine below_drewN ?_ _) | (with_reducible exact Below.refl _ _) | (show _ ≤ _; (try simp); (try omega); done) | exact Below.refl _ _ | assumption)) (hb4.mono (by (try simp); (try omega)))
       have HY4 := Lib.hid (HY3.out.keep hK)
       have HW4 := Lib.hid (HW3.out.trans (hK.mono (by omega)))
       have r0 : w4.cell? ⟨w1.heap.size, 0, none⟩ = some (.int .i64 a) := HR4.out.cell 0
       have r1 : w4.cell? ⟨w1.heap.size, 1, none⟩ = some (.int .i64 b) := HR4.out.cell 1
       have g0 : w4.cell? ⟨w3.heap.size, 0, none⟩ = some (.int .i64 a) := HG4.out.cell 0
       have g1 : w4.cell? ⟨w3.heap.size, 1, none⟩ = some (.int .i64 b) := HG4.out.cell 1
       clear hb4 hK HY3)
    | (refine wpList_load_if (by rfl) 29 _ rfl w2.heap.size rfl (by exact HD4.out) Tryd.underlying29 rfl HI2.out ?_)
    | (refine wpList_load_if (by rfl) 29 _ rfl w.heap.size rfl (by exact HS4.out) Tryd.underlying29 rfl HI.out ?_)
    | (go_at_call 10; refine (show Cl1 _ _ (.bool true) _ from by rw [HDS.out, HCS.out]; exact kept_sig s _ t0 _ _ HY4.out (HS.out.later strE_mono HW4.out) HB2.out).mono ?_; rintro e w5 ⟨rfl, hb5⟩; have HW5 := Lib.hid (HW4.out.trans (hb5.mono (by omega))); clear hb5))
  go_ret
  exact ⟨rfl, HW5.out⟩
set_option maxRecDepth 100000 in
set_option maxHeartbeats 4000000 in
theorem from_go {V k n d : Int} {E : Value} (t0 : Value) (s : Sig) (cs : Array Value) (w : World) (HI : Hid ((Tryd.prog.info? 29).map (·.size) = some cs.size)) (HN : Hid (cs.size = 19))
    (HCS : Hid (Value.agg cs = sigV s t0)) (HS : Hid (SlK 1 strE w (Old w.heap.size) t0 s.to)) (HB2 : Hid (s.to.length * 16 ≤ 140737488351232))
    (CA : Hid (ClW w 11 #[.agg cs, .agg #[.int .i64 n, .int .i64 d]] (.tuple #[.int .u64 V, .int .i64 k])))
    (CT : Hid (∀ W A m c, Cl1 12 #[.agg (csOf s (.slice A m c)), .agg #[.int .i64 n, .int .i64 d]] (.tuple #[.int .u64 V, E]) W))
    (CP : Hid (ClW w 9 #[E, .int .i64 k] (.bool true))) :
    Cl1 4 #[.agg cs, .agg #[.int .i64 n, .int .i64 d]] (.bool true) w := by
  have HZ : Hid ((#[.int .i64 0, .int .i64 0, .string ⟨#[]⟩, .int .i64 0, .int .u64 0, .int .i64 0, .int .i64 0, .bool false, .bool false, .int .i64 0, .int .i64 0, .int .i64 0, .int .i64 0, .int .i64 0, .int .i64 0, .int .i64 0, .int .i64 0, .string ⟨#[]⟩, .slice none 0 0] : Array Value).size = 19) := Lib.hid rfl
  have CG := Lib.hid (fun (W : World) (hb : Below w.heap.size w W) => (lent_sig s t0 W (HS.out.later strE_mono hb) HB2.out))
  rw [← HCS.out] at CG
  go_enter Tryd.func4, Tryd.ntmps4
  go_wp2_with (first
    | (refine wpList_load_has rfl 29 _ rfl w.heap.size rfl (by first | exact Has.new w _ _ | exact (Has.new w _ _).alloc _ | exact HS1.out | exact HS1.out.alloc _ | exact HS2.out) Tryd.underlying29 rfl HI.out ?_)
    | (refine wpList_load_has rfl 29 _ rfl w2.heap.size rfl (by first | exact Has.new w2 _ _ | exact HD3.out) Tryd.underlying29 rfl HI2.out ?_)
    | (refine wpList_store_last rfl 29 _ _ rfl 29 _ rfl rfl HI2.out HZ2.out H12.out ?_)
    | (go_at_call 11; refine (CA.out _ (by exact (by repeat' (first | (with_reducible assumption) | (with_reducible refine Below.setCell ?_ ?_ _) | (with_reducible refine Below.alloc ?_ ?_ _) | (with_reducible refine Below.drew ?_) | (with_reducible refine below_drewN ?_ _) | (with_reducible exact Below.refl _ _) | (show _ ≤ _; (try simp); (try omega); done) | exact Below.refl _ _ | assumption)))).mono ?_; rintro e w1 ⟨rfl, hb1⟩; have hz1 := hb1.size; (try simp at hz1); have HS1 := Lib.hid (show Has w1 w.heap.size 29 cs from Has.below (by exact (Has.new w _ cs).alloc _) hb1 (by (try simp); (try omega))); have HP1 := Lib.hid (show Has w1 (w.heap.size + 1) 26 #[.int .i64 n, .int .i64 d] from Has.below (by exact Has.new1 w _ _ _) hb1 (by (try simp); (try omega))); have p0 : w1.cell? ⟨w.heap.size + 1, 0, none⟩ = some (.int .i64 n) := HP1.out.cell 0; have p1 : w1.cell? ⟨w.heap.size + 1, 1, none⟩ = some (.int .i64 d) := HP1.out.cell 1; have HW1 : Hid (Below w.heap.size w w1) := Lib.hid (Below.trans (by repeat' (first | (with_reducible assumption) | (with_reducible refine Below.setCell ?_ ?_ _) | (with_reducible refine Below.alloc ?_ ?_ _) | (with_reducible refine Below.drew ?_) | (with_reducible refine below_drewN ?_ _) | (with_reducible exact Below.refl _ _) | (show _ ≤ _; (try simp); (try omega); done) | exact Below.refl _ _ | assumption)) (hb1.mono (by (try simp); (try omega)))); clear hb1)
    | (go_at_call 7; refine (CG.out _ HW1.out).mono ?_; intro e w2 hl2; obtain ⟨ds, g, c, rfl, HDS, HY2, hb2⟩ := lenda hl2; have hz2 := hb2.size; (try simp at hz2)
       have HS2 := Lib.hid (HS1.out.below hb2 (by omega))
       have HP2 := Lib.hid (HP1.out.below hb2 (by omega))
       have HW2 := Lib.hid (HW1.out.trans (hb2.mono (by omega)))
       have p20 : w2.cell? ⟨w.heap.size + 1, 0, none⟩ = some (.int .i64 n) := HP2.out.cell 0
       have p21 : w2.cell? ⟨w.heap.size + 1, 1, none⟩ = some (.int .i64 d) := HP2.out.cell 1
       have lt2 : w.heap.size + 1 < w2.heap.size := HP2.out.lt
       clear hb2 hl2
       have HI2 : Hid ((Tryd.prog.info? 29).map (·.size) = some ds.size) := Lib.hid (by rw [HDS.out]; exact (cs_info s _).out)
       have HZ2 := Lib.hid (HZ.out.trans (show 19 = ds.size by rw [HDS.out]; rfl))
       have H12 : Hid (ds.all (·.oneCell') = true) := Lib.hid (by rw [HDS.out]; exact (cs_one s _ _ _).out))
    | (go_at_call 12; refine (show Cl1 _ _ (.tuple #[.int .u64 V, E]) _ from by rw [HDS.out]; exact CT.out _ _ _ _).mono ?_; rintro e w3 ⟨rfl, hb3⟩; have hz3 := hb3.size; (try simp at hz3)
       have HD3 := Lib.hid (show Has w3 w2.heap.size 29 ds from Has.below (by exact Has.new w2 _ _) hb3 (by (try simp); (try omega)))
       have HS3 := Lib.hid (show Has w3 w.heap.size 29 cs from Has.below (by exact HS2.out.alloc _) hb3 (by (try simp); (try omega)))
       skip
       have hK : Below w2.heap.size w2 w3 := Below.trans (by repeat' (first | (with_reducible assumption) | (with_reducible refine Below.setCell ?_ ?_ _) | (with_reducible refine Below.alloc ?_ ?_ _) | (with_reducible refine Below.drew ?_) | (with_reducible refine below_drewN ?_ _) | (with_reducible exact Below.refl _ _) | (show _ ≤ _; (try simp); (try omega); done) | exact Below.refl _ _ | assumption)) (hb3.mono (by (try simp); (try omega)))
       have HY3 := Lib.hid (HY2.out.keep hK)
       have HW3 := Lib.hid (HW2.out.trans (hK.mono (by omega)))
       clear hb3 hK HY2)
    | (go_at_call 9; refine (CP.out _ HW3.out).mono ?_; rintro e w4 ⟨rfl, hb4⟩; have hz4 := hb4.size
       have HD4 := Lib.hid (HD3.out.below hb4 (by omega))
       have HS4 := Lib.hid (HS3.out.below hb4 (by omega))
       have HY4 := Lib.hid (HY3.out.keep hb4)
       have HW4 := Lib.hid (HW3.out.trans (hb4.mono (by omega)))
       clear hb4 HY3)
    | (refine wpList_load_if (by rfl) 29 _ rfl w2.heap.size rfl (by exact HD4.out) Tryd.underlying29 rfl HI2.out ?_)
    | (refine wpList_load_if (by rfl) 29 _ rfl w.heap.size rfl (by exact HS4.out) Tryd.underlying29 rfl HI.out ?_)
    | (go_at_call 10; refine (show Cl1 _ _ (.bool true) _ from by rw [HDS.out, HCS.out]; exact kept_sig s _ t0 _ _ HY4.out (HS.out.later strE_mono HW4.out) HB2.out).mono ?_; rintro e w5 ⟨rfl, hb5⟩; have HW5 := Lib.hid (HW4.out.trans (hb5.mono (by omega))); clear hb5))
  go_ret
  exact ⟨rfl, HW5.out⟩
theorem rg_errs (s : Sig) : rgE s = 0 ∨ rgE s = 1 ∨ rgE s = 10 := by
  unfold rgE; split
  · split <;> simp
  · simp
theorem toP_err {s : Sig} {u k : Int} (h : toP s u = .error k) : 1 ≤ k ∧ k ≤ 26 := by
  unfold toP at h
  have := rg_errs s
  split at h
  · cases h; omega
  split at h
  · cases h; omega
  split at h
  · cases h; omega
  split at h
  · cases h; omega
  split at h
  · cases h; omega
  split at h
  · cases h
  · cases h; omega
theorem toR_err {s : Sig} {n d k : Int} (h : toR s n d = .error k) : 1 ≤ k ∧ k ≤ 26 := by
  unfold toR at h
  have := rg_errs s
  split at h
  · cases h; omega
  split at h
  · cases h; omega
  split at h
  · cases h; omega
  split at h
  · cases h; omega
  split at h
  · cases h; omega
  split at h
  · cases h
  · cases h; omega
theorem to_val (s : Sig) (t0 : Value) (v : Int) (w : World) (v0 : 0 ≤ v) (v1 : v < 18446744073709551616) (ok : RatsOk s) (lo : RatsLo s) (hs : SlK 1 strE w (Old w.heap.size) t0 s.to) (b2 : s.to.length * 16 ≤ 140737488351232) (hG : asK.ErrT w) :
    Cl1 3 #[sigV s t0, .int .u64 v] (.bool true) w := by
  obtain ⟨A0, c0, rfl, _⟩ := hs.form
  rw [sigV_cs]
  cases h : toP s v with
  | ok p =>
    obtain ⟨a, b⟩ := p
    exact to_go (a := a) (b := b) (k := 0) (E := .nilIface) v _ s _ w (cs_info s _) (cs_size s _) (hidf rfl) (hidf hs) (hidf b2) (hidf fun W hb => by have := rtoP_val s A0 s.to.length c0 v W ok lo v0 v1; rw [rtpV_ok h] at this; exact this)
      (hidf fun W A m c => by have := toP_val s A m c v W ok v0 v1; rw [tpV_ok h] at this; exact this) (hidf fun W hb => asK.plain_nil W)
  | error k =>
    have hk := toP_err h
    exact to_go (a := 0) (b := 0) (k := k) (E := ErV k) v _ s _ w (cs_info s _) (cs_size s _) (hidf rfl) (hidf hs) (hidf b2) (hidf fun W hb => by have := rtoP_val s A0 s.to.length c0 v W ok lo v0 v1; rw [rtpV_er h] at this; exact this)
      (hidf fun W A m c => by have := toP_val s A m c v W ok v0 v1; rw [tpV_er h] at this; exact this) (hidf fun W hb => asK.plain_no k W hk.1 hk.2 (hG.at_below hb))
theorem from_val (s : Sig) (t0 : Value) (n d : Int) (w : World) (n1 : -9223372036854775808 ≤ n) (n2 : n < 9223372036854775808) (n3 : d < 9223372036854775808) (n4 : -9223372036854775808 ≤ d) (ok : RatsOk s) (lo : RatsLo s) (hs : SlK 1 strE w (Old w.heap.size) t0 s.to) (b2 : s.to.length * 16 ≤ 140737488351232) (hG : asK.ErrT w) :
    Cl1 4 #[sigV s t0, .agg #[.int .i64 n, .int .i64 d]] (.bool true) w := by
  obtain ⟨A0, c0, rfl, _⟩ := hs.form
  rw [sigV_cs]
  cases h : toR s n d with
  | ok v =>
    exact from_go (V := v) (k := 0) (E := .nilIface) _ s _ w (cs_info s _) (cs_size s _) (hidf rfl) (hidf hs) (hidf b2) (hidf fun W hb => by have := rtoR_val s A0 s.to.length c0 n d W ok lo n1 n2 n3 n4; rw [rtrV_ok h] at this; exact this)
      (hidf fun W A m c => by have := toR_val s A m c n d W ok n1 n2 n3; rw [trV_ok h] at this; exact this) (hidf fun W hb => asK.plain_nil W)
  | error k =>
    have hk := toR_err h
    exact from_go (V := 0) (k := k) (E := ErV k) _ s _ w (cs_info s _) (cs_size s _) (hidf rfl) (hidf hs) (hidf b2) (hidf fun W hb => by have := rtoR_val s A0 s.to.length c0 n d W ok lo n1 n2 n3 n4; rw [rtrV_er h] at this; exact this)
      (hidf fun W A m c => by have := toR_val s A m c n d W ok n1 n2 n3; rw [trV_er h] at this; exact this) (hidf fun W hb => asK.plain_no k W hk.1 hk.2 (hG.at_below hb))
end physF
end Go.Proofs.YtllbpanfhlbbgaaDoor
