/- Walks of the document's fractions (busbarref02): size, Of. Condition: the numbers' ranges. -/
import Derived.Test.YtllbpanfhlbbgaaDoorNatC
import Derived.Test.YtllbpanfhlbbgaaDoorNatQ
import Derived.Deep.RegionHeld3
import Derived.Outline
import Derived.Test.YtllbpanfhlbbgaaDoorRes
namespace Go.Proofs.YtllbpanfhlbbgaaDoor
open Go.RowKit Go.Bus Go.Nt
set_option linter.unusedVariables false
set_option linter.unusedSimpArgs false
namespace natW
theorem ret_u64n {a b : Int} (h : a = b) : Ending.returned (.int .u64 a) = Ending.returned (.int .u64 b) := by rw [h]
/-- A fraction of the document's. -/
def FrV (w : World) (v : Value) (neg : Bool) (N D : Nat) : Prop := ∃ x y, v = .agg #[.bool neg, x, y] ∧ Nt w x N ∧ Nt w y D
theorem FrV.at_below {w W : World} {v : Value} {neg : Bool} {N D : Nat} (h : FrV w v neg N D) (hb : Below w.heap.size w W) : FrV W v neg N D := by
  obtain ⟨x, y, e, h1, h2⟩ := h
  exact ⟨x, y, e, h1.at_below hb, h2.at_below hb⟩
set_option maxRecDepth 100000 in
set_option maxHeartbeats 1000000 in
theorem rsize_any (n : Int) (w : World) (h1 : -9223372036854775808 ≤ n) (h2 : n < 9223372036854775808) :
    Calls Tryd.prog 64 #[.int .i64 n] w fun e w' => e = .returned (.int .u64 (n.natAbs : Int)) ∧ w = w' := by
  by_cases h : n < 0
  · go_enter Tryd.func64, Tryd.ntmps64
    go_wp2
    go_ret
    exact ⟨ret_u64n (by (try simp only [IntKind.wrap_u64]); omega), rfl⟩
  · go_enter Tryd.func64, Tryd.ntmps64
    go_wp2
    go_ret
    exact ⟨ret_u64n (by (try simp only [IntKind.wrap_u64]); omega), rfl⟩

theorem Nt.set_far {w : World} {v : Value} {n B : Nat} (h : Nt w v n) (hn : NB B v) {p : Addr} (hp : p.block < B) (u : Value) : Nt (w.setCell p u) v n := by
  obtain ⟨A, cap, rfl, e1, e2, hx⟩ := h
  refine ⟨A, cap, rfl, e1, e2, fun h0 => ?_⟩
  obtain ⟨b, off, rfl, hb, hcell⟩ := hx h0
  refine ⟨b, off, rfl, by simpa using hb, fun i x hi => ?_⟩
  have hne := hn b off _ _ rfl
  exact (World.cell?_setCell_other (w := w) (a := p) (b := ⟨b, off + i, none⟩) (v := u) (fun e => by rw [e] at hp; dsimp only at hp; omega)).trans (hcell i x hi)
theorem nt_heap {w W : World} {v : Value} {n : Nat} (h : Nt w v n) (e : w.heap = W.heap) : Nt W v n := by
  unfold Nt at *
  rw [← e]
  exact Sl.keep h (Nat.le_refl _) (fun b o _ => by simp only [World.cell?, e])
theorem NB.mono {B B' : Nat} {v : Value} (h : NB B v) (hB : B' ≤ B) : NB B' v := fun b o n c e => Nat.le_trans hB (h b o n c e)

set_option maxRecDepth 100000 in
set_option maxHeartbeats 2000000 in
theorem of_any (n d : Int) (w : World) (h1 : -9223372036854775808 ≤ n) (h2 : n < 9223372036854775808) (h3 : -9223372036854775808 ≤ d) (h4 : d < 9223372036854775808) :
    Calls Tryd.prog 45 #[.agg #[.int .i64 n, .int .i64 d]] w fun e w' => ∃ v, e = .returned v ∧ FrV w' v (decide (n < 0)) n.natAbs d.natAbs ∧ Below w.heap.size w w' := by
  have C1 : Hid (∀ W, Calls Tryd.prog 64 #[.int .i64 n] W fun e w' => e = .returned (.int .u64 (n.natAbs : Int)) ∧ W = w') := Lib.hid fun W => rsize_any n W h1 h2
  have C2 : Hid (∀ W, Calls Tryd.prog 64 #[.int .i64 d] W fun e w' => e = .returned (.int .u64 (d.natAbs : Int)) ∧ W = w') := Lib.hid fun W => rsize_any d W h3 h4
  have C3 : Hid (∀ W, Calls Tryd.prog 63 #[.int .u64 (n.natAbs : Int)] W fun e w' => ∃ A m c, e = .returned (.slice A m c) ∧ Nt w' (.slice A m c) n.natAbs ∧ NB W.heap.size (.slice A m c) ∧ Below W.heap.size W w') := Lib.hid fun W => (from_new _ W (by omega)).mono fun e w' ⟨u, h1, h2, h3, h4⟩ => by obtain ⟨A, c, rfl, _⟩ := Sl.form h2; exact ⟨A, _, c, h1, h2, h3, h4⟩
  have C4 : Hid (∀ W, Calls Tryd.prog 63 #[.int .u64 (d.natAbs : Int)] W fun e w' => ∃ A m c, e = .returned (.slice A m c) ∧ Nt w' (.slice A m c) d.natAbs ∧ NB W.heap.size (.slice A m c) ∧ Below W.heap.size W w') := Lib.hid fun W => (from_new _ W (by omega)).mono fun e w' ⟨u, h1, h2, h3, h4⟩ => by obtain ⟨A, c, rfl, _⟩ := Sl.form h2; exact ⟨A, _, c, h1, h2, h3, h4⟩
  generalize n.natAbs = N at *
  generalize d.natAbs = D at *
  clear h1 h2 h3 h4
  go_enter Tryd.func45, Tryd.ntmps45
  go_wp2
  have hH0 : Has ((w.alloc (Obj.cells #[.int .i64 n, .int .i64 d] 26)).alloc (Obj.cells #[.bool false, .slice none 0 0, .slice none 0 0] 84)) w.heap.size 26 #[.int .i64 n, .int .i64 d] := (Has.new w _ _).alloc _
  have hH1 : Has ((w.alloc (Obj.cells #[.int .i64 n, .int .i64 d] 26)).alloc (Obj.cells #[.bool false, .slice none 0 0, .slice none 0 0] 84)) (w.heap.size + 1) 84 #[.bool false, .slice none 0 0, .slice none 0 0] := by have h := Has.new (w.alloc (Obj.cells #[.int .i64 n, .int .i64 d] 26)) 84 #[.bool false, .slice none 0 0, .slice none 0 0]; simpa using h
  have hB : Below w.heap.size w ((w.alloc (Obj.cells #[.int .i64 n, .int .i64 d] 26)).alloc (Obj.cells #[.bool false, .slice none 0 0, .slice none 0 0] 84)) := (by repeat' (first | (with_reducible assumption) | (with_reducible refine Below.setCell ?_ ?_ _) | (with_reducible refine Below.alloc ?_ ?_ _) | (with_reducible refine Below.drew ?_) | (with_reducible refine below_drewN ?_ _) | (with_reducible exact Below.refl _ _) | (show _ ≤ _; (try simp); (try omega); done) | exact Below.refl _ _ | assumption))
  generalize (w.alloc (Obj.cells #[.int .i64 n, .int .i64 d] 26)).alloc (Obj.cells #[.bool false, .slice none 0 0, .slice none 0 0] 84) = W0 at hH0 hH1 hB ⊢
  have k0 : W0.cell? ⟨w.heap.size, 0, none⟩ = some (.int .i64 n) := hH0.cell 0
  have k1 : W0.cell? ⟨w.heap.size, 1, none⟩ = some (.int .i64 d) := hH0.cell 1
  have kz := hH1.lt
  go_region_held3 (fun W => W.cell? ⟨w.heap.size, 0, none⟩ = some (.int .i64 n) ∧ W.cell? ⟨w.heap.size, 1, none⟩ = some (.int .i64 d) ∧ w.heap.size + 1 < W.heap.size)
    (first | exact ⟨by exact k0, by exact k1, by exact kz⟩ | exact ⟨by assumption, by assumption, by assumption⟩ | exact ⟨by go_simp; done, by go_simp; done, by first | assumption | (simp; omega)⟩)
    (first
      | (go_at_call 64; refine (C1.out _).mono ?_; rintro e w1 ⟨rfl, rfl⟩; clear C1)
      | (go_at_call 64; refine (C2.out _).mono ?_; rintro e w1 ⟨rfl, rfl⟩; clear C2)
      | (go_at_call 63; refine (C3.out _).mono ?_; rintro e w1 ⟨A1, m1, c1, rfl, hu1, hn1, hb1⟩; (try go_split_ands); have q0 : w1.cell? ⟨w.heap.size, 0, none⟩ = some (.int .i64 n) := (hb1.cell (p := ⟨w.heap.size, 0, none⟩) (by dsimp only; omega)).trans (by assumption); have q1 : w1.cell? ⟨w.heap.size, 1, none⟩ = some (.int .i64 d) := (hb1.cell (p := ⟨w.heap.size, 1, none⟩) (by dsimp only; omega)).trans (by assumption); have q2 : w.heap.size + 1 < w1.heap.size := Nat.lt_of_lt_of_le (by assumption) hb1.size; have hK1 : Has w1 (w.heap.size + 1) 84 #[.bool false, .slice none 0 0, .slice none 0 0] := Has.below (by exact hH1) hb1 (by omega); clear C3)
      | (go_at_call 63; refine (C4.out _).mono ?_; rintro e w2 ⟨A2, m2, c2, rfl, hu2, hn2, hb2⟩; (try go_split_ands); have q0 : w2.cell? ⟨w.heap.size, 0, none⟩ = some (.int .i64 n) := (hb2.cell (p := ⟨w.heap.size, 0, none⟩) (by dsimp only; omega)).trans (by assumption); have q1 : w2.cell? ⟨w.heap.size, 1, none⟩ = some (.int .i64 d) := (hb2.cell (p := ⟨w.heap.size, 1, none⟩) (by dsimp only; omega)).trans (by assumption); have q2 : w.heap.size + 1 < w2.heap.size := Nat.lt_of_lt_of_le (by assumption) hb2.size; have hK2 : Has w2 (w.heap.size + 1) 84 #[.bool false, .slice none 0 0, .slice none 0 0] := Has.below (by exact hK1) hb2 (by omega); have r0 := hK2.cell 0; have r1 := hK2.cell 1; have r2 := hK2.cell 2; have f0 := hK2.frozen 0; have f1 := hK2.frozen 1; have f2 := hK2.frozen 2; simp at r0 r1 r2; clear C4))
  have HK := Lib.hid hK2
  have HU1 := Lib.hid (hu1.at_below hb2)
  have HU2 := Lib.hid hu2
  have HN1 := Lib.hid (hn1.mono (B' := w.heap.size + 2) (by show w.heap.size + 2 ≤ W0.heap.size; omega))
  have HN2 := Lib.hid (hn2.mono (B' := w.heap.size + 2) (by omega))
  have HBB := Lib.hid ((show Below w.heap.size w W0.drew from hB.drew).trans ((hb1.mono (show w.heap.size ≤ W0.heap.size by omega)).trans (hb2.mono (by omega))))
  clear hK1 hK2 hu1 hu2 hn1 hn2 hB hb1 hb2 r0 r1 r2 f0 f1 f2 hH0 hH1 k0 k1 kz
  go_wp2
  refine bodyPost_ret (results_block (g := w.heap.size + 1) (T := 84) rfl rfl (by exact ((HK.out.set 0 _).set 1 _).set 2 _) rfl Tryd.underlying84 rfl (by kernel_rfl)) rfl ?_
  refine ⟨_, rfl, ⟨_, _, rfl, ?_, ?_⟩, ?_⟩
  · exact ((HU1.out.set_far HN1.out (by dsimp only; omega) _).set_far HN1.out (by dsimp only; omega) _).set_far HN1.out (by dsimp only; omega) _
  · exact ((HU2.out.set_far HN2.out (by dsimp only; omega) _).set_far HN2.out (by dsimp only; omega) _).set_far HN2.out (by dsimp only; omega) _
  · exact ((HBB.out.setCell (by dsimp only; omega) _).setCell (by dsimp only; omega) _).setCell (by dsimp only; omega) _
end natW
end Go.Proofs.YtllbpanfhlbbgaaDoor
