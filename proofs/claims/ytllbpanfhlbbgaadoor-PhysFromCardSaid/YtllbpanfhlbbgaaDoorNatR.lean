/- Walk of busbarref02.Right. Condition: the numbers' ranges. -/
import Derived.Test.YtllbpanfhlbbgaaDoorNatL
import Derived.Test.YtllbpanfhlbbgaaDoorRatR
namespace Go.Proofs.YtllbpanfhlbbgaaDoor
open Go.RowKit Go.Bus Go.Nt Go.Rt
set_option linter.unusedVariables false
set_option linter.unusedSimpArgs false
namespace natW
theorem len_64 {n : Nat} (h : n < 18446744073709551616) : (digs n).length ≤ 2 := (digs_len_iff n 2).2 h

set_option maxRecDepth 100000 in
set_option maxHeartbeats 4000000 in
theorem rright_any (n d : Int) (w : World) (h1 : -9223372036854775808 ≤ n) (h2 : n < 9223372036854775808) (h3 : -9223372036854775808 ≤ d) (h4 : d < 9223372036854775808) :
    Calls Tryd.prog 35 #[.agg #[.int .i64 n, .int .i64 d]] w fun e w' => e = .returned (.bool (ratW.rightB n d)) ∧ Below w.heap.size w w' := by
  by_cases h0 : d < 1
  · have hr : ratW.rightB n d = false := by unfold ratW.rightB; rw [decide_eq_false (by omega)]; rfl
    have HR := Lib.hid hr
    clear hr
    go_enter Tryd.func35, Tryd.ntmps35
    go_wp2
    go_ret
    exact ⟨ret_bool HR.out.symm, (by repeat' (first | (with_reducible assumption) | (with_reducible refine Below.setCell ?_ ?_ _) | (with_reducible refine Below.alloc ?_ ?_ _) | (with_reducible refine Below.drew ?_) | (with_reducible refine below_drewN ?_ _) | (with_reducible exact Below.refl _ _) | (show _ ≤ _; (try simp); (try omega); done) | exact Below.refl _ _ | assumption))⟩
  have d0 : decide (d < 1) = false := decide_eq_false h0
  have C1 : Hid (∀ W, Calls Tryd.prog 64 #[.int .i64 n] W fun e w' => e = .returned (.int .u64 (n.natAbs : Int)) ∧ W = w') := Lib.hid fun W => rsize_any n W h1 h2
  have C2 : Hid (∀ W, Calls Tryd.prog 64 #[.int .i64 d] W fun e w' => e = .returned (.int .u64 (d.natAbs : Int)) ∧ W = w') := Lib.hid fun W => rsize_any d W h3 h4
  have C3 : Hid (∀ W, Calls Tryd.prog 63 #[.int .u64 (n.natAbs : Int)] W fun e w' => ∃ u, e = .returned u ∧ Nt w' u n.natAbs ∧ Below W.heap.size W w') := Lib.hid fun W => from_any _ W (by omega)
  have C4 : Hid (∀ W, Calls Tryd.prog 63 #[.int .u64 (d.natAbs : Int)] W fun e w' => ∃ u, e = .returned u ∧ Nt w' u d.natAbs ∧ Below W.heap.size W w') := Lib.hid fun W => from_any _ W (by omega)
  have hr : ratW.rightB n d = (Nat.gcd n.natAbs d.natAbs == 1) := by unfold ratW.rightB; rw [decide_eq_true (by omega), show d.toNat = d.natAbs from by omega]; rfl
  have hD : 0 < d.natAbs := by omega
  have hD2 : d.natAbs < 9223372036854775808 := by omega
  have lN : (digs n.natAbs).length ≤ 2 := len_64 (by omega)
  have lD : (digs d.natAbs).length ≤ 2 := len_64 (by omega)
  rw [hr]
  generalize n.natAbs = N at *
  generalize d.natAbs = D at *
  have CC : Hid (∀ W u v, Nt W u N → Nt W v D → Calls Tryd.prog 62 #[u, v] W fun e w' => ∃ x, e = .returned x ∧ Nt w' x (Nat.gcd N D) ∧ Below W.heap.size W w') := Lib.hid fun W u v hu hv => (common_any u v N D W hu hv (by omega) (by omega)).mono fun e w' ⟨x, g, e1, e2, e3, e4⟩ => ⟨x, e1, by rw [← e3.small (by omega)]; exact e2, e4⟩
  have hg := Nat.gcd_le_right N hD
  generalize Nat.gcd N D = g at *
  have LG := Lib.hid (show (digs g).length ≤ 1000 from Nat.le_trans (len_64 (by omega)) (by decide))
  have CW : Hid (∀ W x, Nt W x g → Calls Tryd.prog 65 #[x] W fun e w' => e = .returned (.tuple #[.int .u64 (g : Int), .bool true]) ∧ W = w') := Lib.hid fun W x hx => by
    have h := word_any x g W hx LG.out
    rw [Nat.mod_eq_of_lt (by omega), decide_eq_true (by omega)] at h
    exact h
  have HBE : Hid (((g : Int) == 1) = (g == 1)) := Lib.hid (by rw [Bool.eq_iff_iff, beq_iff_eq, beq_iff_eq]; omega)
  clear h0 h1 h2 h3 h4 hr hD hD2 lN lD hg
  go_enter Tryd.func35, Tryd.ntmps35
  go_upto_region 3 with fail
  have hH0 : Has (w.alloc (Obj.cells #[.int .i64 n, .int .i64 d] 26)) w.heap.size 26 #[.int .i64 n, .int .i64 d] := Has.new w _ _
  have hB : Below w.heap.size w (w.alloc (Obj.cells #[.int .i64 n, .int .i64 d] 26)) := (by repeat' (first | (with_reducible assumption) | (with_reducible refine Below.setCell ?_ ?_ _) | (with_reducible refine Below.alloc ?_ ?_ _) | (with_reducible refine Below.drew ?_) | (with_reducible refine below_drewN ?_ _) | (with_reducible exact Below.refl _ _) | (show _ ≤ _; (try simp); (try omega); done) | exact Below.refl _ _ | assumption))
  generalize w.alloc (Obj.cells #[.int .i64 n, .int .i64 d] 26) = W0 at hH0 hB ⊢
  have k0 : W0.cell? ⟨w.heap.size, 0, none⟩ = some (.int .i64 n) := hH0.cell 0
  have k1 : W0.cell? ⟨w.heap.size, 1, none⟩ = some (.int .i64 d) := hH0.cell 1
  have kz := hH0.lt
  clear hH0
  go_region_held3 (fun W => W.cell? ⟨w.heap.size, 0, none⟩ = some (.int .i64 n) ∧ W.cell? ⟨w.heap.size, 1, none⟩ = some (.int .i64 d) ∧ w.heap.size < W.heap.size)
    (first | exact ⟨by exact k0, by exact k1, by exact kz⟩ | exact ⟨by assumption, by assumption, by assumption⟩)
    (first
      | (go_at_call 64; refine (C1.out _).mono ?_; rintro e w1 ⟨rfl, rfl⟩; clear C1)
      | (go_at_call 64; refine (C2.out _).mono ?_; rintro e w1 ⟨rfl, rfl⟩; clear C2)
      | (go_at_call 63; refine (C3.out _).mono ?_; rintro e w1 ⟨u1, rfl, hu1, hb1⟩; (try go_split_ands); have q0 : w1.cell? ⟨w.heap.size, 0, none⟩ = some (.int .i64 n) := (hb1.cell (p := ⟨w.heap.size, 0, none⟩) (by dsimp only; omega)).trans (by assumption); have q1 : w1.cell? ⟨w.heap.size, 1, none⟩ = some (.int .i64 d) := (hb1.cell (p := ⟨w.heap.size, 1, none⟩) (by dsimp only; omega)).trans (by assumption); have q2 : w.heap.size < w1.heap.size := Nat.lt_of_lt_of_le (by assumption) hb1.size; clear C3)
      | (go_at_call 63; refine (C4.out _).mono ?_; rintro e w2 ⟨u2, rfl, hu2, hb2⟩; (try go_split_ands); have q0 : w2.cell? ⟨w.heap.size, 0, none⟩ = some (.int .i64 n) := (hb2.cell (p := ⟨w.heap.size, 0, none⟩) (by dsimp only; omega)).trans (by assumption); have q1 : w2.cell? ⟨w.heap.size, 1, none⟩ = some (.int .i64 d) := (hb2.cell (p := ⟨w.heap.size, 1, none⟩) (by dsimp only; omega)).trans (by assumption); have q2 : w.heap.size < w2.heap.size := Nat.lt_of_lt_of_le (by assumption) hb2.size; have hu3 := hu1.at_below hb2; clear C4)
      | (go_at_call 62; refine (CC.out w2 u1 u2 hu3 hu2).mono ?_; rintro e w3 ⟨x, rfl, hx, hb3⟩; (try go_split_ands); have q0 : w3.cell? ⟨w.heap.size, 0, none⟩ = some (.int .i64 n) := (hb3.cell (p := ⟨w.heap.size, 0, none⟩) (by dsimp only; omega)).trans (by assumption); have q1 : w3.cell? ⟨w.heap.size, 1, none⟩ = some (.int .i64 d) := (hb3.cell (p := ⟨w.heap.size, 1, none⟩) (by dsimp only; omega)).trans (by assumption); have q2 : w.heap.size < w3.heap.size := Nat.lt_of_lt_of_le (by assumption) hb3.size; clear CC))
  have HX := Lib.hid hx
  have HBB := Lib.hid ((show Below w.heap.size w W0.drew from hB.drew).trans ((hb1.mono (show w.heap.size ≤ W0.heap.size by omega)).trans ((hb2.mono (by omega)).trans (hb3.mono (by omega)))))
  clear hu1 hu2 hu3 hb1 hb2 hb3 hx k0 k1 kz hB
  go_wp2_with fail
  refine (CW.out w3 x HX.out).mono ?_
  rintro e w4 ⟨rfl, rfl⟩
  go_wp2
  go_ret
  exact ⟨ret_bool HBE.out, HBB.out⟩
end natW
end Go.Proofs.YtllbpanfhlbbgaaDoor
