/- Walks of busbarref02.Add and Sub. Condition: the numbers' ranges. -/
import Derived.Test.YtllbpanfhlbbgaaDoorNatR
import Derived.Test.YtllbpanfhlbbgaaDoorRatA
namespace Go.Proofs.YtllbpanfhlbbgaaDoor
open Go.RowKit Go.Bus Go.Nt Go.Rt
set_option linter.unusedVariables false
set_option linter.unusedSimpArgs false
namespace natW
/-- no fraction, and an error's number -/
def ratZ (k : Int) : Value := .tuple #[.agg #[.int .i64 0, .int .i64 0], .int .i64 k]
def sumN (less : Bool) (an ad bn bd : Int) : Value := if ratW.rightB an ad && ratW.rightB bn bd then ratN (ratW.sumO less an ad bn bd) else ratZ 1
theorem ratN_form (F : Option (Int × Int)) : ∃ x y k, ratN F = .tuple #[.agg #[.int .i64 x, .int .i64 y], .int .i64 k] := by
  rcases F with _ | ⟨x, y⟩
  · exact ⟨_, _, _, rfl⟩
  · exact ⟨_, _, _, rfl⟩
theorem right_pos {n d : Int} (h : ratW.rightB n d = true) : 1 ≤ d := (ratW.right_no h).1
theorem sumF_len {s1 s2 : Bool} {N1 D1 N2 D2 : Nat} (l1 : (digs N1).length ≤ 2) (l2 : (digs D1).length ≤ 2) (l3 : (digs N2).length ≤ 2) (l4 : (digs D2).length ≤ 2) :
    (digs (sumF s1 N1 D1 s2 N2 D2).2.1).length ≤ 40 ∧ (digs (sumF s1 N1 D1 s2 N2 D2).2.2).length ≤ 40 := by
  have a1 : (digs (N1 * D2)).length ≤ 4 := Nat.le_trans len_mul (by omega)
  have a2 : (digs (N2 * D1)).length ≤ 4 := Nat.le_trans len_mul (by omega)
  have a3 : (digs (D1 * D2)).length ≤ 4 := Nat.le_trans len_mul (by omega)
  have a4 : (digs (N1 * D2 + N2 * D1)).length ≤ 5 := by
    rw [digs_len_iff] at a1 a2 ⊢
    rw [Nat.pow_succ]
    generalize 4294967296 ^ 4 = P at *
    omega
  unfold sumF
  split
  · exact ⟨by simp only; omega, by simp only; omega⟩
  · split
    · exact ⟨by have := digs_len_mono (Nat.sub_le (N1 * D2) (N2 * D1)); simp only; omega, by simp only; omega⟩
    · exact ⟨by have := digs_len_mono (Nat.sub_le (N2 * D1) (N1 * D2)); simp only; omega, by simp only; omega⟩
theorem sg_of (n : Int) : sg (decide (n < 0)) n.natAbs = n := by
  unfold sg
  by_cases h : n < 0
  · rw [if_pos (decide_eq_true h)]; omega
  · rw [if_neg (by simp; omega)]; omega
theorem sg_neg (n : Int) : n ≠ 0 → sg (!decide (n < 0)) n.natAbs = -n := by
  intro h0
  unfold sg
  by_cases h : n < 0
  · rw [decide_eq_true h]; simp; omega
  · rw [decide_eq_false h]; simp; omega
theorem sg_neg' (n : Int) : sg (!decide (n < 0)) n.natAbs = -n := by
  by_cases h : n = 0
  · subst h; rfl
  · exact sg_neg n h
theorem sumF_sg (s1 : Bool) (N1 D1 : Nat) (s2 : Bool) (N2 D2 : Nat) : sg (sumF s1 N1 D1 s2 N2 D2).1 (sumF s1 N1 D1 s2 N2 D2).2.1 = sg s1 N1 * D2 + sg s2 N2 * D1 := by
  unfold sumF sg
  split
  · rename_i h
    subst h
    cases s1
    · simp
    · simp only [if_true, Int.natCast_add, Int.natCast_mul]
      rw [Int.neg_add, Int.neg_mul, Int.neg_mul]
  · rename_i h
    split
    · rename_i hle
      have e : ((N1 * D2 - N2 * D1 : Nat) : Int) = (N1 : Int) * D2 - (N2 : Int) * D1 := by
        rw [Int.natCast_sub hle, Int.natCast_mul, Int.natCast_mul]
      cases s1 <;> cases s2 <;> simp_all [Int.neg_mul] <;> omega
    · rename_i hle
      have e : ((N2 * D1 - N1 * D2 : Nat) : Int) = (N2 : Int) * D1 - (N1 : Int) * D2 := by
        rw [Int.natCast_sub (by omega), Int.natCast_mul, Int.natCast_mul]
      cases s1 <;> cases s2 <;> simp_all [Int.neg_mul] <;> omega
theorem sum_rat2 (less : Bool) (an ad bn bd : Int) (h1 : 1 ≤ ad) (h2 : 1 ≤ bd) : Rat.divInt (an * bd + (if less then -bn else bn) * ad) (ad * bd) = (if less then ratW.Q an ad - ratW.Q bn bd else ratW.Q an ad + ratW.Q bn bd) := by
  unfold ratW.Q
  cases less
  · simp only [Bool.false_eq_true, if_false]
    rw [Rat.divInt_add_divInt _ _ (by omega) (by omega)]
  · simp only [if_true]
    rw [Rat.sub_eq_add_neg, Rat.neg_divInt, Rat.divInt_add_divInt _ _ (by omega) (by omega)]
theorem sum_law (less : Bool) (an ad bn bd : Int) (W : World) (u v : Value) (hu : FrV W u (decide (an < 0)) an.natAbs ad.natAbs) (hv : FrV W v (if less then !decide (bn < 0) else decide (bn < 0)) bn.natAbs bd.natAbs) (ra : ratW.rightB an ad = true) (rb : ratW.rightB bn bd = true)
    (h1 : -9223372036854775808 ≤ an) (h2 : an < 9223372036854775808) (h4 : ad < 9223372036854775808) (h5 : -9223372036854775808 ≤ bn) (h6 : bn < 9223372036854775808) (h8 : bd < 9223372036854775808) :
    Calls Tryd.prog 48 #[u, v] W fun e w' => ∃ r, e = .returned r ∧ (∃ s N D, FrV w' r s N D ∧ 0 < D ∧ (digs N).length ≤ 40 ∧ (digs D).length ≤ 40 ∧ fitR (Rat.divInt (sg s N) D) = ratW.sumO less an ad bn bd) ∧ Below W.heap.size W w' := by
  have p1 := right_pos ra
  have p2 := right_pos rb
  have l1 : (digs an.natAbs).length ≤ 2 := len_64 (by omega)
  have l2 : (digs ad.natAbs).length ≤ 2 := len_64 (by omega)
  have l3 : (digs bn.natAbs).length ≤ 2 := len_64 (by omega)
  have l4 : (digs bd.natAbs).length ≤ 2 := len_64 (by omega)
  refine (sum_any u v _ _ _ _ _ _ W hu hv (by omega) (by omega) (by omega) (by omega)).mono ?_
  rintro e w' ⟨r, rfl, hr, hb⟩
  have hl := sumF_len (s1 := decide (an < 0)) (s2 := if less then !decide (bn < 0) else decide (bn < 0)) l1 l2 l3 l4
  have hs := sumF_sg (decide (an < 0)) an.natAbs ad.natAbs (if less then !decide (bn < 0) else decide (bn < 0)) bn.natAbs bd.natAbs
  have hd : (sumF (decide (an < 0)) an.natAbs ad.natAbs (if less then !decide (bn < 0) else decide (bn < 0)) bn.natAbs bd.natAbs).2.2 = ad.natAbs * bd.natAbs := by
    generalize (if less then !decide (bn < 0) else decide (bn < 0)) = s2
    unfold sumF
    split
    · rfl
    · split <;> rfl
  refine ⟨r, rfl, ⟨_, _, _, hr, by rw [hd]; exact Nat.mul_pos (by omega) (by omega), hl.1, hl.2, ?_⟩, hb⟩
  rw [hs, hd, sg_of]
  have e1 : ((ad.natAbs : Nat) : Int) = ad := by omega
  have e2 : ((bd.natAbs : Nat) : Int) = bd := by omega
  rw [Int.natCast_mul, e1, e2]
  unfold ratW.sumO
  rw [← sum_rat2 less an ad bn bd p1 p2]
  congr 2
  cases less
  · simp only [Bool.false_eq_true, if_false]; rw [sg_of]
  · simp only [if_true]; rw [sg_neg']

set_option maxRecDepth 100000 in
set_option maxHeartbeats 4000000 in
theorem radd_any (an ad bn bd : Int) (w : World) (h1 : -9223372036854775808 ≤ an) (h2 : an < 9223372036854775808) (h3 : -9223372036854775808 ≤ ad) (h4 : ad < 9223372036854775808) (h5 : -9223372036854775808 ≤ bn) (h6 : bn < 9223372036854775808) (h7 : -9223372036854775808 ≤ bd) (h8 : bd < 9223372036854775808) :
    Calls Tryd.prog 24 #[.agg #[.int .i64 an, .int .i64 ad], .agg #[.int .i64 bn, .int .i64 bd]] w fun e w' => e = .returned (sumN false an ad bn bd) ∧ Below w.heap.size w w' := by
  have CR1 : Hid (∀ W, Calls Tryd.prog 35 #[.agg #[.int .i64 an, .int .i64 ad]] W fun e w' => e = .returned (.bool (ratW.rightB an ad)) ∧ Below W.heap.size W w') := Lib.hid fun W => rright_any an ad W h1 h2 h3 h4
  have CR2 : Hid (∀ W, Calls Tryd.prog 35 #[.agg #[.int .i64 bn, .int .i64 bd]] W fun e w' => e = .returned (.bool (ratW.rightB bn bd)) ∧ Below W.heap.size W w') := Lib.hid fun W => rright_any bn bd W h5 h6 h7 h8
  have C1 : Hid (∀ W, Calls Tryd.prog 45 #[.agg #[.int .i64 an, .int .i64 ad]] W fun e w' => ∃ v, e = .returned v ∧ FrV w' v (decide (an < 0)) an.natAbs ad.natAbs ∧ Below W.heap.size W w') := Lib.hid fun W => of_any an ad W h1 h2 h3 h4
  have C2 : Hid (∀ W, Calls Tryd.prog 45 #[.agg #[.int .i64 bn, .int .i64 bd]] W fun e w' => ∃ v, e = .returned v ∧ FrV w' v (decide (bn < 0)) bn.natAbs bd.natAbs ∧ Below W.heap.size W w') := Lib.hid fun W => of_any bn bd W h5 h6 h7 h8
  have CS : Hid (∀ W u v, FrV W u (decide (an < 0)) an.natAbs ad.natAbs → FrV W v (decide (bn < 0)) bn.natAbs bd.natAbs → ratW.rightB an ad = true → ratW.rightB bn bd = true → Calls Tryd.prog 48 #[u, v] W fun e w' => ∃ r, e = .returned r ∧ (∃ s N D, FrV w' r s N D ∧ 0 < D ∧ (digs N).length ≤ 40 ∧ (digs D).length ≤ 40 ∧ fitR (Rat.divInt (sg s N) D) = ratW.sumO false an ad bn bd) ∧ Below W.heap.size W w') := Lib.hid fun W u v hu hv ra rb => sum_law false an ad bn bd W u v hu hv ra rb h1 h2 h4 h5 h6 h8
  have CL : Hid (∀ W v s N D, FrV W v s N D → 0 < D → (digs N).length ≤ 40 → (digs D).length ≤ 40 → fitR (Rat.divInt (sg s N) D) = ratW.sumO false an ad bn bd → Calls Tryd.prog 46 #[v] W fun e w' => e = .returned (ratN (ratW.sumO false an ad bn bd)) ∧ Below W.heap.size W w') := Lib.hid fun W v s N D hv hD l1 l2 he => by rw [← he]; exact lowest_any v s N D W hv hD l1 l2
  obtain ⟨fx, fy, fn, hF⟩ := ratN_form (ratW.sumO false an ad bn bd)
  obtain ⟨F, hFF⟩ : ∃ F, F = sumN false an ad bn bd := ⟨_, rfl⟩
  rw [← hFF]
  have hF0 : ratW.rightB an ad = false → F = ratZ 1 := fun h => by rw [hFF]; unfold sumN; rw [h]; rfl
  have hF1 : ratW.rightB an ad = true → ratW.rightB bn bd = false → F = ratZ 1 := fun h h' => by rw [hFF]; unfold sumN; rw [h, h']; rfl
  have hF2 : ratW.rightB an ad = true → ratW.rightB bn bd = true → F = .tuple #[.agg #[.int .i64 fx, .int .i64 fy], .int .i64 fn] := fun h h' => by rw [hFF, ← hF]; unfold sumN; rw [h, h']; rfl
  rw [hF] at CL
  have HF0 := Lib.hid hF0
  have HF1 := Lib.hid hF1
  have HF2 := Lib.hid hF2
  clear h1 h2 h3 h4 h5 h6 h7 h8 hF hFF hF0 hF1 hF2
  obtain ⟨ra, hra⟩ : ∃ r, r = ratW.rightB an ad := ⟨_, rfl⟩
  obtain ⟨rb, hrb⟩ : ∃ r, r = ratW.rightB bn bd := ⟨_, rfl⟩
  rw [← hra] at CR1
  rw [← hrb] at CR2
  have HRA := Lib.hid hra
  have HRB := Lib.hid hrb
  clear hra hrb
  go_enter Tryd.func24, Tryd.ntmps24
  go_upto_region 1 with fail
  have hH0 : Has (((w.alloc (Obj.cells #[.int .i64 an, .int .i64 ad] 26)).alloc (Obj.cells #[.int .i64 bn, .int .i64 bd] 26)).alloc (Obj.cells #[.int .i64 0, .int .i64 0] 26)) w.heap.size 26 #[.int .i64 an, .int .i64 ad] := ((Has.new w _ _).alloc _).alloc _
  have hH1 : Has (((w.alloc (Obj.cells #[.int .i64 an, .int .i64 ad] 26)).alloc (Obj.cells #[.int .i64 bn, .int .i64 bd] 26)).alloc (Obj.cells #[.int .i64 0, .int .i64 0] 26)) (w.heap.size + 1) 26 #[.int .i64 bn, .int .i64 bd] := (Has.new1 w _ _ _).alloc _
  have hH2 : Has (((w.alloc (Obj.cells #[.int .i64 an, .int .i64 ad] 26)).alloc (Obj.cells #[.int .i64 bn, .int .i64 bd] 26)).alloc (Obj.cells #[.int .i64 0, .int .i64 0] 26)) (w.heap.size + 1 + 1) 26 #[.int .i64 0, .int .i64 0] := Has.new2 w _ _ _ _
  have hBB : Below w.heap.size w (((w.alloc (Obj.cells #[.int .i64 an, .int .i64 ad] 26)).alloc (Obj.cells #[.int .i64 bn, .int .i64 bd] 26)).alloc (Obj.cells #[.int .i64 0, .int .i64 0] 26)) := (by repeat' (first | (with_reducible assumption) | (with_reducible refine Below.setCell ?_ ?_ _) | (with_reducible refine Below.alloc ?_ ?_ _) | (with_reducible refine Below.drew ?_) | (with_reducible refine below_drewN ?_ _) | (with_reducible exact Below.refl _ _) | (show _ ≤ _; (try simp); (try omega); done) | exact Below.refl _ _ | assumption))
  have HW0 := Lib.hid (And.intro hH0 (And.intro hH1 (And.intro hH2 hBB)))
  clear hH0 hH1 hH2 hBB
  generalize (((w.alloc (Obj.cells #[.int .i64 an, .int .i64 ad] 26)).alloc (Obj.cells #[.int .i64 bn, .int .i64 bd] 26)).alloc (Obj.cells #[.int .i64 0, .int .i64 0] 26)) = W0 at HW0 ⊢
  have ja0 : W0.cell? ⟨w.heap.size, 0, none⟩ = some (.int .i64 an) := HW0.out.1.cell 0
  have ja1 : W0.cell? ⟨w.heap.size, 1, none⟩ = some (.int .i64 ad) := HW0.out.1.cell 1
  have jb0 : W0.cell? ⟨w.heap.size + 1, 0, none⟩ = some (.int .i64 bn) := HW0.out.2.1.cell 0
  have jb1 : W0.cell? ⟨w.heap.size + 1, 1, none⟩ = some (.int .i64 bd) := HW0.out.2.1.cell 1
  go_wp2_with fail
  refine (CR1.out W0).mono ?_
  rintro e w1 ⟨rfl, hb⟩
  have HW1 : Hid (Has w1 w.heap.size 26 #[.int .i64 an, .int .i64 ad] ∧ Has w1 (w.heap.size + 1) 26 #[.int .i64 bn, .int .i64 bd] ∧ Has w1 (w.heap.size + 1 + 1) 26 #[.int .i64 0, .int .i64 0] ∧ Below w.heap.size w w1) := Lib.hid (three HW0.out hb)
  clear hb CR1 HW0
  clear ja0 ja1 jb0 jb1
  have ja0 : w1.cell? ⟨w.heap.size, 0, none⟩ = some (.int .i64 an) := HW1.out.1.cell 0
  have ja1 : w1.cell? ⟨w.heap.size, 1, none⟩ = some (.int .i64 ad) := HW1.out.1.cell 1
  have jb0 : w1.cell? ⟨w.heap.size + 1, 0, none⟩ = some (.int .i64 bn) := HW1.out.2.1.cell 0
  have jb1 : w1.cell? ⟨w.heap.size + 1, 1, none⟩ = some (.int .i64 bd) := HW1.out.2.1.cell 1
  cases ra
  · have t0 : w1.cell? ⟨w.heap.size + 1 + 1, 0, none⟩ = some (.int .i64 0) := HW1.out.2.2.1.cell 0
    have t1 : w1.cell? ⟨w.heap.size + 1 + 1, 1, none⟩ = some (.int .i64 0) := HW1.out.2.2.1.cell 1
    have tf0 := HW1.out.2.2.1.frozen 0
    have tf1 := HW1.out.2.2.1.frozen 1
    have tz := HW1.out.2.2.1.lt
    go_wp2
    refine bodyPost_ret (results_block2 (g := w.heap.size + 1 + 1) (T := 26) rfl rfl (by exact (HW1.out.2.2.1.set 0 _).set 1 _) rfl Tryd.underlying26 rfl (by kernel_rfl)) rfl ?_
    exact ⟨by rw [HF0.out HRA.out.symm]; rfl, (HW1.out.2.2.2.setCell (by dsimp only; omega) _).setCell (by dsimp only; omega) _⟩
  go_wp2_with fail
  refine (CR2.out w1).mono ?_
  rintro e w2 ⟨rfl, hb⟩
  have HW2 : Hid (Has w2 w.heap.size 26 #[.int .i64 an, .int .i64 ad] ∧ Has w2 (w.heap.size + 1) 26 #[.int .i64 bn, .int .i64 bd] ∧ Has w2 (w.heap.size + 1 + 1) 26 #[.int .i64 0, .int .i64 0] ∧ Below w.heap.size w w2) := Lib.hid (three HW1.out hb)
  clear hb CR2 HW1
  clear ja0 ja1 jb0 jb1
  have ja0 : w2.cell? ⟨w.heap.size, 0, none⟩ = some (.int .i64 an) := HW2.out.1.cell 0
  have ja1 : w2.cell? ⟨w.heap.size, 1, none⟩ = some (.int .i64 ad) := HW2.out.1.cell 1
  have jb0 : w2.cell? ⟨w.heap.size + 1, 0, none⟩ = some (.int .i64 bn) := HW2.out.2.1.cell 0
  have jb1 : w2.cell? ⟨w.heap.size + 1, 1, none⟩ = some (.int .i64 bd) := HW2.out.2.1.cell 1
  cases rb
  · have t0 : w2.cell? ⟨w.heap.size + 1 + 1, 0, none⟩ = some (.int .i64 0) := HW2.out.2.2.1.cell 0
    have t1 : w2.cell? ⟨w.heap.size + 1 + 1, 1, none⟩ = some (.int .i64 0) := HW2.out.2.2.1.cell 1
    have tf0 := HW2.out.2.2.1.frozen 0
    have tf1 := HW2.out.2.2.1.frozen 1
    have tz := HW2.out.2.2.1.lt
    go_wp2
    refine bodyPost_ret (results_block2 (g := w.heap.size + 1 + 1) (T := 26) rfl rfl (by exact (HW2.out.2.2.1.set 0 _).set 1 _) rfl Tryd.underlying26 rfl (by kernel_rfl)) rfl ?_
    exact ⟨by rw [HF1.out HRA.out.symm HRB.out.symm]; rfl, (HW2.out.2.2.2.setCell (by dsimp only; omega) _).setCell (by dsimp only; omega) _⟩
  have hzz := HW2.out.2.2.1.lt
  go_wp2
  go_region_held3 (fun W => W.cell? ⟨w.heap.size, 0, none⟩ = some (.int .i64 an) ∧ W.cell? ⟨w.heap.size, 1, none⟩ = some (.int .i64 ad) ∧ W.cell? ⟨w.heap.size + 1, 0, none⟩ = some (.int .i64 bn) ∧ W.cell? ⟨w.heap.size + 1, 1, none⟩ = some (.int .i64 bd) ∧ w.heap.size + 1 + 1 < W.heap.size)
    (first | exact ⟨by exact ja0, by exact ja1, by exact jb0, by exact jb1, by exact hzz⟩ | exact ⟨by assumption, by assumption, by assumption, by assumption, by assumption⟩ | exact ⟨by go_simp; done, by go_simp; done, by go_simp; done, by go_simp; done, by first | assumption | (simp; omega)⟩)
    (first
      | (go_at_call 45; refine (C1.out w2.drew).mono ?_; rintro e w3 ⟨v1, rfl, hv1, hb⟩; have HHw3 : Hid (Has w3 w.heap.size 26 #[.int .i64 an, .int .i64 ad] ∧ Has w3 (w.heap.size + 1) 26 #[.int .i64 bn, .int .i64 bd] ∧ Has w3 (w.heap.size + 1 + 1) 26 #[.int .i64 0, .int .i64 0] ∧ Below w.heap.size w w3) := Lib.hid (three (by exact (show Has w2.drew w.heap.size 26 #[.int .i64 an, .int .i64 ad] ∧ Has w2.drew (w.heap.size + 1) 26 #[.int .i64 bn, .int .i64 bd] ∧ Has w2.drew (w.heap.size + 1 + 1) 26 #[.int .i64 0, .int .i64 0] ∧ Below w.heap.size w w2.drew from ⟨HW2.out.1, HW2.out.2.1, HW2.out.2.2.1, HW2.out.2.2.2.drew⟩)) hb); have qw3ja0 : w3.cell? ⟨w.heap.size, 0, none⟩ = some (.int .i64 an) := HHw3.out.1.cell 0; have qw3ja1 : w3.cell? ⟨w.heap.size, 1, none⟩ = some (.int .i64 ad) := HHw3.out.1.cell 1; have qw3jb0 : w3.cell? ⟨w.heap.size + 1, 0, none⟩ = some (.int .i64 bn) := HHw3.out.2.1.cell 0; have qw3jb1 : w3.cell? ⟨w.heap.size + 1, 1, none⟩ = some (.int .i64 bd) := HHw3.out.2.1.cell 1; have hzw3 : w.heap.size + 1 + 1 < w3.heap.size := HHw3.out.2.2.1.lt; have HV1 := Lib.hid hv1; clear hb hv1 C1)
      | (go_at_call 45; refine (C2.out w3).mono ?_; rintro e w4 ⟨v2, rfl, hv2, hb⟩; have HHw4 : Hid (Has w4 w.heap.size 26 #[.int .i64 an, .int .i64 ad] ∧ Has w4 (w.heap.size + 1) 26 #[.int .i64 bn, .int .i64 bd] ∧ Has w4 (w.heap.size + 1 + 1) 26 #[.int .i64 0, .int .i64 0] ∧ Below w.heap.size w w4) := Lib.hid (three (by exact HHw3.out) hb); have qw4ja0 : w4.cell? ⟨w.heap.size, 0, none⟩ = some (.int .i64 an) := HHw4.out.1.cell 0; have qw4ja1 : w4.cell? ⟨w.heap.size, 1, none⟩ = some (.int .i64 ad) := HHw4.out.1.cell 1; have qw4jb0 : w4.cell? ⟨w.heap.size + 1, 0, none⟩ = some (.int .i64 bn) := HHw4.out.2.1.cell 0; have qw4jb1 : w4.cell? ⟨w.heap.size + 1, 1, none⟩ = some (.int .i64 bd) := HHw4.out.2.1.cell 1; have hzw4 : w.heap.size + 1 + 1 < w4.heap.size := HHw4.out.2.2.1.lt; have HV12 := Lib.hid (HV1.out.at_below hb); have HV2 := Lib.hid hv2; clear hb hv2 C2)
      | (go_at_call 48; refine (CS.out w4 v1 v2 HV12.out HV2.out HRA.out.symm HRB.out.symm).mono ?_; rintro e w6 ⟨v6, rfl, ⟨s6, N6, D6, hv6, g1, g2, g3, g4⟩, hb⟩; have HHw6 : Hid (Has w6 w.heap.size 26 #[.int .i64 an, .int .i64 ad] ∧ Has w6 (w.heap.size + 1) 26 #[.int .i64 bn, .int .i64 bd] ∧ Has w6 (w.heap.size + 1 + 1) 26 #[.int .i64 0, .int .i64 0] ∧ Below w.heap.size w w6) := Lib.hid (three (by exact HHw4.out) hb); have qw6ja0 : w6.cell? ⟨w.heap.size, 0, none⟩ = some (.int .i64 an) := HHw6.out.1.cell 0; have qw6ja1 : w6.cell? ⟨w.heap.size, 1, none⟩ = some (.int .i64 ad) := HHw6.out.1.cell 1; have qw6jb0 : w6.cell? ⟨w.heap.size + 1, 0, none⟩ = some (.int .i64 bn) := HHw6.out.2.1.cell 0; have qw6jb1 : w6.cell? ⟨w.heap.size + 1, 1, none⟩ = some (.int .i64 bd) := HHw6.out.2.1.cell 1; have hzw6 : w.heap.size + 1 + 1 < w6.heap.size := HHw6.out.2.2.1.lt; have HV6 := Lib.hid hv6; have HG1 := Lib.hid g1; have HG2 := Lib.hid g2; have HG3 := Lib.hid g3; have HG4 := Lib.hid g4; clear hb hv6 g1 g2 g3 g4 CS)
      | (go_at_call 46; refine (CL.out w6 v6 s6 N6 D6 HV6.out HG1.out HG2.out HG3.out HG4.out).mono ?_; rintro e w7 ⟨rfl, hb⟩; have HHw7 : Hid (Has w7 w.heap.size 26 #[.int .i64 an, .int .i64 ad] ∧ Has w7 (w.heap.size + 1) 26 #[.int .i64 bn, .int .i64 bd] ∧ Has w7 (w.heap.size + 1 + 1) 26 #[.int .i64 0, .int .i64 0] ∧ Below w.heap.size w w7) := Lib.hid (three (by exact HHw6.out) hb); have qw7ja0 : w7.cell? ⟨w.heap.size, 0, none⟩ = some (.int .i64 an) := HHw7.out.1.cell 0; have qw7ja1 : w7.cell? ⟨w.heap.size, 1, none⟩ = some (.int .i64 ad) := HHw7.out.1.cell 1; have qw7jb0 : w7.cell? ⟨w.heap.size + 1, 0, none⟩ = some (.int .i64 bn) := HHw7.out.2.1.cell 0; have qw7jb1 : w7.cell? ⟨w.heap.size + 1, 1, none⟩ = some (.int .i64 bd) := HHw7.out.2.1.cell 1; have hzw7 : w.heap.size + 1 + 1 < w7.heap.size := HHw7.out.2.2.1.lt; have t0 : w7.cell? ⟨w.heap.size + 1 + 1, 0, none⟩ = some (.int .i64 0) := HHw7.out.2.2.1.cell 0; have t1 : w7.cell? ⟨w.heap.size + 1 + 1, 1, none⟩ = some (.int .i64 0) := HHw7.out.2.2.1.cell 1; have tf0 := HHw7.out.2.2.1.frozen 0; have tf1 := HHw7.out.2.2.1.frozen 1; have tz := HHw7.out.2.2.1.lt; clear hb CL))
  clear ja0 ja1 jb0 jb1 hzz t0 t1 tf0 tf1 tz
  go_wp2
  refine bodyPost_ret (results_block2 (g := w.heap.size + 1 + 1) (T := 26) rfl rfl (by exact (HHw7.out.2.2.1.set 0 _).set 1 _) rfl Tryd.underlying26 rfl (by kernel_rfl)) rfl ?_
  exact ⟨by rw [HF2.out HRA.out.symm HRB.out.symm]; rfl, (HHw7.out.2.2.2.setCell (by dsimp only; omega) _).setCell (by dsimp only; omega) _⟩

set_option maxRecDepth 100000 in
set_option maxHeartbeats 4000000 in
theorem rsub_any (an ad bn bd : Int) (w : World) (h1 : -9223372036854775808 ≤ an) (h2 : an < 9223372036854775808) (h3 : -9223372036854775808 ≤ ad) (h4 : ad < 9223372036854775808) (h5 : -9223372036854775808 ≤ bn) (h6 : bn < 9223372036854775808) (h7 : -9223372036854775808 ≤ bd) (h8 : bd < 9223372036854775808) :
    Calls Tryd.prog 36 #[.agg #[.int .i64 an, .int .i64 ad], .agg #[.int .i64 bn, .int .i64 bd]] w fun e w' => e = .returned (sumN true an ad bn bd) ∧ Below w.heap.size w w' := by
  have CR1 : Hid (∀ W, Calls Tryd.prog 35 #[.agg #[.int .i64 an, .int .i64 ad]] W fun e w' => e = .returned (.bool (ratW.rightB an ad)) ∧ Below W.heap.size W w') := Lib.hid fun W => rright_any an ad W h1 h2 h3 h4
  have CR2 : Hid (∀ W, Calls Tryd.prog 35 #[.agg #[.int .i64 bn, .int .i64 bd]] W fun e w' => e = .returned (.bool (ratW.rightB bn bd)) ∧ Below W.heap.size W w') := Lib.hid fun W => rright_any bn bd W h5 h6 h7 h8
  have C1 : Hid (∀ W, Calls Tryd.prog 45 #[.agg #[.int .i64 an, .int .i64 ad]] W fun e w' => ∃ v, e = .returned v ∧ FrV w' v (decide (an < 0)) an.natAbs ad.natAbs ∧ Below W.heap.size W w') := Lib.hid fun W => of_any an ad W h1 h2 h3 h4
  have C2 : Hid (∀ W, Calls Tryd.prog 45 #[.agg #[.int .i64 bn, .int .i64 bd]] W fun e w' => ∃ v, e = .returned v ∧ FrV w' v (decide (bn < 0)) bn.natAbs bd.natAbs ∧ Below W.heap.size W w') := Lib.hid fun W => of_any bn bd W h5 h6 h7 h8
  have CS : Hid (∀ W u v, FrV W u (decide (an < 0)) an.natAbs ad.natAbs → FrV W v (!decide (bn < 0)) bn.natAbs bd.natAbs → ratW.rightB an ad = true → ratW.rightB bn bd = true → Calls Tryd.prog 48 #[u, v] W fun e w' => ∃ r, e = .returned r ∧ (∃ s N D, FrV w' r s N D ∧ 0 < D ∧ (digs N).length ≤ 40 ∧ (digs D).length ≤ 40 ∧ fitR (Rat.divInt (sg s N) D) = ratW.sumO true an ad bn bd) ∧ Below W.heap.size W w') := Lib.hid fun W u v hu hv ra rb => sum_law true an ad bn bd W u v hu hv ra rb h1 h2 h4 h5 h6 h8
  have CO : Hid (∀ W v, FrV W v (decide (bn < 0)) bn.natAbs bd.natAbs → Calls Tryd.prog 66 #[v] W fun e w' => ∃ u, e = .returned u ∧ FrV w' u (!decide (bn < 0)) bn.natAbs bd.natAbs ∧ Below W.heap.size W w') := Lib.hid fun W v hv => opposite_any v _ _ _ W hv
  have CL : Hid (∀ W v s N D, FrV W v s N D → 0 < D → (digs N).length ≤ 40 → (digs D).length ≤ 40 → fitR (Rat.divInt (sg s N) D) = ratW.sumO true an ad bn bd → Calls Tryd.prog 46 #[v] W fun e w' => e = .returned (ratN (ratW.sumO true an ad bn bd)) ∧ Below W.heap.size W w') := Lib.hid fun W v s N D hv hD l1 l2 he => by rw [← he]; exact lowest_any v s N D W hv hD l1 l2
  obtain ⟨fx, fy, fn, hF⟩ := ratN_form (ratW.sumO true an ad bn bd)
  obtain ⟨F, hFF⟩ : ∃ F, F = sumN true an ad bn bd := ⟨_, rfl⟩
  rw [← hFF]
  have hF0 : ratW.rightB an ad = false → F = ratZ 1 := fun h => by rw [hFF]; unfold sumN; rw [h]; rfl
  have hF1 : ratW.rightB an ad = true → ratW.rightB bn bd = false → F = ratZ 1 := fun h h' => by rw [hFF]; unfold sumN; rw [h, h']; rfl
  have hF2 : ratW.rightB an ad = true → ratW.rightB bn bd = true → F = .tuple #[.agg #[.int .i64 fx, .int .i64 fy], .int .i64 fn] := fun h h' => by rw [hFF, ← hF]; unfold sumN; rw [h, h']; rfl
  rw [hF] at CL
  have HF0 := Lib.hid hF0
  have HF1 := Lib.hid hF1
  have HF2 := Lib.hid hF2
  clear h1 h2 h3 h4 h5 h6 h7 h8 hF hFF hF0 hF1 hF2
  obtain ⟨ra, hra⟩ : ∃ r, r = ratW.rightB an ad := ⟨_, rfl⟩
  obtain ⟨rb, hrb⟩ : ∃ r, r = ratW.rightB bn bd := ⟨_, rfl⟩
  rw [← hra] at CR1
  rw [← hrb] at CR2
  have HRA := Lib.hid hra
  have HRB := Lib.hid hrb
  clear hra hrb
  go_enter Tryd.func36, Tryd.ntmps36
  go_upto_region 1 with fail
  have hH0 : Has (((w.alloc (Obj.cells #[.int .i64 an, .int .i64 ad] 26)).alloc (Obj.cells #[.int .i64 bn, .int .i64 bd] 26)).alloc (Obj.cells #[.int .i64 0, .int .i64 0] 26)) w.heap.size 26 #[.int .i64 an, .int .i64 ad] := ((Has.new w _ _).alloc _).alloc _
  have hH1 : Has (((w.alloc (Obj.cells #[.int .i64 an, .int .i64 ad] 26)).alloc (Obj.cells #[.int .i64 bn, .int .i64 bd] 26)).alloc (Obj.cells #[.int .i64 0, .int .i64 0] 26)) (w.heap.size + 1) 26 #[.int .i64 bn, .int .i64 bd] := (Has.new1 w _ _ _).alloc _
  have hH2 : Has (((w.alloc (Obj.cells #[.int .i64 an, .int .i64 ad] 26)).alloc (Obj.cells #[.int .i64 bn, .int .i64 bd] 26)).alloc (Obj.cells #[.int .i64 0, .int .i64 0] 26)) (w.heap.size + 1 + 1) 26 #[.int .i64 0, .int .i64 0] := Has.new2 w _ _ _ _
  have hBB : Below w.heap.size w (((w.alloc (Obj.cells #[.int .i64 an, .int .i64 ad] 26)).alloc (Obj.cells #[.int .i64 bn, .int .i64 bd] 26)).alloc (Obj.cells #[.int .i64 0, .int .i64 0] 26)) := (by repeat' (first | (with_reducible assumption) | (with_reducible refine Below.setCell ?_ ?_ _) | (with_reducible refine Below.alloc ?_ ?_ _) | (with_reducible refine Below.drew ?_) | (with_reducible refine below_drewN ?_ _) | (with_reducible exact Below.refl _ _) | (show _ ≤ _; (try simp); (try omega); done) | exact Below.refl _ _ | assumption))
  have HW0 := Lib.hid (And.intro hH0 (And.intro hH1 (And.intro hH2 hBB)))
  clear hH0 hH1 hH2 hBB
  generalize (((w.alloc (Obj.cells #[.int .i64 an, .int .i64 ad] 26)).alloc (Obj.cells #[.int .i64 bn, .int .i64 bd] 26)).alloc (Obj.cells #[.int .i64 0, .int .i64 0] 26)) = W0 at HW0 ⊢
  have ja0 : W0.cell? ⟨w.heap.size, 0, none⟩ = some (.int .i64 an) := HW0.out.1.cell 0
  have ja1 : W0.cell? ⟨w.heap.size, 1, none⟩ = some (.int .i64 ad) := HW0.out.1.cell 1
  have jb0 : W0.cell? ⟨w.heap.size + 1, 0, none⟩ = some (.int .i64 bn) := HW0.out.2.1.cell 0
  have jb1 : W0.cell? ⟨w.heap.size + 1, 1, none⟩ = some (.int .i64 bd) := HW0.out.2.1.cell 1
  go_wp2_with fail
  refine (CR1.out W0).mono ?_
  rintro e w1 ⟨rfl, hb⟩
  have HW1 : Hid (Has w1 w.heap.size 26 #[.int .i64 an, .int .i64 ad] ∧ Has w1 (w.heap.size + 1) 26 #[.int .i64 bn, .int .i64 bd] ∧ Has w1 (w.heap.size + 1 + 1) 26 #[.int .i64 0, .int .i64 0] ∧ Below w.heap.size w w1) := Lib.hid (three HW0.out hb)
  clear hb CR1 HW0
  clear ja0 ja1 jb0 jb1
  have ja0 : w1.cell? ⟨w.heap.size, 0, none⟩ = some (.int .i64 an) := HW1.out.1.cell 0
  have ja1 : w1.cell? ⟨w.heap.size, 1, none⟩ = some (.int .i64 ad) := HW1.out.1.cell 1
  have jb0 : w1.cell? ⟨w.heap.size + 1, 0, none⟩ = some (.int .i64 bn) := HW1.out.2.1.cell 0
  have jb1 : w1.cell? ⟨w.heap.size + 1, 1, none⟩ = some (.int .i64 bd) := HW1.out.2.1.cell 1
  cases ra
  · have t0 : w1.cell? ⟨w.heap.size + 1 + 1, 0, none⟩ = some (.int .i64 0) := HW1.out.2.2.1.cell 0
    have t1 : w1.cell? ⟨w.heap.size + 1 + 1, 1, none⟩ = some (.int .i64 0) := HW1.out.2.2.1.cell 1
    have tf0 := HW1.out.2.2.1.frozen 0
    have tf1 := HW1.out.2.2.1.frozen 1
    have tz := HW1.out.2.2.1.lt
    go_wp2
    refine bodyPost_ret (results_block2 (g := w.heap.size + 1 + 1) (T := 26) rfl rfl (by exact (HW1.out.2.2.1.set 0 _).set 1 _) rfl Tryd.underlying26 rfl (by kernel_rfl)) rfl ?_
    exact ⟨by rw [HF0.out HRA.out.symm]; rfl, (HW1.out.2.2.2.setCell (by dsimp only; omega) _).setCell (by dsimp only; omega) _⟩
  go_wp2_with fail
  refine (CR2.out w1).mono ?_
  rintro e w2 ⟨rfl, hb⟩
  have HW2 : Hid (Has w2 w.heap.size 26 #[.int .i64 an, .int .i64 ad] ∧ Has w2 (w.heap.size + 1) 26 #[.int .i64 bn, .int .i64 bd] ∧ Has w2 (w.heap.size + 1 + 1) 26 #[.int .i64 0, .int .i64 0] ∧ Below w.heap.size w w2) := Lib.hid (three HW1.out hb)
  clear hb CR2 HW1
  clear ja0 ja1 jb0 jb1
  have ja0 : w2.cell? ⟨w.heap.size, 0, none⟩ = some (.int .i64 an) := HW2.out.1.cell 0
  have ja1 : w2.cell? ⟨w.heap.size, 1, none⟩ = some (.int .i64 ad) := HW2.out.1.cell 1
  have jb0 : w2.cell? ⟨w.heap.size + 1, 0, none⟩ = some (.int .i64 bn) := HW2.out.2.1.cell 0
  have jb1 : w2.cell? ⟨w.heap.size + 1, 1, none⟩ = some (.int .i64 bd) := HW2.out.2.1.cell 1
  cases rb
  · have t0 : w2.cell? ⟨w.heap.size + 1 + 1, 0, none⟩ = some (.int .i64 0) := HW2.out.2.2.1.cell 0
    have t1 : w2.cell? ⟨w.heap.size + 1 + 1, 1, none⟩ = some (.int .i64 0) := HW2.out.2.2.1.cell 1
    have tf0 := HW2.out.2.2.1.frozen 0
    have tf1 := HW2.out.2.2.1.frozen 1
    have tz := HW2.out.2.2.1.lt
    go_wp2
    refine bodyPost_ret (results_block2 (g := w.heap.size + 1 + 1) (T := 26) rfl rfl (by exact (HW2.out.2.2.1.set 0 _).set 1 _) rfl Tryd.underlying26 rfl (by kernel_rfl)) rfl ?_
    exact ⟨by rw [HF1.out HRA.out.symm HRB.out.symm]; rfl, (HW2.out.2.2.2.setCell (by dsimp only; omega) _).setCell (by dsimp only; omega) _⟩
  have hzz := HW2.out.2.2.1.lt
  go_wp2
  go_region_held3 (fun W => W.cell? ⟨w.heap.size, 0, none⟩ = some (.int .i64 an) ∧ W.cell? ⟨w.heap.size, 1, none⟩ = some (.int .i64 ad) ∧ W.cell? ⟨w.heap.size + 1, 0, none⟩ = some (.int .i64 bn) ∧ W.cell? ⟨w.heap.size + 1, 1, none⟩ = some (.int .i64 bd) ∧ w.heap.size + 1 + 1 < W.heap.size)
    (first | exact ⟨by exact ja0, by exact ja1, by exact jb0, by exact jb1, by exact hzz⟩ | exact ⟨by assumption, by assumption, by assumption, by assumption, by assumption⟩ | exact ⟨by go_simp; done, by go_simp; done, by go_simp; done, by go_simp; done, by first | assumption | (simp; omega)⟩)
    (first
      | (go_at_call 45; refine (C1.out w2.drew).mono ?_; rintro e w3 ⟨v1, rfl, hv1, hb⟩; have HHw3 : Hid (Has w3 w.heap.size 26 #[.int .i64 an, .int .i64 ad] ∧ Has w3 (w.heap.size + 1) 26 #[.int .i64 bn, .int .i64 bd] ∧ Has w3 (w.heap.size + 1 + 1) 26 #[.int .i64 0, .int .i64 0] ∧ Below w.heap.size w w3) := Lib.hid (three (by exact (show Has w2.drew w.heap.size 26 #[.int .i64 an, .int .i64 ad] ∧ Has w2.drew (w.heap.size + 1) 26 #[.int .i64 bn, .int .i64 bd] ∧ Has w2.drew (w.heap.size + 1 + 1) 26 #[.int .i64 0, .int .i64 0] ∧ Below w.heap.size w w2.drew from ⟨HW2.out.1, HW2.out.2.1, HW2.out.2.2.1, HW2.out.2.2.2.drew⟩)) hb); have qw3ja0 : w3.cell? ⟨w.heap.size, 0, none⟩ = some (.int .i64 an) := HHw3.out.1.cell 0; have qw3ja1 : w3.cell? ⟨w.heap.size, 1, none⟩ = some (.int .i64 ad) := HHw3.out.1.cell 1; have qw3jb0 : w3.cell? ⟨w.heap.size + 1, 0, none⟩ = some (.int .i64 bn) := HHw3.out.2.1.cell 0; have qw3jb1 : w3.cell? ⟨w.heap.size + 1, 1, none⟩ = some (.int .i64 bd) := HHw3.out.2.1.cell 1; have hzw3 : w.heap.size + 1 + 1 < w3.heap.size := HHw3.out.2.2.1.lt; have HV1 := Lib.hid hv1; clear hb hv1 C1)
      | (go_at_call 45; refine (C2.out w3).mono ?_; rintro e w4 ⟨v2, rfl, hv2, hb⟩; have HHw4 : Hid (Has w4 w.heap.size 26 #[.int .i64 an, .int .i64 ad] ∧ Has w4 (w.heap.size + 1) 26 #[.int .i64 bn, .int .i64 bd] ∧ Has w4 (w.heap.size + 1 + 1) 26 #[.int .i64 0, .int .i64 0] ∧ Below w.heap.size w w4) := Lib.hid (three (by exact HHw3.out) hb); have qw4ja0 : w4.cell? ⟨w.heap.size, 0, none⟩ = some (.int .i64 an) := HHw4.out.1.cell 0; have qw4ja1 : w4.cell? ⟨w.heap.size, 1, none⟩ = some (.int .i64 ad) := HHw4.out.1.cell 1; have qw4jb0 : w4.cell? ⟨w.heap.size + 1, 0, none⟩ = some (.int .i64 bn) := HHw4.out.2.1.cell 0; have qw4jb1 : w4.cell? ⟨w.heap.size + 1, 1, none⟩ = some (.int .i64 bd) := HHw4.out.2.1.cell 1; have hzw4 : w.heap.size + 1 + 1 < w4.heap.size := HHw4.out.2.2.1.lt; have HV12 := Lib.hid (HV1.out.at_below hb); have HV2 := Lib.hid hv2; clear hb hv2 C2)
      | (go_at_call 66; refine (CO.out w4 v2 HV2.out).mono ?_; rintro e w5 ⟨v3, rfl, hv3, hb⟩; have HHw5 : Hid (Has w5 w.heap.size 26 #[.int .i64 an, .int .i64 ad] ∧ Has w5 (w.heap.size + 1) 26 #[.int .i64 bn, .int .i64 bd] ∧ Has w5 (w.heap.size + 1 + 1) 26 #[.int .i64 0, .int .i64 0] ∧ Below w.heap.size w w5) := Lib.hid (three (by exact HHw4.out) hb); have qw5ja0 : w5.cell? ⟨w.heap.size, 0, none⟩ = some (.int .i64 an) := HHw5.out.1.cell 0; have qw5ja1 : w5.cell? ⟨w.heap.size, 1, none⟩ = some (.int .i64 ad) := HHw5.out.1.cell 1; have qw5jb0 : w5.cell? ⟨w.heap.size + 1, 0, none⟩ = some (.int .i64 bn) := HHw5.out.2.1.cell 0; have qw5jb1 : w5.cell? ⟨w.heap.size + 1, 1, none⟩ = some (.int .i64 bd) := HHw5.out.2.1.cell 1; have hzw5 : w.heap.size + 1 + 1 < w5.heap.size := HHw5.out.2.2.1.lt; have HV13 := Lib.hid (HV12.out.at_below hb); have HV3 := Lib.hid hv3; clear hb hv3 CO)
      | (go_at_call 48; refine (CS.out w5 v1 v3 HV13.out HV3.out HRA.out.symm HRB.out.symm).mono ?_; rintro e w6 ⟨v6, rfl, ⟨s6, N6, D6, hv6, g1, g2, g3, g4⟩, hb⟩; have HHw6 : Hid (Has w6 w.heap.size 26 #[.int .i64 an, .int .i64 ad] ∧ Has w6 (w.heap.size + 1) 26 #[.int .i64 bn, .int .i64 bd] ∧ Has w6 (w.heap.size + 1 + 1) 26 #[.int .i64 0, .int .i64 0] ∧ Below w.heap.size w w6) := Lib.hid (three (by exact HHw5.out) hb); have qw6ja0 : w6.cell? ⟨w.heap.size, 0, none⟩ = some (.int .i64 an) := HHw6.out.1.cell 0; have qw6ja1 : w6.cell? ⟨w.heap.size, 1, none⟩ = some (.int .i64 ad) := HHw6.out.1.cell 1; have qw6jb0 : w6.cell? ⟨w.heap.size + 1, 0, none⟩ = some (.int .i64 bn) := HHw6.out.2.1.cell 0; have qw6jb1 : w6.cell? ⟨w.heap.size + 1, 1, none⟩ = some (.int .i64 bd) := HHw6.out.2.1.cell 1; have hzw6 : w.heap.size + 1 + 1 < w6.heap.size := HHw6.out.2.2.1.lt; have HV6 := Lib.hid hv6; have HG1 := Lib.hid g1; have HG2 := Lib.hid g2; have HG3 := Lib.hid g3; have HG4 := Lib.hid g4; clear hb hv6 g1 g2 g3 g4 CS)
      | (go_at_call 46; refine (CL.out w6 v6 s6 N6 D6 HV6.out HG1.out HG2.out HG3.out HG4.out).mono ?_; rintro e w7 ⟨rfl, hb⟩; have HHw7 : Hid (Has w7 w.heap.size 26 #[.int .i64 an, .int .i64 ad] ∧ Has w7 (w.heap.size + 1) 26 #[.int .i64 bn, .int .i64 bd] ∧ Has w7 (w.heap.size + 1 + 1) 26 #[.int .i64 0, .int .i64 0] ∧ Below w.heap.size w w7) := Lib.hid (three (by exact HHw6.out) hb); have qw7ja0 : w7.cell? ⟨w.heap.size, 0, none⟩ = some (.int .i64 an) := HHw7.out.1.cell 0; have qw7ja1 : w7.cell? ⟨w.heap.size, 1, none⟩ = some (.int .i64 ad) := HHw7.out.1.cell 1; have qw7jb0 : w7.cell? ⟨w.heap.size + 1, 0, none⟩ = some (.int .i64 bn) := HHw7.out.2.1.cell 0; have qw7jb1 : w7.cell? ⟨w.heap.size + 1, 1, none⟩ = some (.int .i64 bd) := HHw7.out.2.1.cell 1; have hzw7 : w.heap.size + 1 + 1 < w7.heap.size := HHw7.out.2.2.1.lt; have t0 : w7.cell? ⟨w.heap.size + 1 + 1, 0, none⟩ = some (.int .i64 0) := HHw7.out.2.2.1.cell 0; have t1 : w7.cell? ⟨w.heap.size + 1 + 1, 1, none⟩ = some (.int .i64 0) := HHw7.out.2.2.1.cell 1; have tf0 := HHw7.out.2.2.1.frozen 0; have tf1 := HHw7.out.2.2.1.frozen 1; have tz := HHw7.out.2.2.1.lt; clear hb CL))
  clear ja0 ja1 jb0 jb1 hzz t0 t1 tf0 tf1 tz
  go_wp2
  refine bodyPost_ret (results_block2 (g := w.heap.size + 1 + 1) (T := 26) rfl rfl (by exact (HHw7.out.2.2.1.set 0 _).set 1 _) rfl Tryd.underlying26 rfl (by kernel_rfl)) rfl ?_
  exact ⟨by rw [HF2.out HRA.out.symm HRB.out.symm]; rfl, (HHw7.out.2.2.2.setCell (by dsimp only; omega) _).setCell (by dsimp only; omega) _⟩
end natW
end Go.Proofs.YtllbpanfhlbbgaaDoor
