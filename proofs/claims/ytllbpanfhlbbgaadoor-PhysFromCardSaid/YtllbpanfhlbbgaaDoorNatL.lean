/- Walks of the document's fractions (busbarref02): Lowest, Right. Condition: at most 40 digits. -/
import Derived.Test.YtllbpanfhlbbgaaDoorNatS
namespace Go.Proofs.YtllbpanfhlbbgaaDoor
open Go.RowKit Go.Bus Go.Nt Go.Rt
set_option linter.unusedVariables false
set_option linter.unusedSimpArgs false
namespace natW
/-- a fraction and an error's number -/
def ratN : Option (Int × Int) → Value
  | some (n, d) => .tuple #[.agg #[.int .i64 n, .int .i64 d], .int .i64 0]
  | none => .tuple #[.agg #[.int .i64 0, .int .i64 0], .int .i64 9]
theorem fit_zero (s : Bool) (D : Nat) : fitR (Rat.divInt (sg s 0) D) = some (0, 1) := by
  have : sg s 0 = 0 := by unfold sg; split <;> rfl
  rw [this, Rat.zero_divInt]
  rfl
theorem two {a b T U : Nat} {X Y : Array Value} {w W W' : World} (h : Has W a T X ∧ Has W b U Y ∧ Below w.heap.size w W) (hb : Below W.heap.size W W') : Has W' a T X ∧ Has W' b U Y ∧ Below w.heap.size w W' :=
  ⟨h.1.below hb h.1.lt, h.2.1.below hb h.2.1.lt, h.2.2.trans (hb.mono h.2.2.size)⟩
theorem com_le {N D g : Nat} (h : Com N D g) (hD : 0 < D) : g ≤ D := by
  rcases h with rfl | ⟨h1, h2, h3, h4⟩
  · exact Nat.gcd_le_right _ hD
  · exact Nat.le_trans (Nat.le_mul_of_pos_right g (by decide)) h3
theorem ret_ok {n d n' d' : Int} (h : n = n') (h' : d = d') : Value.tuple #[.agg #[.int .i64 n, .int .i64 d], .int .i64 0] = ratN (some (n', d')) := by rw [h, h']; rfl
theorem ret_rat {a b : Option (Int × Int)} (h : a = b) : Ending.returned (ratN a) = .returned (ratN b) := by rw [h]

set_option maxRecDepth 100000 in
set_option maxHeartbeats 4000000 in
theorem lowest_any (v : Value) (s : Bool) (N D : Nat) (w : World) (h : FrV w v s N D) (hD : 0 < D) (l1 : (digs N).length ≤ 40) (l2 : (digs D).length ≤ 40) :
    Calls Tryd.prog 46 #[v] w fun e w' => e = .returned (ratN (fitR (Rat.divInt (sg s N) D))) ∧ Below w.heap.size w w' := by
  obtain ⟨F, hF⟩ : ∃ F, F = fitR (Rat.divInt (sg s N) D) := ⟨_, rfl⟩
  rw [← hF]
  have HF := Lib.hid hF
  clear hF
  obtain ⟨x1, y1, rfl, h1, h2⟩ := h
  obtain ⟨A1, c1, rfl, p1, p2⟩ := Sl.form h1
  obtain ⟨B1, d1, rfl, p3, p4⟩ := Sl.form h2
  have p5 : c1 ≤ 9223372036854775807 := by unfold maxLen at p2; omega
  have HN := Lib.hid (fun W (hb : Below w.heap.size w W) => h1.at_below hb)
  have HD := Lib.hid (fun W (hb : Below w.heap.size w W) => h2.at_below hb)
  have HD0 := Lib.hid hD
  have L1 := Lib.hid l1
  have LN0 : Hid (∀ g, (digs (N / g)).length ≤ 1000) := Lib.hid fun g => Nat.le_trans (digs_len_mono (Nat.div_le_self _ _)) (by omega)
  have LD0 : Hid (∀ g, (digs (D / g)).length ≤ 1000) := Lib.hid fun g => Nat.le_trans (digs_len_mono (Nat.div_le_self _ _)) (by omega)
  have L2 := Lib.hid l2
  have CC : Hid (∀ W, Below w.heap.size w W → Calls Tryd.prog 62 #[.slice A1 (digs N).length c1, .slice B1 (digs D).length d1] W fun e w' => ∃ x g, e = .returned x ∧ Nt w' x g ∧ Com N D g ∧ Below W.heap.size W w') := Lib.hid fun W hW => common_any _ _ _ _ W (HN.out W hW) (HD.out W hW) (Nat.le_trans L1.out (by decide)) (Nat.le_trans L2.out (by decide))
  have CN : Hid (∀ W u g, Below w.heap.size w W → Nt W u g → Com N D g → Calls Tryd.prog 67 #[.slice A1 (digs N).length c1, u] W fun e w' => ∃ x y, e = .returned (.tuple #[x, y]) ∧ Nt w' x (N / g) ∧ Nt w' y (N % g) ∧ Below W.heap.size W w') := Lib.hid fun W u g hW hu hg => divided_any _ _ _ _ W (HN.out W hW) hu (Nat.le_trans L1.out (by decide)) (Nat.le_trans (digs_len_mono (com_le hg HD0.out)) (Nat.le_trans L2.out (by decide))) (hg.pos HD0.out)
  have CD : Hid (∀ W u g, Below w.heap.size w W → Nt W u g → Com N D g → Calls Tryd.prog 67 #[.slice B1 (digs D).length d1, u] W fun e w' => ∃ x y, e = .returned (.tuple #[x, y]) ∧ Nt w' x (D / g) ∧ Nt w' y (D % g) ∧ Below W.heap.size W w') := Lib.hid fun W u g hW hu hg => divided_any _ _ _ _ W (HD.out W hW) hu (Nat.le_trans L2.out (by decide)) (Nat.le_trans (digs_len_mono (com_le hg HD0.out)) (Nat.le_trans L2.out (by decide))) (hg.pos HD0.out)
  have HN0 : Hid ((digs N).length = 0 → N = 0) := Lib.hid (fun h => digs_nil.1 (List.eq_nil_of_length_eq_zero h))
  have hn0 : (digs N).length = 0 ∨ 0 < (digs N).length ∧ N ≠ 0 := by
    rcases Nat.eq_zero_or_pos (digs N).length with h0 | h0
    · exact .inl h0
    · exact .inr ⟨h0, fun e => by rw [e, digs_zero] at h0; simp at h0⟩
  clear h1 h2 hD l1 l2 p2 p4
  generalize (digs N).length = m1 at *
  generalize (digs D).length = n1 at *
  rcases hn0 with rfl | ⟨hm, hN⟩
  · have HFZ : Hid (F = some (0, 1)) := Lib.hid (by rw [HF.out, HN0.out rfl]; exact fit_zero s D)
    go_enter Tryd.func46, Tryd.ntmps46
    go_wp2
    refine bodyPost_ret (results_block2 (g := w.heap.size + 1) (T := 26) rfl rfl (by exact Has.new1 w _ _ _) rfl Tryd.underlying26 rfl (by kernel_rfl)) rfl ?_
    exact ⟨by rw [HFZ.out]; rfl, (by repeat' (first | (with_reducible assumption) | (with_reducible refine Below.setCell ?_ ?_ _) | (with_reducible refine Below.alloc ?_ ?_ _) | (with_reducible refine Below.drew ?_) | (with_reducible refine below_drewN ?_ _) | (with_reducible exact Below.refl _ _) | (show _ ≤ _; (try simp); (try omega); done) | exact Below.refl _ _ | assumption))⟩
  have dm : decide (0 < m1) = true := decide_eq_true hm
  have hmi : ((m1 : Int) == 0) = false := by rw [beq_eq_false_iff_ne]; omega
  have HNE := Lib.hid hN
  clear hN HN0
  go_enter Tryd.func46, Tryd.ntmps46
  have hH0 : Has ((w.alloc (Obj.cells #[.bool s, .slice A1 m1 c1, .slice B1 n1 d1] 84)).alloc (Obj.cells #[.int .i64 0, .int .i64 0] 26)) w.heap.size 84 #[.bool s, .slice A1 m1 c1, .slice B1 n1 d1] := (Has.new w _ _).alloc _
  have hH1 : Has ((w.alloc (Obj.cells #[.bool s, .slice A1 m1 c1, .slice B1 n1 d1] 84)).alloc (Obj.cells #[.int .i64 0, .int .i64 0] 26)) (w.heap.size + 1) 26 #[.int .i64 0, .int .i64 0] := Has.new1 w _ _ _
  have hBB : Below w.heap.size w ((w.alloc (Obj.cells #[.bool s, .slice A1 m1 c1, .slice B1 n1 d1] 84)).alloc (Obj.cells #[.int .i64 0, .int .i64 0] 26)) := (by repeat' (first | (with_reducible assumption) | (with_reducible refine Below.setCell ?_ ?_ _) | (with_reducible refine Below.alloc ?_ ?_ _) | (with_reducible refine Below.drew ?_) | (with_reducible refine below_drewN ?_ _) | (with_reducible exact Below.refl _ _) | (show _ ≤ _; (try simp); (try omega); done) | exact Below.refl _ _ | assumption))
  have HS0 := Lib.hid (And.intro hH0 (And.intro hH1 hBB))
  clear hH0 hH1 hBB
  go_upto_region 1 with fail
  generalize ((w.alloc (Obj.cells #[.bool s, .slice A1 m1 c1, .slice B1 n1 d1] 84)).alloc (Obj.cells #[.int .i64 0, .int .i64 0] 26)) = W0 at HS0 ⊢
  have j1 : W0.cell? ⟨w.heap.size, 1, none⟩ = some (.slice A1 m1 c1) := HS0.out.1.cell 1
  have j2 : W0.cell? ⟨w.heap.size, 2, none⟩ = some (.slice B1 n1 d1) := HS0.out.1.cell 2
  go_wp2_with fail
  refine (CC.out W0 HS0.out.2.2).mono ?_
  rintro e w1 ⟨gv, g, rfl, hg, hcom, hb⟩
  have HS1 : Hid (Has w1 w.heap.size 84 #[.bool s, .slice A1 m1 c1, .slice B1 n1 d1] ∧ Has w1 (w.heap.size + 1) 26 #[.int .i64 0, .int .i64 0] ∧ Below w.heap.size w w1) := Lib.hid (two HS0.out hb)
  have HG := Lib.hid hg
  have HC := Lib.hid hcom
  clear hg hcom hb CC HS0 j1 j2
  have j1 : w1.cell? ⟨w.heap.size, 1, none⟩ = some (.slice A1 m1 c1) := HS1.out.1.cell 1
  go_wp2_with fail
  refine (CN.out w1 gv g HS1.out.2.2 HG.out HC.out).mono ?_
  rintro e w2 ⟨nv, rv, rfl, hn, hr, hb⟩
  have HS2 : Hid (Has w2 w.heap.size 84 #[.bool s, .slice A1 m1 c1, .slice B1 n1 d1] ∧ Has w2 (w.heap.size + 1) 26 #[.int .i64 0, .int .i64 0] ∧ Below w.heap.size w w2) := Lib.hid (two HS1.out hb)
  have HG2 := Lib.hid (HG.out.at_below hb)
  have HNV := Lib.hid hn
  clear hn hr hb CN HS1 HG j1
  have j2 : w2.cell? ⟨w.heap.size, 2, none⟩ = some (.slice B1 n1 d1) := HS2.out.1.cell 2
  go_wp2_with fail
  refine (CD.out w2 gv g HS2.out.2.2 HG2.out HC.out).mono ?_
  rintro e w3 ⟨dv, rv2, rfl, hn, hr, hb⟩
  have HS3 : Hid (Has w3 w.heap.size 84 #[.bool s, .slice A1 m1 c1, .slice B1 n1 d1] ∧ Has w3 (w.heap.size + 1) 26 #[.int .i64 0, .int .i64 0] ∧ Below w.heap.size w w3) := Lib.hid (two HS2.out hb)
  have HNV3 := Lib.hid (HNV.out.at_below hb)
  have HDV := Lib.hid hn
  clear hn hr hb CD HS2 HG2 HNV j2
  have HLW : Hid (F = if overB s (N / g) (D / g) then none else some (sg s (N / g), ((D / g : Nat) : Int))) := Lib.hid (HF.out.trans (low_law HNE.out HD0.out HC.out))
  have LN := Lib.hid (LN0.out g)
  have LD := Lib.hid (LD0.out g)
  generalize N / g = n at *
  generalize D / g = d at *
  have CW1 : Hid (Calls Tryd.prog 65 #[nv] w3 fun e w' => e = .returned (.tuple #[.int .u64 ((n % 18446744073709551616 : Nat) : Int), .bool (decide (n < 18446744073709551616))]) ∧ w3 = w') := Lib.hid (word_any nv n w3 HNV3.out LN.out)
  have CW2 : Hid (Calls Tryd.prog 65 #[dv] w3 fun e w' => e = .returned (.tuple #[.int .u64 ((d % 18446744073709551616 : Nat) : Int), .bool (decide (d < 18446744073709551616))]) ∧ w3 = w') := Lib.hid (word_any dv d w3 HDV.out LD.out)
  obtain ⟨one, ho1⟩ : ∃ b, b = decide (n < 18446744073709551616) := ⟨_, rfl⟩
  obtain ⟨two', ho2⟩ : ∃ b, b = decide (d < 18446744073709551616) := ⟨_, rfl⟩
  obtain ⟨a, ha⟩ : ∃ a, a = n % 18446744073709551616 := ⟨_, rfl⟩
  obtain ⟨c, hc⟩ : ∃ c, c = d % 18446744073709551616 := ⟨_, rfl⟩
  have HOV : Hid (overB s n d = (!one || !two' || decide (9223372036854775807 < c) || decide (9223372036854775808 < a) || (decide (a = 9223372036854775808) && !s))) := Lib.hid (by unfold overB; rw [ho1, ho2, ha, hc])
  rw [← ho1, ← ha] at CW1
  rw [← ho2, ← hc] at CW2
  have HO1 := Lib.hid ho1
  have HO2 := Lib.hid ho2
  have HA := Lib.hid ha
  have HCC := Lib.hid hc
  have qa : a < 18446744073709551616 := by rw [ha]; exact Nat.mod_lt _ (by decide)
  have qc : c < 18446744073709551616 := by rw [hc]; exact Nat.mod_lt _ (by decide)
  clear ho1 ho2 ha hc
  have j0 : w3.cell? ⟨w.heap.size, 0, none⟩ = some (Value.bool s) := HS3.out.1.cell 0
  have k0 : w3.cell? ⟨w.heap.size + 1, 0, none⟩ = some (.int .i64 0) := HS3.out.2.1.cell 0
  have k1 : w3.cell? ⟨w.heap.size + 1, 1, none⟩ = some (.int .i64 0) := HS3.out.2.1.cell 1
  have f0 := HS3.out.2.1.frozen 0
  have f1 := HS3.out.2.1.frozen 1
  have hz3 := HS3.out.2.1.lt
  go_wp2_with fail
  refine CW1.out.mono ?_
  rintro e w4 ⟨rfl, rfl⟩
  clear CW1
  go_wp2_with fail
  refine CW2.out.mono ?_
  rintro e w4 ⟨rfl, rfl⟩
  clear CW2
  cases one
  · have HB : Hid (overB s n d = true) := Lib.hid (by rw [HOV.out]; rfl)
    go_wp2
    refine bodyPost_ret (results_block2 (g := w.heap.size + 1) (T := 26) rfl rfl (by exact (HS3.out.2.1.set 0 _).set 1 _) rfl Tryd.underlying26 rfl (by kernel_rfl)) rfl ?_
    exact ⟨by rw [HLW.out, HB.out]; rfl, (HS3.out.2.2.setCell (by dsimp only; omega) _).setCell (by dsimp only; omega) _⟩
  cases two'
  · have HB : Hid (overB s n d = true) := Lib.hid (by rw [HOV.out]; rfl)
    go_wp2
    refine bodyPost_ret (results_block2 (g := w.heap.size + 1) (T := 26) rfl rfl (by exact (HS3.out.2.1.set 0 _).set 1 _) rfl Tryd.underlying26 rfl (by kernel_rfl)) rfl ?_
    exact ⟨by rw [HLW.out, HB.out]; rfl, (HS3.out.2.2.setCell (by dsimp only; omega) _).setCell (by dsimp only; omega) _⟩
  by_cases h1 : 9223372036854775807 < c
  · have HB : Hid (overB s n d = true) := Lib.hid (by rw [HOV.out, decide_eq_true h1]; simp)
    have e1 : decide ((9223372036854775807 : Int) < (c : Int)) = true := decide_eq_true (by omega)
    have e1' : decide (9223372036854775807 < c) = true := decide_eq_true h1
    clear h1
    go_wp2
    refine bodyPost_ret (results_block2 (g := w.heap.size + 1) (T := 26) rfl rfl (by exact (HS3.out.2.1.set 0 _).set 1 _) rfl Tryd.underlying26 rfl (by kernel_rfl)) rfl ?_
    exact ⟨by rw [HLW.out, HB.out]; rfl, (HS3.out.2.2.setCell (by dsimp only; omega) _).setCell (by dsimp only; omega) _⟩
  have e1 : decide ((9223372036854775807 : Int) < (c : Int)) = false := decide_eq_false (by omega)
  have e1' : decide (9223372036854775807 < c) = false := decide_eq_false h1
  by_cases h2 : 9223372036854775808 < a
  · have HB : Hid (overB s n d = true) := Lib.hid (by rw [HOV.out, decide_eq_true h2]; simp)
    have e2 : decide ((9223372036854775808 : Int) < (a : Int)) = true := decide_eq_true (by omega)
    have e2' : decide (9223372036854775808 < a) = true := decide_eq_true h2
    clear h1 h2
    go_wp2
    refine bodyPost_ret (results_block2 (g := w.heap.size + 1) (T := 26) rfl rfl (by exact (HS3.out.2.1.set 0 _).set 1 _) rfl Tryd.underlying26 rfl (by kernel_rfl)) rfl ?_
    exact ⟨by rw [HLW.out, HB.out]; rfl, (HS3.out.2.2.setCell (by dsimp only; omega) _).setCell (by dsimp only; omega) _⟩
  have e2 : decide ((9223372036854775808 : Int) < (a : Int)) = false := decide_eq_false (by omega)
  have e2' : decide (9223372036854775808 < a) = false := decide_eq_false h2
  by_cases h3 : a = 9223372036854775808
  · have e3 : ((a : Int) == 9223372036854775808) = true := by rw [beq_iff_eq]; omega
    cases s
    · have HB : Hid (overB false n d = true) := Lib.hid (by rw [HOV.out, decide_eq_true h3]; simp)
      clear h1 h2 h3
      go_wp2
      refine bodyPost_ret (results_block2 (g := w.heap.size + 1) (T := 26) rfl rfl (by exact (HS3.out.2.1.set 0 _).set 1 _) rfl Tryd.underlying26 rfl (by kernel_rfl)) rfl ?_
      exact ⟨by rw [HLW.out, HB.out]; rfl, (HS3.out.2.2.setCell (by dsimp only; omega) _).setCell (by dsimp only; omega) _⟩
    · have HB : Hid (overB true n d = false) := Lib.hid (by rw [HOV.out, e1', e2', decide_eq_true h3]; rfl)
      have hov := over_false HB.out
      have hr1 : a = n := by rw [HA.out, Nat.mod_eq_of_lt hov.1]
      have hr2 : c = d := by rw [HCC.out, Nat.mod_eq_of_lt (by omega)]
      have HR1 := Lib.hid hr1
      have HR2 := Lib.hid hr2
      have hov3 := hov.2.2.1
      have q1 : a ≤ 9223372036854775808 := by omega
      have q2 : c ≤ 9223372036854775807 := by omega
      clear hov hr1 hr2 hov3 h1 h2 h3
      go_wp2
      refine bodyPost_ret (results_block2 (g := w.heap.size + 1) (T := 26) rfl rfl (by exact (HS3.out.2.1.set 0 _).set 1 _) rfl Tryd.underlying26 rfl (by kernel_rfl)) rfl ?_
      refine ⟨?_, (HS3.out.2.2.setCell (by dsimp only; omega) _).setCell (by dsimp only; omega) _⟩
      rw [HLW.out, HB.out, ← HR1.out, ← HR2.out]
      exact congrArg Ending.returned (ret_ok (by unfold sg; simp only [if_true] <;> first | rfl | ((try simp only [IntKind.wrap_u64, IntKind.wrap_i64, wrap64]); omega)) (by first | rfl | ((try simp only [IntKind.wrap_u64, IntKind.wrap_i64, wrap64]); omega)))
  · have e3 : ((a : Int) == 9223372036854775808) = false := by rw [beq_eq_false_iff_ne]; omega
    have HB : Hid (overB s n d = false) := Lib.hid (by rw [HOV.out, e1', e2', decide_eq_false h3]; rfl)
    have hov := over_false HB.out
    have hr1 : a = n := by rw [HA.out, Nat.mod_eq_of_lt hov.1]
    have hr2 : c = d := by rw [HCC.out, Nat.mod_eq_of_lt (by omega)]
    have HR1 := Lib.hid hr1
    have HR2 := Lib.hid hr2
    have q1 : a < 9223372036854775808 := by omega
    have q2 : c ≤ 9223372036854775807 := by omega
    clear hov hr1 hr2 h1 h2 h3
    cases s
    · 
      go_wp2
      refine bodyPost_ret (results_block2 (g := w.heap.size + 1) (T := 26) rfl rfl (by exact (HS3.out.2.1.set 0 _).set 1 _) rfl Tryd.underlying26 rfl (by kernel_rfl)) rfl ?_
      refine ⟨?_, (HS3.out.2.2.setCell (by dsimp only; omega) _).setCell (by dsimp only; omega) _⟩
      rw [HLW.out, HB.out, ← HR1.out, ← HR2.out]
      exact congrArg Ending.returned (ret_ok (by unfold sg; simp only [Bool.false_eq_true, if_false] <;> first | rfl | ((try simp only [IntKind.wrap_u64, IntKind.wrap_i64, wrap64]); omega)) (by first | rfl | ((try simp only [IntKind.wrap_u64, IntKind.wrap_i64, wrap64]); omega)))
    · 
      go_wp2
      refine bodyPost_ret (results_block2 (g := w.heap.size + 1) (T := 26) rfl rfl (by exact (HS3.out.2.1.set 0 _).set 1 _) rfl Tryd.underlying26 rfl (by kernel_rfl)) rfl ?_
      refine ⟨?_, (HS3.out.2.2.setCell (by dsimp only; omega) _).setCell (by dsimp only; omega) _⟩
      rw [HLW.out, HB.out, ← HR1.out, ← HR2.out]
      exact congrArg Ending.returned (ret_ok (by unfold sg; simp only [if_true] <;> first | rfl | ((try simp only [IntKind.wrap_u64, IntKind.wrap_i64, wrap64]); omega)) (by first | rfl | ((try simp only [IntKind.wrap_u64, IntKind.wrap_i64, wrap64]); omega)))
end natW
end Go.Proofs.YtllbpanfhlbbgaaDoor
