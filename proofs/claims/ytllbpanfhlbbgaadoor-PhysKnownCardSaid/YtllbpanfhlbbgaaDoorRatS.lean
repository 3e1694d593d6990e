/- Walk of rat.sum: of each sign, order and size of its terms. No condition. -/
import Derived.Test.YtllbpanfhlbbgaaDoorRatD
import Derived.Test.YtllbpanfhlbbgaaDoorDiv
import Derived.Shelf.Spec.BitsCarry
namespace Go.Proofs.YtllbpanfhlbbgaaDoor
open Go.RowKit Go.Bus Go.Rt
set_option linter.unusedVariables false
namespace ratW
theorem add64_v (x y c s q : Nat) (hx : x < 18446744073709551616) (hy : y < 18446744073709551616) (hc : c ≤ 1) (hs : s = (x + y + c) % 18446744073709551616) (hq : q = (x + y + c) / 18446744073709551616) (w : World) : (callFunc 80 #[.int .u64 x, .int .u64 y, .int .u64 c]).run Tryd.prog w =
    .ok (.value (.tuple #[.int .u64 (s : Int), .int .u64 (q : Int)])) w := by
  rw [run_callFunc_extern Tryd.func80 (by kernel_rfl) (by kernel_rfl) (by kernel_rfl) (e := add64Entry) (by kernel_rfl), run_add64 x y c (by omega) (by omega) (by omega) (by omega)]
  subst hs; subst hq
  simp only [Result.andThen]
  congr 5 <;> omega
theorem add64_0 (x y s q : Nat) (hx : x < 18446744073709551616) (hy : y < 18446744073709551616) (hs : s = (x + y) % 18446744073709551616) (hq : q = (x + y) / 18446744073709551616) (w : World) : (callFunc 80 #[.int .u64 x, .int .u64 y, .int .u64 0]).run Tryd.prog w =
    .ok (.value (.tuple #[.int .u64 (s : Int), .int .u64 (q : Int)])) w := add64_v x y 0 s q hx hy (by omega) hs hq w
theorem sub64_v (x y b s q : Nat) (hb : b ≤ 1) (hs : s = (x + 18446744073709551616 - y - b) % 18446744073709551616) (hq : q = if x < y + b then 1 else 0) (w : World) : (callFunc 81 #[.int .u64 x, .int .u64 y, .int .u64 b]).run Tryd.prog w =
    .ok (.value (.tuple #[.int .u64 (s : Int), .int .u64 (q : Int)])) w := by
  rw [run_callFunc_extern Tryd.func81 (by kernel_rfl) (by kernel_rfl) (by kernel_rfl) (e := sub64Entry) (by kernel_rfl), run_sub64 x y b hb, hs, hq]
  rfl
theorem sub64_0 (x y s q : Nat) (hs : s = (x + 18446744073709551616 - y) % 18446744073709551616) (hq : q = if x < y then 1 else 0) (w : World) : (callFunc 81 #[.int .u64 x, .int .u64 y, .int .u64 0]).run Tryd.prog w =
    .ok (.value (.tuple #[.int .u64 (s : Int), .int .u64 (q : Int)])) w := sub64_v x y 0 s q (by omega) hs hq w
theorem wrem {a g p : Nat} (ha : a < 18446744073709551616) (hg : 0 < g) (hp : p = a % g) : IntKind.u64.wrap ((a : Int) % (g : Int)) = (p : Int) ∧ (a : Int) % (g : Int) = (p : Int) := by
  have h : (a : Int) % (g : Int) = (p : Int) := by rw [hp, Int.natCast_emod]
  exact ⟨by rw [h]; exact wrapN _ (by have := Nat.mod_lt a hg; have := Nat.mod_le a g; omega), h⟩
theorem wquo2 {a g p : Nat} (ha : a < 18446744073709551616) (hp : p = a / g) : IntKind.u64.wrap ((a : Int) / (g : Int)) = (p : Int) ∧ (a : Int) / (g : Int) = (p : Int) :=
  ⟨wquo ha hp, by rw [← Int.natCast_ediv, ← hp]⟩
theorem mod_join {h l S g : Nat} (hS : S = h * 18446744073709551616 + l) : (h % g * 18446744073709551616 + l) % g = S % g := by
  rw [hS, Nat.add_mod, Nat.mod_mul_mod, ← Nat.add_mod]
theorem div_join {h l S k : Nat} (hk : 0 < k) (hS : S = h * 18446744073709551616 + l) (hd : k ∣ S) : (h / k) * 18446744073709551616 + (h % k * 18446744073709551616 + l) / k = S / k := by
  have e : S = k * ((h / k) * 18446744073709551616) + (h % k * 18446744073709551616 + l) := by
    rw [hS]
    have := Nat.div_add_mod h k
    calc h * 18446744073709551616 + l = (k * (h / k) + h % k) * 18446744073709551616 + l := by rw [this]
      _ = k * (h / k * 18446744073709551616) + (h % k * 18446744073709551616 + l) := by rw [Nat.add_mul, Nat.mul_assoc, Nat.add_assoc]
  rw [e, Nat.mul_add_div hk]
set_option maxRecDepth 100000 in
set_option maxHeartbeats 1000000 in
theorem sum_wrong (an ad bn bd : Int) (less : Bool) (w : World) (h1 : -9223372036854775808 ≤ an) (h2 : an < 9223372036854775808) (h3 : ad < 9223372036854775808) (h4 : -9223372036854775808 ≤ bn) (h5 : bn < 9223372036854775808) (h6 : bd < 9223372036854775808)
    (hr : (rightB an ad && rightB bn bd) = false) :
    Calls Tryd.prog 54 #[.agg #[.int .i64 an, .int .i64 ad], .agg #[.int .i64 bn, .int .i64 bd], .bool less] w fun e w' => e = .returned (ratE 1) ∧ Below w.heap.size w w' := by
  cases ha : rightB an ad
  · go_enter Tryd.func54, Tryd.ntmps54
    go_wp2_with (go_at_call 39; refine (right_any _ _ _ (by assumption) (by assumption) (by assumption)).mono ?_; rintro e w1 ⟨he, hb⟩; rw [ha] at he; subst he; obtain ⟨hc, hf⟩ := bcell hb; have hz := hb.size; (try simp at hz); have hB : Below w.heap.size w w1 := Below.trans (by repeat' (first | (with_reducible assumption) | (with_reducible refine Below.setCell ?_ ?_ _) | (with_reducible refine Below.alloc ?_ ?_ _) | (with_reducible refine Below.drew ?_) | (with_reducible refine below_drewN ?_ _) | (with_reducible exact Below.refl _ _) | (show _ ≤ _; (try simp); (try omega); done) | exact Below.refl _ _ | assumption)) (hb.mono (by (try simp); (try omega))))
    have d0 : w1.cell? ⟨w.heap.size + 2, 0, none⟩ = some (.int .i64 0) := (hc _ _ (by simp)).trans (by simp [go_sem])
    have d1 : w1.cell? ⟨w.heap.size + 2, 1, none⟩ = some (.int .i64 0) := (hc _ _ (by simp)).trans (by simp [go_sem])
    refine bodyPost_ret (v := ratE 1) (by simp [results, Tryd.results54, go_sem, ratE, d0, d1]) rfl ?_
    exact ⟨rfl, (by repeat' (first | (with_reducible assumption) | (with_reducible refine Below.setCell ?_ ?_ _) | (with_reducible refine Below.alloc ?_ ?_ _) | (with_reducible refine Below.drew ?_) | (with_reducible refine below_drewN ?_ _) | (with_reducible exact Below.refl _ _) | (show _ ≤ _; (try simp); (try omega); done) | exact Below.refl _ _ | assumption))⟩
  · have hb0 : rightB bn bd = false := by rw [ha, Bool.true_and] at hr; exact hr
    have HA := Lib.hid ha; have HB := Lib.hid hb0
    clear ha hb0 hr
    go_enter Tryd.func54, Tryd.ntmps54
    go_wp2_with (go_at_call 39; first
      | (refine (right_any _ _ _ (by omega) (by omega) (by omega)).mono ?_; rintro e w1 ⟨he, hb_w1⟩; rw [HA.out] at he; clear HA; subst he; obtain ⟨hc_w1, hf_w1⟩ := bcell hb_w1; have hz_w1 := hb_w1.size; (try simp at hz_w1); have hB_w1 : Below w.heap.size w w1 := Below.trans (by repeat' (first | (with_reducible assumption) | (with_reducible refine Below.setCell ?_ ?_ _) | (with_reducible refine Below.alloc ?_ ?_ _) | (with_reducible refine Below.drew ?_) | (with_reducible refine below_drewN ?_ _) | (with_reducible exact Below.refl _ _) | (show _ ≤ _; (try simp); (try omega); done) | exact Below.refl _ _ | assumption)) (hb_w1.mono (by (try simp); (try omega))); have z_w1_0 : w.heap.size < w1.heap.size := (by omega); have z_w1_1 : w.heap.size + 1 < w1.heap.size := (by omega); have z_w1_2 : w.heap.size + 2 < w1.heap.size := (by omega))
      | (refine (right_any _ _ _ (by omega) (by omega) (by omega)).mono ?_; rintro e w2 ⟨he, hb_w2⟩; rw [HB.out] at he; clear HB; subst he; obtain ⟨hc_w2, hf_w2⟩ := bcell hb_w2; have hz_w2 := hb_w2.size; (try simp at hz_w2); have hB_w2 : Below w.heap.size w w2 := Below.trans (by repeat' (first | (with_reducible assumption) | (with_reducible refine Below.setCell ?_ ?_ _) | (with_reducible refine Below.alloc ?_ ?_ _) | (with_reducible refine Below.drew ?_) | (with_reducible refine below_drewN ?_ _) | (with_reducible exact Below.refl _ _) | (show _ ≤ _; (try simp); (try omega); done) | exact Below.refl _ _ | assumption)) (hb_w2.mono (by (try simp); (try omega))); have z_w2_0 : w.heap.size < w2.heap.size := (by omega); have z_w2_1 : w.heap.size + 1 < w2.heap.size := (by omega); have z_w2_2 : w.heap.size + 2 < w2.heap.size := (by omega)))
    have d0 : w2.cell? ⟨w.heap.size + 2, 0, none⟩ = some (.int .i64 0) := by go_simp
    have d1 : w2.cell? ⟨w.heap.size + 2, 1, none⟩ = some (.int .i64 0) := by go_simp
    refine bodyPost_ret (v := ratE 1) (by simp [results, Tryd.results54, go_sem, ratE, d0, d1]) rfl ?_
    exact ⟨rfl, (by repeat' (first | (with_reducible assumption) | (with_reducible refine Below.setCell ?_ ?_ _) | (with_reducible refine Below.alloc ?_ ?_ _) | (with_reducible refine Below.drew ?_) | (with_reducible refine below_drewN ?_ _) | (with_reducible exact Below.refl _ _) | (show _ ≤ _; (try simp); (try omega); done) | exact Below.refl _ _ | assumption))⟩
set_option maxRecDepth 100000 in
set_option maxHeartbeats 4000000 in
theorem sum_c1z (an bn : Int) (ad bd a b g x y h l i m c c2 sh sl p q0 rest k r2 low q1 bk hd ld top : Nat) (u v : Int) (er : Value) (less one sb two : Bool) (w : World) (h1 : -9223372036854775808 ≤ an) (h2 : an < 9223372036854775808) (h3 : ad < 9223372036854775808) (h4 : -9223372036854775808 ≤ bn) (h5 : bn < 9223372036854775808) (h6 : bd < 9223372036854775808)
    (HA : Hid (rightB an ad = true)) (HB : Hid (rightB bn bd = true)) (SA : Hid (a = an.natAbs)) (SB : Hid (b = bn.natAbs)) (HG : Hid (g = Nat.gcd ad bd)) (n1 : ¬ g = 0) (wx : IntKind.u64.wrap ((bd : Int) / (g : Int)) = (x : Int)) (wy : IntKind.u64.wrap ((ad : Int) / (g : Int)) = (y : Int)) (M1 : Hid (∀ w, Calls Tryd.prog 78 #[.int .u64 a, .int .u64 x] w fun e w' => e = .returned (.tuple #[.int .u64 (h : Int), .int .u64 (l : Int)]) ∧ w = w')) (M2 : Hid (∀ w, Calls Tryd.prog 78 #[.int .u64 b, .int .u64 y] w fun e w' => e = .returned (.tuple #[.int .u64 (i : Int), .int .u64 (m : Int)]) ∧ w = w')) (s1 : decide (an < 0) = one) (s2 : decide (bn < 0) = sb) (s3 : (!(sb == less)) = two) (bh : h < 18446744073709551616) (bl : l < 18446744073709551616) (bi : i < 18446744073709551616) (bm : m < 18446744073709551616) (e1 : (one == two) = true) (bc : c ≤ 1) (A1 : Hid (∀ w, (callFunc 80 #[.int .u64 l, .int .u64 m, .int .u64 0]).run Tryd.prog w = .ok (.value (.tuple #[.int .u64 (sl : Int), .int .u64 (c : Int)])) w)) (A2 : Hid (∀ w, (callFunc 80 #[.int .u64 h, .int .u64 i, .int .u64 c]).run Tryd.prog w = .ok (.value (.tuple #[.int .u64 (sh : Int), .int .u64 (c2 : Int)])) w)) (bsh : sh < 18446744073709551616) (bsl : sl < 18446744073709551616) (z1 : sh = 0) (z2 : sl = 0) :
    Calls Tryd.prog 54 #[.agg #[.int .i64 an, .int .i64 ad], .agg #[.int .i64 bn, .int .i64 bd], .bool less] w fun e w' => e = .returned (.tuple #[.agg #[.int .i64 0, .int .i64 1], .nilIface]) ∧ Below w.heap.size w w' := by
  subst z1
  subst z2
  have E1 := wrapN ad (by omega)
  have E2 := wrapN bd (by omega)
  skip
  go_enter Tryd.func54, Tryd.ntmps54
  go_wp2_with (go_at_call 39; first
    | (refine (right_any _ _ _ (by omega) (by omega) (by omega)).mono ?_; rintro e w1 ⟨he, hb_w1⟩; rw [HA.out] at he; clear HA; subst he; obtain ⟨hc_w1, hf_w1⟩ := bcell hb_w1; have hz_w1 := hb_w1.size; (try simp at hz_w1); have hB_w1 : Below w.heap.size w w1 := Below.trans (by repeat' (first | (with_reducible assumption) | (with_reducible refine Below.setCell ?_ ?_ _) | (with_reducible refine Below.alloc ?_ ?_ _) | (with_reducible refine Below.drew ?_) | (with_reducible refine below_drewN ?_ _) | (with_reducible exact Below.refl _ _) | (show _ ≤ _; (try simp); (try omega); done) | exact Below.refl _ _ | assumption)) (hb_w1.mono (by (try simp); (try omega))); have z_w1_0 : w.heap.size < w1.heap.size := (by omega); have z_w1_1 : w.heap.size + 1 < w1.heap.size := (by omega); have z_w1_2 : w.heap.size + 2 < w1.heap.size := (by omega))
    | (refine (right_any _ _ _ (by omega) (by omega) (by omega)).mono ?_; rintro e w2 ⟨he, hb_w2⟩; rw [HB.out] at he; clear HB; subst he; obtain ⟨hc_w2, hf_w2⟩ := bcell hb_w2; have hz_w2 := hb_w2.size; (try simp at hz_w2); have hB_w2 : Below w.heap.size w w2 := Below.trans (by repeat' (first | (with_reducible assumption) | (with_reducible refine Below.setCell ?_ ?_ _) | (with_reducible refine Below.alloc ?_ ?_ _) | (with_reducible refine Below.drew ?_) | (with_reducible refine below_drewN ?_ _) | (with_reducible exact Below.refl _ _) | (show _ ≤ _; (try simp); (try omega); done) | exact Below.refl _ _ | assumption)) (hb_w2.mono (by (try simp); (try omega))); have z_w2_0 : w.heap.size < w2.heap.size := (by omega); have z_w2_1 : w.heap.size + 1 < w2.heap.size := (by omega); have z_w2_2 : w.heap.size + 2 < w2.heap.size := (by omega))
    | fail)
  have c0 : w2.cell? ⟨w.heap.size, 0, none⟩ = some (.int .i64 an) := by go_simp
  have c1 : w2.cell? ⟨w.heap.size, 1, none⟩ = some (.int .i64 ad) := by go_simp
  have c2' : w2.cell? ⟨w.heap.size + 1, 0, none⟩ = some (.int .i64 bn) := by go_simp
  have c3 : w2.cell? ⟨w.heap.size + 1, 1, none⟩ = some (.int .i64 bd) := by go_simp
  have c4 : w2.cell? ⟨w.heap.size + 2, 0, none⟩ = some (.int .i64 0) := by go_simp
  have c5 : w2.cell? ⟨w.heap.size + 2, 1, none⟩ = some (.int .i64 0) := by go_simp
  have f4 : w2.frozen? ⟨w.heap.size + 2, 0, none⟩ = false := by go_simp
  have f5 : w2.frozen? ⟨w.heap.size + 2, 1, none⟩ = false := by go_simp
  clear hc_w2 hf_w2 hc_w1 hf_w1 hb_w1 hb_w2 hz_w1 hz_w2
  have HB2 := Lib.hid hB_w2; clear hB_w2 hB_w1
  clear z_w2_1 z_w2_0 z_w1_0 z_w1_1 z_w1_2
  go_wp2_with (go_at_call 69; refine (gcd_g _ _ _ (by omega) (by omega) (by exact HG.out) _).mono ?_; rintro e w3 ⟨rfl, n, rfl⟩)
  go_quiet (fail)
  go_wp2_with (first
    | (go_at_call 53; refine (size_v _ _ _ (by omega) (by omega) (by first | exact SA.out | exact SB.out)).mono ?_; rintro e w' ⟨rfl, rfl⟩)
    | (go_at_call 78; ((first | (with_reducible refine (M1.out _).mono ?_) | (with_reducible refine (M2.out _).mono ?_)); rintro e w' ⟨rfl, rfl⟩)))
  go_quiet (fail)
  go_wp2_with (first
    | simp only [A1.out] | simp only [A2.out])
  have hB := HB2.out
  have d4 := c4
  have d5 := c5
  refine bodyPost_ret (v := .tuple #[.agg #[.int .i64 0, .int .i64 1], .nilIface]) (by simp [results, Tryd.results54, go_sem, d4, d5]) rfl ?_
  exact ⟨rfl, (by repeat' (first | (with_reducible assumption) | (with_reducible refine Below.setCell ?_ ?_ _) | (with_reducible refine Below.alloc ?_ ?_ _) | (with_reducible refine Below.drew ?_) | (with_reducible refine below_drewN ?_ _) | (with_reducible exact Below.refl _ _) | (show _ ≤ _; (try simp); (try omega); done) | exact Below.refl _ _ | assumption))⟩
set_option maxRecDepth 100000 in
set_option maxHeartbeats 4000000 in
theorem sum_c1h (an bn : Int) (ad bd a b g x y h l i m c c2 sh sl p q0 rest k r2 low q1 bk hd ld top : Nat) (u v : Int) (er : Value) (less one sb two : Bool) (w : World) (h1 : -9223372036854775808 ≤ an) (h2 : an < 9223372036854775808) (h3 : ad < 9223372036854775808) (h4 : -9223372036854775808 ≤ bn) (h5 : bn < 9223372036854775808) (h6 : bd < 9223372036854775808)
    (HA : Hid (rightB an ad = true)) (HB : Hid (rightB bn bd = true)) (SA : Hid (a = an.natAbs)) (SB : Hid (b = bn.natAbs)) (HG : Hid (g = Nat.gcd ad bd)) (n1 : ¬ g = 0) (wx : IntKind.u64.wrap ((bd : Int) / (g : Int)) = (x : Int)) (wy : IntKind.u64.wrap ((ad : Int) / (g : Int)) = (y : Int)) (M1 : Hid (∀ w, Calls Tryd.prog 78 #[.int .u64 a, .int .u64 x] w fun e w' => e = .returned (.tuple #[.int .u64 (h : Int), .int .u64 (l : Int)]) ∧ w = w')) (M2 : Hid (∀ w, Calls Tryd.prog 78 #[.int .u64 b, .int .u64 y] w fun e w' => e = .returned (.tuple #[.int .u64 (i : Int), .int .u64 (m : Int)]) ∧ w = w')) (s1 : decide (an < 0) = one) (s2 : decide (bn < 0) = sb) (s3 : (!(sb == less)) = two) (bh : h < 18446744073709551616) (bl : l < 18446744073709551616) (bi : i < 18446744073709551616) (bm : m < 18446744073709551616) (e1 : (one == two) = true) (bc : c ≤ 1) (A1 : Hid (∀ w, (callFunc 80 #[.int .u64 l, .int .u64 m, .int .u64 0]).run Tryd.prog w = .ok (.value (.tuple #[.int .u64 (sl : Int), .int .u64 (c : Int)])) w)) (A2 : Hid (∀ w, (callFunc 80 #[.int .u64 h, .int .u64 i, .int .u64 c]).run Tryd.prog w = .ok (.value (.tuple #[.int .u64 (sh : Int), .int .u64 (c2 : Int)])) w)) (bsh : sh < 18446744073709551616) (bsl : sl < 18446744073709551616) (z1 : ((sh : Int) == 0) = false) (D1 : Hid (∀ w, Calls Tryd.prog 82 #[.int .u64 p, .int .u64 sl, .int .u64 g] w fun e w' => e = .returned (.tuple #[.int .u64 (q0 : Int), .int .u64 (rest : Int)]) ∧ ∃ n, w' = w.drewN n)) (G2 : Hid (∀ w, Calls Tryd.prog 69 #[.int .u64 g, .int .u64 rest] w fun e w' => e = .returned (.int .u64 (k : Int)) ∧ ∃ n, w' = w.drewN n)) (n2 : ¬ k = 0) (D2 : Hid (∀ w, Calls Tryd.prog 82 #[.int .u64 r2, .int .u64 sl, .int .u64 k] w fun e w' => e = .returned (.tuple #[.int .u64 (low : Int), .int .u64 (q1 : Int)]) ∧ ∃ n, w' = w.drewN n)) (wb : IntKind.u64.wrap ((bd : Int) / (k : Int)) = (bk : Int)) (M3 : Hid (∀ w, Calls Tryd.prog 78 #[.int .u64 y, .int .u64 bk] w fun e w' => e = .returned (.tuple #[.int .u64 (hd : Int), .int .u64 (ld : Int)]) ∧ w = w')) (F1 : Hid (∀ w, Calls Tryd.prog 79 #[.bool one, .int .u64 top, .int .u64 low, .int .u64 hd, .int .u64 ld] w fun e w' => e = .returned (.tuple #[.agg #[.int .i64 u, .int .i64 v], er]) ∧ Below w.heap.size w w')) (wp : (sh : Int) % (g : Int) = (p : Int)) (wt : IntKind.u64.wrap ((sh : Int) / (k : Int)) = (top : Int)) (wr : (sh : Int) % (k : Int) = (r2 : Int)) :
    Calls Tryd.prog 54 #[.agg #[.int .i64 an, .int .i64 ad], .agg #[.int .i64 bn, .int .i64 bd], .bool less] w fun e w' => e = .returned (.tuple #[.agg #[.int .i64 u, .int .i64 v], er]) ∧ Below w.heap.size w w' := by
  have E1 := wrapN ad (by omega)
  have E2 := wrapN bd (by omega)
  skip
  go_enter Tryd.func54, Tryd.ntmps54
  go_wp2_with (go_at_call 39; first
    | (refine (right_any _ _ _ (by omega) (by omega) (by omega)).mono ?_; rintro e w1 ⟨he, hb_w1⟩; rw [HA.out] at he; clear HA; subst he; obtain ⟨hc_w1, hf_w1⟩ := bcell hb_w1; have hz_w1 := hb_w1.size; (try simp at hz_w1); have hB_w1 : Below w.heap.size w w1 := Below.trans (by repeat' (first | (with_reducible assumption) | (with_reducible refine Below.setCell ?_ ?_ _) | (with_reducible refine Below.alloc ?_ ?_ _) | (with_reducible refine Below.drew ?_) | (with_reducible refine below_drewN ?_ _) | (with_reducible exact Below.refl _ _) | (show _ ≤ _; (try simp); (try omega); done) | exact Below.refl _ _ | assumption)) (hb_w1.mono (by (try simp); (try omega))); have z_w1_0 : w.heap.size < w1.heap.size := (by omega); have z_w1_1 : w.heap.size + 1 < w1.heap.size := (by omega); have z_w1_2 : w.heap.size + 2 < w1.heap.size := (by omega))
    | (refine (right_any _ _ _ (by omega) (by omega) (by omega)).mono ?_; rintro e w2 ⟨he, hb_w2⟩; rw [HB.out] at he; clear HB; subst he; obtain ⟨hc_w2, hf_w2⟩ := bcell hb_w2; have hz_w2 := hb_w2.size; (try simp at hz_w2); have hB_w2 : Below w.heap.size w w2 := Below.trans (by repeat' (first | (with_reducible assumption) | (with_reducible refine Below.setCell ?_ ?_ _) | (with_reducible refine Below.alloc ?_ ?_ _) | (with_reducible refine Below.drew ?_) | (with_reducible refine below_drewN ?_ _) | (with_reducible exact Below.refl _ _) | (show _ ≤ _; (try simp); (try omega); done) | exact Below.refl _ _ | assumption)) (hb_w2.mono (by (try simp); (try omega))); have z_w2_0 : w.heap.size < w2.heap.size := (by omega); have z_w2_1 : w.heap.size + 1 < w2.heap.size := (by omega); have z_w2_2 : w.heap.size + 2 < w2.heap.size := (by omega))
    | fail)
  have c0 : w2.cell? ⟨w.heap.size, 0, none⟩ = some (.int .i64 an) := by go_simp
  have c1 : w2.cell? ⟨w.heap.size, 1, none⟩ = some (.int .i64 ad) := by go_simp
  have c2' : w2.cell? ⟨w.heap.size + 1, 0, none⟩ = some (.int .i64 bn) := by go_simp
  have c3 : w2.cell? ⟨w.heap.size + 1, 1, none⟩ = some (.int .i64 bd) := by go_simp
  have c4 : w2.cell? ⟨w.heap.size + 2, 0, none⟩ = some (.int .i64 0) := by go_simp
  have c5 : w2.cell? ⟨w.heap.size + 2, 1, none⟩ = some (.int .i64 0) := by go_simp
  have f4 : w2.frozen? ⟨w.heap.size + 2, 0, none⟩ = false := by go_simp
  have f5 : w2.frozen? ⟨w.heap.size + 2, 1, none⟩ = false := by go_simp
  clear hc_w2 hf_w2 hc_w1 hf_w1 hb_w1 hb_w2 hz_w1 hz_w2
  have HB2 := Lib.hid hB_w2; clear hB_w2 hB_w1
  clear z_w2_1 z_w2_0 z_w1_0 z_w1_1 z_w1_2
  go_wp2_with (go_at_call 69; refine (gcd_g _ _ _ (by omega) (by omega) (by exact HG.out) _).mono ?_; rintro e w3 ⟨rfl, n, rfl⟩)
  go_quiet (fail)
  go_wp2_with (first
    | (go_at_call 53; refine (size_v _ _ _ (by omega) (by omega) (by first | exact SA.out | exact SB.out)).mono ?_; rintro e w' ⟨rfl, rfl⟩)
    | (go_at_call 78; ((first | (with_reducible refine (M1.out _).mono ?_) | (with_reducible refine (M2.out _).mono ?_)); rintro e w' ⟨rfl, rfl⟩)))
  go_quiet (fail)
  go_wp2_with (first
    | simp only [A1.out] | simp only [A2.out]
    | (go_at_call 82; ((first | (with_reducible refine (D1.out _).mono ?_) | (with_reducible refine (D2.out _).mono ?_)); rintro e w' ⟨rfl, n', rfl⟩))
    | (go_at_call 69; refine (G2.out _).mono ?_; rintro e w' ⟨rfl, n', rfl⟩)
    | (go_at_call 78; refine (M3.out _).mono ?_; rintro e w' ⟨rfl, rfl⟩))
  go_quiet (fail)
  go_wp2_with (first
    | (go_at_call 82; ((first | (with_reducible refine (D1.out _).mono ?_) | (with_reducible refine (D2.out _).mono ?_)); rintro e w' ⟨rfl, n', rfl⟩))
    | (go_at_call 78; refine (M3.out _).mono ?_; rintro e w' ⟨rfl, rfl⟩)
    | (go_at_call 79; refine (F1.out _).mono ?_; rintro e w3 ⟨rfl, hb_w3⟩
       have hc : ∀ o, w3.cell? ⟨w.heap.size + 2, o, none⟩ = w2.cell? ⟨w.heap.size + 2, o, none⟩ := fun o => hb_w3.cell (p := ⟨w.heap.size + 2, o, none⟩) z_w2_2
       have hf : ∀ o, w3.frozen? ⟨w.heap.size + 2, o, none⟩ = w2.frozen? ⟨w.heap.size + 2, o, none⟩ := fun o => hb_w3.frozen (p := ⟨w.heap.size + 2, o, none⟩) z_w2_2
       have d4 := (hc 0).trans c4
       have d5 := (hc 1).trans c5
       have g4 := (hf 0).trans f4
       have g5 := (hf 1).trans f5
       have H3 : Hid (Below w.heap.size w w3) := Lib.hid (HB2.out.trans ((show Below w2.heap.size w2 w3 from ⟨hb_w3.os, hb_w3.tape, hb_w3.output, hb_w3.size, hb_w3.block⟩).mono (by omega)))
       clear hc hf hb_w3))
  have hB := H3.out
  refine bodyPost_ret (v := .tuple #[.agg #[.int .i64 u, .int .i64 v], er]) (by simp [results, Tryd.results54, go_sem, d4, d5]) rfl ?_
  exact ⟨rfl, (by repeat' (first | (with_reducible assumption) | (with_reducible refine Below.setCell ?_ ?_ _) | (with_reducible refine Below.alloc ?_ ?_ _) | (with_reducible refine Below.drew ?_) | (with_reducible refine below_drewN ?_ _) | (with_reducible exact Below.refl _ _) | (show _ ≤ _; (try simp); (try omega); done) | exact Below.refl _ _ | assumption))⟩
set_option maxRecDepth 100000 in
set_option maxHeartbeats 4000000 in
theorem sum_c1l (an bn : Int) (ad bd a b g x y h l i m c c2 sh sl p q0 rest k r2 low q1 bk hd ld top : Nat) (u v : Int) (er : Value) (less one sb two : Bool) (w : World) (h1 : -9223372036854775808 ≤ an) (h2 : an < 9223372036854775808) (h3 : ad < 9223372036854775808) (h4 : -9223372036854775808 ≤ bn) (h5 : bn < 9223372036854775808) (h6 : bd < 9223372036854775808)
    (HA : Hid (rightB an ad = true)) (HB : Hid (rightB bn bd = true)) (SA : Hid (a = an.natAbs)) (SB : Hid (b = bn.natAbs)) (HG : Hid (g = Nat.gcd ad bd)) (n1 : ¬ g = 0) (wx : IntKind.u64.wrap ((bd : Int) / (g : Int)) = (x : Int)) (wy : IntKind.u64.wrap ((ad : Int) / (g : Int)) = (y : Int)) (M1 : Hid (∀ w, Calls Tryd.prog 78 #[.int .u64 a, .int .u64 x] w fun e w' => e = .returned (.tuple #[.int .u64 (h : Int), .int .u64 (l : Int)]) ∧ w = w')) (M2 : Hid (∀ w, Calls Tryd.prog 78 #[.int .u64 b, .int .u64 y] w fun e w' => e = .returned (.tuple #[.int .u64 (i : Int), .int .u64 (m : Int)]) ∧ w = w')) (s1 : decide (an < 0) = one) (s2 : decide (bn < 0) = sb) (s3 : (!(sb == less)) = two) (bh : h < 18446744073709551616) (bl : l < 18446744073709551616) (bi : i < 18446744073709551616) (bm : m < 18446744073709551616) (e1 : (one == two) = true) (bc : c ≤ 1) (A1 : Hid (∀ w, (callFunc 80 #[.int .u64 l, .int .u64 m, .int .u64 0]).run Tryd.prog w = .ok (.value (.tuple #[.int .u64 (sl : Int), .int .u64 (c : Int)])) w)) (A2 : Hid (∀ w, (callFunc 80 #[.int .u64 h, .int .u64 i, .int .u64 c]).run Tryd.prog w = .ok (.value (.tuple #[.int .u64 (sh : Int), .int .u64 (c2 : Int)])) w)) (bsh : sh < 18446744073709551616) (bsl : sl < 18446744073709551616) (z1 : sh = 0) (z2 : ((sl : Int) == 0) = false) (D1 : Hid (∀ w, Calls Tryd.prog 82 #[.int .u64 0, .int .u64 sl, .int .u64 g] w fun e w' => e = .returned (.tuple #[.int .u64 (q0 : Int), .int .u64 (rest : Int)]) ∧ ∃ n, w' = w.drewN n)) (G2 : Hid (∀ w, Calls Tryd.prog 69 #[.int .u64 g, .int .u64 rest] w fun e w' => e = .returned (.int .u64 (k : Int)) ∧ ∃ n, w' = w.drewN n)) (n2 : ¬ k = 0) (D2 : Hid (∀ w, Calls Tryd.prog 82 #[.int .u64 0, .int .u64 sl, .int .u64 k] w fun e w' => e = .returned (.tuple #[.int .u64 (low : Int), .int .u64 (q1 : Int)]) ∧ ∃ n, w' = w.drewN n)) (wb : IntKind.u64.wrap ((bd : Int) / (k : Int)) = (bk : Int)) (M3 : Hid (∀ w, Calls Tryd.prog 78 #[.int .u64 y, .int .u64 bk] w fun e w' => e = .returned (.tuple #[.int .u64 (hd : Int), .int .u64 (ld : Int)]) ∧ w = w')) (F1 : Hid (∀ w, Calls Tryd.prog 79 #[.bool one, .int .u64 0, .int .u64 low, .int .u64 hd, .int .u64 ld] w fun e w' => e = .returned (.tuple #[.agg #[.int .i64 u, .int .i64 v], er]) ∧ Below w.heap.size w w')) :
    Calls Tryd.prog 54 #[.agg #[.int .i64 an, .int .i64 ad], .agg #[.int .i64 bn, .int .i64 bd], .bool less] w fun e w' => e = .returned (.tuple #[.agg #[.int .i64 u, .int .i64 v], er]) ∧ Below w.heap.size w w' := by
  subst z1
  have E1 := wrapN ad (by omega)
  have E2 := wrapN bd (by omega)
  skip
  go_enter Tryd.func54, Tryd.ntmps54
  go_wp2_with (go_at_call 39; first
    | (refine (right_any _ _ _ (by omega) (by omega) (by omega)).mono ?_; rintro e w1 ⟨he, hb_w1⟩; rw [HA.out] at he; clear HA; subst he; obtain ⟨hc_w1, hf_w1⟩ := bcell hb_w1; have hz_w1 := hb_w1.size; (try simp at hz_w1); have hB_w1 : Below w.heap.size w w1 := Below.trans (by repeat' (first | (with_reducible assumption) | (with_reducible refine Below.setCell ?_ ?_ _) | (with_reducible refine Below.alloc ?_ ?_ _) | (with_reducible refine Below.drew ?_) | (with_reducible refine below_drewN ?_ _) | (with_reducible exact Below.refl _ _) | (show _ ≤ _; (try simp); (try omega); done) | exact Below.refl _ _ | assumption)) (hb_w1.mono (by (try simp); (try omega))); have z_w1_0 : w.heap.size < w1.heap.size := (by omega); have z_w1_1 : w.heap.size + 1 < w1.heap.size := (by omega); have z_w1_2 : w.heap.size + 2 < w1.heap.size := (by omega))
    | (refine (right_any _ _ _ (by omega) (by omega) (by omega)).mono ?_; rintro e w2 ⟨he, hb_w2⟩; rw [HB.out] at he; clear HB; subst he; obtain ⟨hc_w2, hf_w2⟩ := bcell hb_w2; have hz_w2 := hb_w2.size; (try simp at hz_w2); have hB_w2 : Below w.heap.size w w2 := Below.trans (by repeat' (first | (with_reducible assumption) | (with_reducible refine Below.setCell ?_ ?_ _) | (with_reducible refine Below.alloc ?_ ?_ _) | (with_reducible refine Below.drew ?_) | (with_reducible refine below_drewN ?_ _) | (with_reducible exact Below.refl _ _) | (show _ ≤ _; (try simp); (try omega); done) | exact Below.refl _ _ | assumption)) (hb_w2.mono (by (try simp); (try omega))); have z_w2_0 : w.heap.size < w2.heap.size := (by omega); have z_w2_1 : w.heap.size + 1 < w2.heap.size := (by omega); have z_w2_2 : w.heap.size + 2 < w2.heap.size := (by omega))
    | fail)
  have c0 : w2.cell? ⟨w.heap.size, 0, none⟩ = some (.int .i64 an) := by go_simp
  have c1 : w2.cell? ⟨w.heap.size, 1, none⟩ = some (.int .i64 ad) := by go_simp
  have c2' : w2.cell? ⟨w.heap.size + 1, 0, none⟩ = some (.int .i64 bn) := by go_simp
  have c3 : w2.cell? ⟨w.heap.size + 1, 1, none⟩ = some (.int .i64 bd) := by go_simp
  have c4 : w2.cell? ⟨w.heap.size + 2, 0, none⟩ = some (.int .i64 0) := by go_simp
  have c5 : w2.cell? ⟨w.heap.size + 2, 1, none⟩ = some (.int .i64 0) := by go_simp
  have f4 : w2.frozen? ⟨w.heap.size + 2, 0, none⟩ = false := by go_simp
  have f5 : w2.frozen? ⟨w.heap.size + 2, 1, none⟩ = false := by go_simp
  clear hc_w2 hf_w2 hc_w1 hf_w1 hb_w1 hb_w2 hz_w1 hz_w2
  have HB2 := Lib.hid hB_w2; clear hB_w2 hB_w1
  clear z_w2_1 z_w2_0 z_w1_0 z_w1_1 z_w1_2
  go_wp2_with (go_at_call 69; refine (gcd_g _ _ _ (by omega) (by omega) (by exact HG.out) _).mono ?_; rintro e w3 ⟨rfl, n, rfl⟩)
  go_quiet (fail)
  go_wp2_with (first
    | (go_at_call 53; refine (size_v _ _ _ (by omega) (by omega) (by first | exact SA.out | exact SB.out)).mono ?_; rintro e w' ⟨rfl, rfl⟩)
    | (go_at_call 78; ((first | (with_reducible refine (M1.out _).mono ?_) | (with_reducible refine (M2.out _).mono ?_)); rintro e w' ⟨rfl, rfl⟩)))
  go_quiet (fail)
  go_wp2_with (first
    | simp only [A1.out] | simp only [A2.out]
    | (go_at_call 82; ((first | (with_reducible refine (D1.out _).mono ?_) | (with_reducible refine (D2.out _).mono ?_)); rintro e w' ⟨rfl, n', rfl⟩))
    | (go_at_call 69; refine (G2.out _).mono ?_; rintro e w' ⟨rfl, n', rfl⟩)
    | (go_at_call 78; refine (M3.out _).mono ?_; rintro e w' ⟨rfl, rfl⟩))
  go_quiet (fail)
  go_wp2_with (first
    | (go_at_call 82; ((first | (with_reducible refine (D1.out _).mono ?_) | (with_reducible refine (D2.out _).mono ?_)); rintro e w' ⟨rfl, n', rfl⟩))
    | (go_at_call 78; refine (M3.out _).mono ?_; rintro e w' ⟨rfl, rfl⟩)
    | (go_at_call 79; refine (F1.out _).mono ?_; rintro e w3 ⟨rfl, hb_w3⟩
       have hc : ∀ o, w3.cell? ⟨w.heap.size + 2, o, none⟩ = w2.cell? ⟨w.heap.size + 2, o, none⟩ := fun o => hb_w3.cell (p := ⟨w.heap.size + 2, o, none⟩) z_w2_2
       have hf : ∀ o, w3.frozen? ⟨w.heap.size + 2, o, none⟩ = w2.frozen? ⟨w.heap.size + 2, o, none⟩ := fun o => hb_w3.frozen (p := ⟨w.heap.size + 2, o, none⟩) z_w2_2
       have d4 := (hc 0).trans c4
       have d5 := (hc 1).trans c5
       have g4 := (hf 0).trans f4
       have g5 := (hf 1).trans f5
       have H3 : Hid (Below w.heap.size w w3) := Lib.hid (HB2.out.trans ((show Below w2.heap.size w2 w3 from ⟨hb_w3.os, hb_w3.tape, hb_w3.output, hb_w3.size, hb_w3.block⟩).mono (by omega)))
       clear hc hf hb_w3))
  have hB := H3.out
  refine bodyPost_ret (v := .tuple #[.agg #[.int .i64 u, .int .i64 v], er]) (by simp [results, Tryd.results54, go_sem, d4, d5]) rfl ?_
  exact ⟨rfl, (by repeat' (first | (with_reducible assumption) | (with_reducible refine Below.setCell ?_ ?_ _) | (with_reducible refine Below.alloc ?_ ?_ _) | (with_reducible refine Below.drew ?_) | (with_reducible refine below_drewN ?_ _) | (with_reducible exact Below.refl _ _) | (show _ ≤ _; (try simp); (try omega); done) | exact Below.refl _ _ | assumption))⟩
set_option maxRecDepth 100000 in
set_option maxHeartbeats 4000000 in
theorem sum_c2ah (an bn : Int) (ad bd a b g x y h l i m c c2 sh sl p q0 rest k r2 low q1 bk hd ld top : Nat) (u v : Int) (er : Value) (less one sb two : Bool) (w : World) (h1 : -9223372036854775808 ≤ an) (h2 : an < 9223372036854775808) (h3 : ad < 9223372036854775808) (h4 : -9223372036854775808 ≤ bn) (h5 : bn < 9223372036854775808) (h6 : bd < 9223372036854775808)
    (HA : Hid (rightB an ad = true)) (HB : Hid (rightB bn bd = true)) (SA : Hid (a = an.natAbs)) (SB : Hid (b = bn.natAbs)) (HG : Hid (g = Nat.gcd ad bd)) (n1 : ¬ g = 0) (wx : IntKind.u64.wrap ((bd : Int) / (g : Int)) = (x : Int)) (wy : IntKind.u64.wrap ((ad : Int) / (g : Int)) = (y : Int)) (M1 : Hid (∀ w, Calls Tryd.prog 78 #[.int .u64 a, .int .u64 x] w fun e w' => e = .returned (.tuple #[.int .u64 (h : Int), .int .u64 (l : Int)]) ∧ w = w')) (M2 : Hid (∀ w, Calls Tryd.prog 78 #[.int .u64 b, .int .u64 y] w fun e w' => e = .returned (.tuple #[.int .u64 (i : Int), .int .u64 (m : Int)]) ∧ w = w')) (s1 : decide (an < 0) = one) (s2 : decide (bn < 0) = sb) (s3 : (!(sb == less)) = two) (bh : h < 18446744073709551616) (bl : l < 18446744073709551616) (bi : i < 18446744073709551616) (bm : m < 18446744073709551616) (e1 : (one == two) = false) (bc : c ≤ 1) (A1 : Hid (∀ w, (callFunc 81 #[.int .u64 m, .int .u64 l, .int .u64 0]).run Tryd.prog w = .ok (.value (.tuple #[.int .u64 (sl : Int), .int .u64 (c : Int)])) w)) (A2 : Hid (∀ w, (callFunc 81 #[.int .u64 i, .int .u64 h, .int .u64 c]).run Tryd.prog w = .ok (.value (.tuple #[.int .u64 (sh : Int), .int .u64 (c2 : Int)])) w)) (o1 : decide (h < i) = true) (bsh : sh < 18446744073709551616) (bsl : sl < 18446744073709551616) (z1 : ((sh : Int) == 0) = false) (D1 : Hid (∀ w, Calls Tryd.prog 82 #[.int .u64 p, .int .u64 sl, .int .u64 g] w fun e w' => e = .returned (.tuple #[.int .u64 (q0 : Int), .int .u64 (rest : Int)]) ∧ ∃ n, w' = w.drewN n)) (G2 : Hid (∀ w, Calls Tryd.prog 69 #[.int .u64 g, .int .u64 rest] w fun e w' => e = .returned (.int .u64 (k : Int)) ∧ ∃ n, w' = w.drewN n)) (n2 : ¬ k = 0) (D2 : Hid (∀ w, Calls Tryd.prog 82 #[.int .u64 r2, .int .u64 sl, .int .u64 k] w fun e w' => e = .returned (.tuple #[.int .u64 (low : Int), .int .u64 (q1 : Int)]) ∧ ∃ n, w' = w.drewN n)) (wb : IntKind.u64.wrap ((bd : Int) / (k : Int)) = (bk : Int)) (M3 : Hid (∀ w, Calls Tryd.prog 78 #[.int .u64 y, .int .u64 bk] w fun e w' => e = .returned (.tuple #[.int .u64 (hd : Int), .int .u64 (ld : Int)]) ∧ w = w')) (F1 : Hid (∀ w, Calls Tryd.prog 79 #[.bool two, .int .u64 top, .int .u64 low, .int .u64 hd, .int .u64 ld] w fun e w' => e = .returned (.tuple #[.agg #[.int .i64 u, .int .i64 v], er]) ∧ Below w.heap.size w w')) (wp : (sh : Int) % (g : Int) = (p : Int)) (wt : IntKind.u64.wrap ((sh : Int) / (k : Int)) = (top : Int)) (wr : (sh : Int) % (k : Int) = (r2 : Int)) :
    Calls Tryd.prog 54 #[.agg #[.int .i64 an, .int .i64 ad], .agg #[.int .i64 bn, .int .i64 bd], .bool less] w fun e w' => e = .returned (.tuple #[.agg #[.int .i64 u, .int .i64 v], er]) ∧ Below w.heap.size w w' := by
  have E1 := wrapN ad (by omega)
  have E2 := wrapN bd (by omega)
  skip
  go_enter Tryd.func54, Tryd.ntmps54
  go_wp2_with (go_at_call 39; first
    | (refine (right_any _ _ _ (by omega) (by omega) (by omega)).mono ?_; rintro e w1 ⟨he, hb_w1⟩; rw [HA.out] at he; clear HA; subst he; obtain ⟨hc_w1, hf_w1⟩ := bcell hb_w1; have hz_w1 := hb_w1.size; (try simp at hz_w1); have hB_w1 : Below w.heap.size w w1 := Below.trans (by repeat' (first | (with_reducible assumption) | (with_reducible refine Below.setCell ?_ ?_ _) | (with_reducible refine Below.alloc ?_ ?_ _) | (with_reducible refine Below.drew ?_) | (with_reducible refine below_drewN ?_ _) | (with_reducible exact Below.refl _ _) | (show _ ≤ _; (try simp); (try omega); done) | exact Below.refl _ _ | assumption)) (hb_w1.mono (by (try simp); (try omega))); have z_w1_0 : w.heap.size < w1.heap.size := (by omega); have z_w1_1 : w.heap.size + 1 < w1.heap.size := (by omega); have z_w1_2 : w.heap.size + 2 < w1.heap.size := (by omega))
    | (refine (right_any _ _ _ (by omega) (by omega) (by omega)).mono ?_; rintro e w2 ⟨he, hb_w2⟩; rw [HB.out] at he; clear HB; subst he; obtain ⟨hc_w2, hf_w2⟩ := bcell hb_w2; have hz_w2 := hb_w2.size; (try simp at hz_w2); have hB_w2 : Below w.heap.size w w2 := Below.trans (by repeat' (first | (with_reducible assumption) | (with_reducible refine Below.setCell ?_ ?_ _) | (with_reducible refine Below.alloc ?_ ?_ _) | (with_reducible refine Below.drew ?_) | (with_reducible refine below_drewN ?_ _) | (with_reducible exact Below.refl _ _) | (show _ ≤ _; (try simp); (try omega); done) | exact Below.refl _ _ | assumption)) (hb_w2.mono (by (try simp); (try omega))); have z_w2_0 : w.heap.size < w2.heap.size := (by omega); have z_w2_1 : w.heap.size + 1 < w2.heap.size := (by omega); have z_w2_2 : w.heap.size + 2 < w2.heap.size := (by omega))
    | fail)
  have c0 : w2.cell? ⟨w.heap.size, 0, none⟩ = some (.int .i64 an) := by go_simp
  have c1 : w2.cell? ⟨w.heap.size, 1, none⟩ = some (.int .i64 ad) := by go_simp
  have c2' : w2.cell? ⟨w.heap.size + 1, 0, none⟩ = some (.int .i64 bn) := by go_simp
  have c3 : w2.cell? ⟨w.heap.size + 1, 1, none⟩ = some (.int .i64 bd) := by go_simp
  have c4 : w2.cell? ⟨w.heap.size + 2, 0, none⟩ = some (.int .i64 0) := by go_simp
  have c5 : w2.cell? ⟨w.heap.size + 2, 1, none⟩ = some (.int .i64 0) := by go_simp
  have f4 : w2.frozen? ⟨w.heap.size + 2, 0, none⟩ = false := by go_simp
  have f5 : w2.frozen? ⟨w.heap.size + 2, 1, none⟩ = false := by go_simp
  clear hc_w2 hf_w2 hc_w1 hf_w1 hb_w1 hb_w2 hz_w1 hz_w2
  have HB2 := Lib.hid hB_w2; clear hB_w2 hB_w1
  clear z_w2_1 z_w2_0 z_w1_0 z_w1_1 z_w1_2
  go_wp2_with (go_at_call 69; refine (gcd_g _ _ _ (by omega) (by omega) (by exact HG.out) _).mono ?_; rintro e w3 ⟨rfl, n, rfl⟩)
  go_quiet (fail)
  go_wp2_with (first
    | (go_at_call 53; refine (size_v _ _ _ (by omega) (by omega) (by first | exact SA.out | exact SB.out)).mono ?_; rintro e w' ⟨rfl, rfl⟩)
    | (go_at_call 78; ((first | (with_reducible refine (M1.out _).mono ?_) | (with_reducible refine (M2.out _).mono ?_)); rintro e w' ⟨rfl, rfl⟩)))
  go_quiet (fail)
  go_wp2_with (first
    | simp only [A1.out] | simp only [A2.out]
    | (go_at_call 82; ((first | (with_reducible refine (D1.out _).mono ?_) | (with_reducible refine (D2.out _).mono ?_)); rintro e w' ⟨rfl, n', rfl⟩))
    | (go_at_call 69; refine (G2.out _).mono ?_; rintro e w' ⟨rfl, n', rfl⟩)
    | (go_at_call 78; refine (M3.out _).mono ?_; rintro e w' ⟨rfl, rfl⟩))
  go_quiet (fail)
  go_wp2_with (first
    | (go_at_call 82; ((first | (with_reducible refine (D1.out _).mono ?_) | (with_reducible refine (D2.out _).mono ?_)); rintro e w' ⟨rfl, n', rfl⟩))
    | (go_at_call 78; refine (M3.out _).mono ?_; rintro e w' ⟨rfl, rfl⟩)
    | (go_at_call 79; refine (F1.out _).mono ?_; rintro e w3 ⟨rfl, hb_w3⟩
       have hc : ∀ o, w3.cell? ⟨w.heap.size + 2, o, none⟩ = w2.cell? ⟨w.heap.size + 2, o, none⟩ := fun o => hb_w3.cell (p := ⟨w.heap.size + 2, o, none⟩) z_w2_2
       have hf : ∀ o, w3.frozen? ⟨w.heap.size + 2, o, none⟩ = w2.frozen? ⟨w.heap.size + 2, o, none⟩ := fun o => hb_w3.frozen (p := ⟨w.heap.size + 2, o, none⟩) z_w2_2
       have d4 := (hc 0).trans c4
       have d5 := (hc 1).trans c5
       have g4 := (hf 0).trans f4
       have g5 := (hf 1).trans f5
       have H3 : Hid (Below w.heap.size w w3) := Lib.hid (HB2.out.trans ((show Below w2.heap.size w2 w3 from ⟨hb_w3.os, hb_w3.tape, hb_w3.output, hb_w3.size, hb_w3.block⟩).mono (by omega)))
       clear hc hf hb_w3))
  have hB := H3.out
  refine bodyPost_ret (v := .tuple #[.agg #[.int .i64 u, .int .i64 v], er]) (by simp [results, Tryd.results54, go_sem, d4, d5]) rfl ?_
  exact ⟨rfl, (by repeat' (first | (with_reducible assumption) | (with_reducible refine Below.setCell ?_ ?_ _) | (with_reducible refine Below.alloc ?_ ?_ _) | (with_reducible refine Below.drew ?_) | (with_reducible refine below_drewN ?_ _) | (with_reducible exact Below.refl _ _) | (show _ ≤ _; (try simp); (try omega); done) | exact Below.refl _ _ | assumption))⟩
set_option maxRecDepth 100000 in
set_option maxHeartbeats 4000000 in
theorem sum_c2al (an bn : Int) (ad bd a b g x y h l i m c c2 sh sl p q0 rest k r2 low q1 bk hd ld top : Nat) (u v : Int) (er : Value) (less one sb two : Bool) (w : World) (h1 : -9223372036854775808 ≤ an) (h2 : an < 9223372036854775808) (h3 : ad < 9223372036854775808) (h4 : -9223372036854775808 ≤ bn) (h5 : bn < 9223372036854775808) (h6 : bd < 9223372036854775808)
    (HA : Hid (rightB an ad = true)) (HB : Hid (rightB bn bd = true)) (SA : Hid (a = an.natAbs)) (SB : Hid (b = bn.natAbs)) (HG : Hid (g = Nat.gcd ad bd)) (n1 : ¬ g = 0) (wx : IntKind.u64.wrap ((bd : Int) / (g : Int)) = (x : Int)) (wy : IntKind.u64.wrap ((ad : Int) / (g : Int)) = (y : Int)) (M1 : Hid (∀ w, Calls Tryd.prog 78 #[.int .u64 a, .int .u64 x] w fun e w' => e = .returned (.tuple #[.int .u64 (h : Int), .int .u64 (l : Int)]) ∧ w = w')) (M2 : Hid (∀ w, Calls Tryd.prog 78 #[.int .u64 b, .int .u64 y] w fun e w' => e = .returned (.tuple #[.int .u64 (i : Int), .int .u64 (m : Int)]) ∧ w = w')) (s1 : decide (an < 0) = one) (s2 : decide (bn < 0) = sb) (s3 : (!(sb == less)) = two) (bh : h < 18446744073709551616) (bl : l < 18446744073709551616) (bi : i < 18446744073709551616) (bm : m < 18446744073709551616) (e1 : (one == two) = false) (bc : c ≤ 1) (A1 : Hid (∀ w, (callFunc 81 #[.int .u64 m, .int .u64 l, .int .u64 0]).run Tryd.prog w = .ok (.value (.tuple #[.int .u64 (sl : Int), .int .u64 (c : Int)])) w)) (A2 : Hid (∀ w, (callFunc 81 #[.int .u64 i, .int .u64 h, .int .u64 c]).run Tryd.prog w = .ok (.value (.tuple #[.int .u64 (sh : Int), .int .u64 (c2 : Int)])) w)) (o1 : decide (h < i) = true) (bsh : sh < 18446744073709551616) (bsl : sl < 18446744073709551616) (z1 : sh = 0) (z2 : ((sl : Int) == 0) = false) (D1 : Hid (∀ w, Calls Tryd.prog 82 #[.int .u64 0, .int .u64 sl, .int .u64 g] w fun e w' => e = .returned (.tuple #[.int .u64 (q0 : Int), .int .u64 (rest : Int)]) ∧ ∃ n, w' = w.drewN n)) (G2 : Hid (∀ w, Calls Tryd.prog 69 #[.int .u64 g, .int .u64 rest] w fun e w' => e = .returned (.int .u64 (k : Int)) ∧ ∃ n, w' = w.drewN n)) (n2 : ¬ k = 0) (D2 : Hid (∀ w, Calls Tryd.prog 82 #[.int .u64 0, .int .u64 sl, .int .u64 k] w fun e w' => e = .returned (.tuple #[.int .u64 (low : Int), .int .u64 (q1 : Int)]) ∧ ∃ n, w' = w.drewN n)) (wb : IntKind.u64.wrap ((bd : Int) / (k : Int)) = (bk : Int)) (M3 : Hid (∀ w, Calls Tryd.prog 78 #[.int .u64 y, .int .u64 bk] w fun e w' => e = .returned (.tuple #[.int .u64 (hd : Int), .int .u64 (ld : Int)]) ∧ w = w')) (F1 : Hid (∀ w, Calls Tryd.prog 79 #[.bool two, .int .u64 0, .int .u64 low, .int .u64 hd, .int .u64 ld] w fun e w' => e = .returned (.tuple #[.agg #[.int .i64 u, .int .i64 v], er]) ∧ Below w.heap.size w w')) :
    Calls Tryd.prog 54 #[.agg #[.int .i64 an, .int .i64 ad], .agg #[.int .i64 bn, .int .i64 bd], .bool less] w fun e w' => e = .returned (.tuple #[.agg #[.int .i64 u, .int .i64 v], er]) ∧ Below w.heap.size w w' := by
  subst z1
  have E1 := wrapN ad (by omega)
  have E2 := wrapN bd (by omega)
  skip
  go_enter Tryd.func54, Tryd.ntmps54
  go_wp2_with (go_at_call 39; first
    | (refine (right_any _ _ _ (by omega) (by omega) (by omega)).mono ?_; rintro e w1 ⟨he, hb_w1⟩; rw [HA.out] at he; clear HA; subst he; obtain ⟨hc_w1, hf_w1⟩ := bcell hb_w1; have hz_w1 := hb_w1.size; (try simp at hz_w1); have hB_w1 : Below w.heap.size w w1 := Below.trans (by repeat' (first | (with_reducible assumption) | (with_reducible refine Below.setCell ?_ ?_ _) | (with_reducible refine Below.alloc ?_ ?_ _) | (with_reducible refine Below.drew ?_) | (with_reducible refine below_drewN ?_ _) | (with_reducible exact Below.refl _ _) | (show _ ≤ _; (try simp); (try omega); done) | exact Below.refl _ _ | assumption)) (hb_w1.mono (by (try simp); (try omega))); have z_w1_0 : w.heap.size < w1.heap.size := (by omega); have z_w1_1 : w.heap.size + 1 < w1.heap.size := (by omega); have z_w1_2 : w.heap.size + 2 < w1.heap.size := (by omega))
    | (refine (right_any _ _ _ (by omega) (by omega) (by omega)).mono ?_; rintro e w2 ⟨he, hb_w2⟩; rw [HB.out] at he; clear HB; subst he; obtain ⟨hc_w2, hf_w2⟩ := bcell hb_w2; have hz_w2 := hb_w2.size; (try simp at hz_w2); have hB_w2 : Below w.heap.size w w2 := Below.trans (by repeat' (first | (with_reducible assumption) | (with_reducible refine Below.setCell ?_ ?_ _) | (with_reducible refine Below.alloc ?_ ?_ _) | (with_reducible refine Below.drew ?_) | (with_reducible refine below_drewN ?_ _) | (with_reducible exact Below.refl _ _) | (show _ ≤ _; (try simp); (try omega); done) | exact Below.refl _ _ | assumption)) (hb_w2.mono (by (try simp); (try omega))); have z_w2_0 : w.heap.size < w2.heap.size := (by omega); have z_w2_1 : w.heap.size + 1 < w2.heap.size := (by omega); have z_w2_2 : w.heap.size + 2 < w2.heap.size := (by omega))
    | fail)
  have c0 : w2.cell? ⟨w.heap.size, 0, none⟩ = some (.int .i64 an) := by go_simp
  have c1 : w2.cell? ⟨w.heap.size, 1, none⟩ = some (.int .i64 ad) := by go_simp
  have c2' : w2.cell? ⟨w.heap.size + 1, 0, none⟩ = some (.int .i64 bn) := by go_simp
  have c3 : w2.cell? ⟨w.heap.size + 1, 1, none⟩ = some (.int .i64 bd) := by go_simp
  have c4 : w2.cell? ⟨w.heap.size + 2, 0, none⟩ = some (.int .i64 0) := by go_simp
  have c5 : w2.cell? ⟨w.heap.size + 2, 1, none⟩ = some (.int .i64 0) := by go_simp
  have f4 : w2.frozen? ⟨w.heap.size + 2, 0, none⟩ = false := by go_simp
  have f5 : w2.frozen? ⟨w.heap.size + 2, 1, none⟩ = false := by go_simp
  clear hc_w2 hf_w2 hc_w1 hf_w1 hb_w1 hb_w2 hz_w1 hz_w2
  have HB2 := Lib.hid hB_w2; clear hB_w2 hB_w1
  clear z_w2_1 z_w2_0 z_w1_0 z_w1_1 z_w1_2
  go_wp2_with (go_at_call 69; refine (gcd_g _ _ _ (by omega) (by omega) (by exact HG.out) _).mono ?_; rintro e w3 ⟨rfl, n, rfl⟩)
  go_quiet (fail)
  go_wp2_with (first
    | (go_at_call 53; refine (size_v _ _ _ (by omega) (by omega) (by first | exact SA.out | exact SB.out)).mono ?_; rintro e w' ⟨rfl, rfl⟩)
    | (go_at_call 78; ((first | (with_reducible refine (M1.out _).mono ?_) | (with_reducible refine (M2.out _).mono ?_)); rintro e w' ⟨rfl, rfl⟩)))
  go_quiet (fail)
  go_wp2_with (first
    | simp only [A1.out] | simp only [A2.out]
    | (go_at_call 82; ((first | (with_reducible refine (D1.out _).mono ?_) | (with_reducible refine (D2.out _).mono ?_)); rintro e w' ⟨rfl, n', rfl⟩))
    | (go_at_call 69; refine (G2.out _).mono ?_; rintro e w' ⟨rfl, n', rfl⟩)
    | (go_at_call 78; refine (M3.out _).mono ?_; rintro e w' ⟨rfl, rfl⟩))
  go_quiet (fail)
  go_wp2_with (first
    | (go_at_call 82; ((first | (with_reducible refine (D1.out _).mono ?_) | (with_reducible refine (D2.out _).mono ?_)); rintro e w' ⟨rfl, n', rfl⟩))
    | (go_at_call 78; refine (M3.out _).mono ?_; rintro e w' ⟨rfl, rfl⟩)
    | (go_at_call 79; refine (F1.out _).mono ?_; rintro e w3 ⟨rfl, hb_w3⟩
       have hc : ∀ o, w3.cell? ⟨w.heap.size + 2, o, none⟩ = w2.cell? ⟨w.heap.size + 2, o, none⟩ := fun o => hb_w3.cell (p := ⟨w.heap.size + 2, o, none⟩) z_w2_2
       have hf : ∀ o, w3.frozen? ⟨w.heap.size + 2, o, none⟩ = w2.frozen? ⟨w.heap.size + 2, o, none⟩ := fun o => hb_w3.frozen (p := ⟨w.heap.size + 2, o, none⟩) z_w2_2
       have d4 := (hc 0).trans c4
       have d5 := (hc 1).trans c5
       have g4 := (hf 0).trans f4
       have g5 := (hf 1).trans f5
       have H3 : Hid (Below w.heap.size w w3) := Lib.hid (HB2.out.trans ((show Below w2.heap.size w2 w3 from ⟨hb_w3.os, hb_w3.tape, hb_w3.output, hb_w3.size, hb_w3.block⟩).mono (by omega)))
       clear hc hf hb_w3))
  have hB := H3.out
  refine bodyPost_ret (v := .tuple #[.agg #[.int .i64 u, .int .i64 v], er]) (by simp [results, Tryd.results54, go_sem, d4, d5]) rfl ?_
  exact ⟨rfl, (by repeat' (first | (with_reducible assumption) | (with_reducible refine Below.setCell ?_ ?_ _) | (with_reducible refine Below.alloc ?_ ?_ _) | (with_reducible refine Below.drew ?_) | (with_reducible refine below_drewN ?_ _) | (with_reducible exact Below.refl _ _) | (show _ ≤ _; (try simp); (try omega); done) | exact Below.refl _ _ | assumption))⟩
set_option maxRecDepth 100000 in
set_option maxHeartbeats 4000000 in
theorem sum_c2bl (an bn : Int) (ad bd a b g x y h l i m c c2 sh sl p q0 rest k r2 low q1 bk hd ld top : Nat) (u v : Int) (er : Value) (less one sb two : Bool) (w : World) (h1 : -9223372036854775808 ≤ an) (h2 : an < 9223372036854775808) (h3 : ad < 9223372036854775808) (h4 : -9223372036854775808 ≤ bn) (h5 : bn < 9223372036854775808) (h6 : bd < 9223372036854775808)
    (HA : Hid (rightB an ad = true)) (HB : Hid (rightB bn bd = true)) (SA : Hid (a = an.natAbs)) (SB : Hid (b = bn.natAbs)) (HG : Hid (g = Nat.gcd ad bd)) (n1 : ¬ g = 0) (wx : IntKind.u64.wrap ((bd : Int) / (g : Int)) = (x : Int)) (wy : IntKind.u64.wrap ((ad : Int) / (g : Int)) = (y : Int)) (M1 : Hid (∀ w, Calls Tryd.prog 78 #[.int .u64 a, .int .u64 x] w fun e w' => e = .returned (.tuple #[.int .u64 (h : Int), .int .u64 (l : Int)]) ∧ w = w')) (M2 : Hid (∀ w, Calls Tryd.prog 78 #[.int .u64 b, .int .u64 y] w fun e w' => e = .returned (.tuple #[.int .u64 (i : Int), .int .u64 (m : Int)]) ∧ w = w')) (s1 : decide (an < 0) = one) (s2 : decide (bn < 0) = sb) (s3 : (!(sb == less)) = two) (bh : h < 18446744073709551616) (bl : l < 18446744073709551616) (bi : i < 18446744073709551616) (bm : m < 18446744073709551616) (e1 : (one == two) = false) (bc : c ≤ 1) (A1 : Hid (∀ w, (callFunc 81 #[.int .u64 m, .int .u64 l, .int .u64 0]).run Tryd.prog w = .ok (.value (.tuple #[.int .u64 (sl : Int), .int .u64 (c : Int)])) w)) (A2 : Hid (∀ w, (callFunc 81 #[.int .u64 i, .int .u64 h, .int .u64 c]).run Tryd.prog w = .ok (.value (.tuple #[.int .u64 (sh : Int), .int .u64 (c2 : Int)])) w)) (o1 : decide (h < i) = false) (o2 : ((h : Int) == (i : Int)) = true) (o2' : (h == i) = true) (o3 : decide (l < m) = true) (bsh : sh < 18446744073709551616) (bsl : sl < 18446744073709551616) (z1 : sh = 0) (z2 : ((sl : Int) == 0) = false) (D1 : Hid (∀ w, Calls Tryd.prog 82 #[.int .u64 0, .int .u64 sl, .int .u64 g] w fun e w' => e = .returned (.tuple #[.int .u64 (q0 : Int), .int .u64 (rest : Int)]) ∧ ∃ n, w' = w.drewN n)) (G2 : Hid (∀ w, Calls Tryd.prog 69 #[.int .u64 g, .int .u64 rest] w fun e w' => e = .returned (.int .u64 (k : Int)) ∧ ∃ n, w' = w.drewN n)) (n2 : ¬ k = 0) (D2 : Hid (∀ w, Calls Tryd.prog 82 #[.int .u64 0, .int .u64 sl, .int .u64 k] w fun e w' => e = .returned (.tuple #[.int .u64 (low : Int), .int .u64 (q1 : Int)]) ∧ ∃ n, w' = w.drewN n)) (wb : IntKind.u64.wrap ((bd : Int) / (k : Int)) = (bk : Int)) (M3 : Hid (∀ w, Calls Tryd.prog 78 #[.int .u64 y, .int .u64 bk] w fun e w' => e = .returned (.tuple #[.int .u64 (hd : Int), .int .u64 (ld : Int)]) ∧ w = w')) (F1 : Hid (∀ w, Calls Tryd.prog 79 #[.bool two, .int .u64 0, .int .u64 low, .int .u64 hd, .int .u64 ld] w fun e w' => e = .returned (.tuple #[.agg #[.int .i64 u, .int .i64 v], er]) ∧ Below w.heap.size w w')) :
    Calls Tryd.prog 54 #[.agg #[.int .i64 an, .int .i64 ad], .agg #[.int .i64 bn, .int .i64 bd], .bool less] w fun e w' => e = .returned (.tuple #[.agg #[.int .i64 u, .int .i64 v], er]) ∧ Below w.heap.size w w' := by
  subst z1
  have E1 := wrapN ad (by omega)
  have E2 := wrapN bd (by omega)
  skip
  go_enter Tryd.func54, Tryd.ntmps54
  go_wp2_with (go_at_call 39; first
    | (refine (right_any _ _ _ (by omega) (by omega) (by omega)).mono ?_; rintro e w1 ⟨he, hb_w1⟩; rw [HA.out] at he; clear HA; subst he; obtain ⟨hc_w1, hf_w1⟩ := bcell hb_w1; have hz_w1 := hb_w1.size; (try simp at hz_w1); have hB_w1 : Below w.heap.size w w1 := Below.trans (by repeat' (first | (with_reducible assumption) | (with_reducible refine Below.setCell ?_ ?_ _) | (with_reducible refine Below.alloc ?_ ?_ _) | (with_reducible refine Below.drew ?_) | (with_reducible refine below_drewN ?_ _) | (with_reducible exact Below.refl _ _) | (show _ ≤ _; (try simp); (try omega); done) | exact Below.refl _ _ | assumption)) (hb_w1.mono (by (try simp); (try omega))); have z_w1_0 : w.heap.size < w1.heap.size := (by omega); have z_w1_1 : w.heap.size + 1 < w1.heap.size := (by omega); have z_w1_2 : w.heap.size + 2 < w1.heap.size := (by omega))
    | (refine (right_any _ _ _ (by omega) (by omega) (by omega)).mono ?_; rintro e w2 ⟨he, hb_w2⟩; rw [HB.out] at he; clear HB; subst he; obtain ⟨hc_w2, hf_w2⟩ := bcell hb_w2; have hz_w2 := hb_w2.size; (try simp at hz_w2); have hB_w2 : Below w.heap.size w w2 := Below.trans (by repeat' (first | (with_reducible assumption) | (with_reducible refine Below.setCell ?_ ?_ _) | (with_reducible refine Below.alloc ?_ ?_ _) | (with_reducible refine Below.drew ?_) | (with_reducible refine below_drewN ?_ _) | (with_reducible exact Below.refl _ _) | (show _ ≤ _; (try simp); (try omega); done) | exact Below.refl _ _ | assumption)) (hb_w2.mono (by (try simp); (try omega))); have z_w2_0 : w.heap.size < w2.heap.size := (by omega); have z_w2_1 : w.heap.size + 1 < w2.heap.size := (by omega); have z_w2_2 : w.heap.size + 2 < w2.heap.size := (by omega))
    | fail)
  have c0 : w2.cell? ⟨w.heap.size, 0, none⟩ = some (.int .i64 an) := by go_simp
  have c1 : w2.cell? ⟨w.heap.size, 1, none⟩ = some (.int .i64 ad) := by go_simp
  have c2' : w2.cell? ⟨w.heap.size + 1, 0, none⟩ = some (.int .i64 bn) := by go_simp
  have c3 : w2.cell? ⟨w.heap.size + 1, 1, none⟩ = some (.int .i64 bd) := by go_simp
  have c4 : w2.cell? ⟨w.heap.size + 2, 0, none⟩ = some (.int .i64 0) := by go_simp
  have c5 : w2.cell? ⟨w.heap.size + 2, 1, none⟩ = some (.int .i64 0) := by go_simp
  have f4 : w2.frozen? ⟨w.heap.size + 2, 0, none⟩ = false := by go_simp
  have f5 : w2.frozen? ⟨w.heap.size + 2, 1, none⟩ = false := by go_simp
  clear hc_w2 hf_w2 hc_w1 hf_w1 hb_w1 hb_w2 hz_w1 hz_w2
  have HB2 := Lib.hid hB_w2; clear hB_w2 hB_w1
  clear z_w2_1 z_w2_0 z_w1_0 z_w1_1 z_w1_2
  go_wp2_with (go_at_call 69; refine (gcd_g _ _ _ (by omega) (by omega) (by exact HG.out) _).mono ?_; rintro e w3 ⟨rfl, n, rfl⟩)
  go_quiet (fail)
  go_wp2_with (first
    | (go_at_call 53; refine (size_v _ _ _ (by omega) (by omega) (by first | exact SA.out | exact SB.out)).mono ?_; rintro e w' ⟨rfl, rfl⟩)
    | (go_at_call 78; ((first | (with_reducible refine (M1.out _).mono ?_) | (with_reducible refine (M2.out _).mono ?_)); rintro e w' ⟨rfl, rfl⟩)))
  go_quiet (fail)
  go_wp2_with (first
    | simp only [A1.out] | simp only [A2.out]
    | (go_at_call 82; ((first | (with_reducible refine (D1.out _).mono ?_) | (with_reducible refine (D2.out _).mono ?_)); rintro e w' ⟨rfl, n', rfl⟩))
    | (go_at_call 69; refine (G2.out _).mono ?_; rintro e w' ⟨rfl, n', rfl⟩)
    | (go_at_call 78; refine (M3.out _).mono ?_; rintro e w' ⟨rfl, rfl⟩))
  go_quiet (fail)
  go_wp2_with (first
    | (go_at_call 82; ((first | (with_reducible refine (D1.out _).mono ?_) | (with_reducible refine (D2.out _).mono ?_)); rintro e w' ⟨rfl, n', rfl⟩))
    | (go_at_call 78; refine (M3.out _).mono ?_; rintro e w' ⟨rfl, rfl⟩)
    | (go_at_call 79; refine (F1.out _).mono ?_; rintro e w3 ⟨rfl, hb_w3⟩
       have hc : ∀ o, w3.cell? ⟨w.heap.size + 2, o, none⟩ = w2.cell? ⟨w.heap.size + 2, o, none⟩ := fun o => hb_w3.cell (p := ⟨w.heap.size + 2, o, none⟩) z_w2_2
       have hf : ∀ o, w3.frozen? ⟨w.heap.size + 2, o, none⟩ = w2.frozen? ⟨w.heap.size + 2, o, none⟩ := fun o => hb_w3.frozen (p := ⟨w.heap.size + 2, o, none⟩) z_w2_2
       have d4 := (hc 0).trans c4
       have d5 := (hc 1).trans c5
       have g4 := (hf 0).trans f4
       have g5 := (hf 1).trans f5
       have H3 : Hid (Below w.heap.size w w3) := Lib.hid (HB2.out.trans ((show Below w2.heap.size w2 w3 from ⟨hb_w3.os, hb_w3.tape, hb_w3.output, hb_w3.size, hb_w3.block⟩).mono (by omega)))
       clear hc hf hb_w3))
  have hB := H3.out
  refine bodyPost_ret (v := .tuple #[.agg #[.int .i64 u, .int .i64 v], er]) (by simp [results, Tryd.results54, go_sem, d4, d5]) rfl ?_
  exact ⟨rfl, (by repeat' (first | (with_reducible assumption) | (with_reducible refine Below.setCell ?_ ?_ _) | (with_reducible refine Below.alloc ?_ ?_ _) | (with_reducible refine Below.drew ?_) | (with_reducible refine below_drewN ?_ _) | (with_reducible exact Below.refl _ _) | (show _ ≤ _; (try simp); (try omega); done) | exact Below.refl _ _ | assumption))⟩
set_option maxRecDepth 100000 in
set_option maxHeartbeats 4000000 in
theorem sum_c3ah (an bn : Int) (ad bd a b g x y h l i m c c2 sh sl p q0 rest k r2 low q1 bk hd ld top : Nat) (u v : Int) (er : Value) (less one sb two : Bool) (w : World) (h1 : -9223372036854775808 ≤ an) (h2 : an < 9223372036854775808) (h3 : ad < 9223372036854775808) (h4 : -9223372036854775808 ≤ bn) (h5 : bn < 9223372036854775808) (h6 : bd < 9223372036854775808)
    (HA : Hid (rightB an ad = true)) (HB : Hid (rightB bn bd = true)) (SA : Hid (a = an.natAbs)) (SB : Hid (b = bn.natAbs)) (HG : Hid (g = Nat.gcd ad bd)) (n1 : ¬ g = 0) (wx : IntKind.u64.wrap ((bd : Int) / (g : Int)) = (x : Int)) (wy : IntKind.u64.wrap ((ad : Int) / (g : Int)) = (y : Int)) (M1 : Hid (∀ w, Calls Tryd.prog 78 #[.int .u64 a, .int .u64 x] w fun e w' => e = .returned (.tuple #[.int .u64 (h : Int), .int .u64 (l : Int)]) ∧ w = w')) (M2 : Hid (∀ w, Calls Tryd.prog 78 #[.int .u64 b, .int .u64 y] w fun e w' => e = .returned (.tuple #[.int .u64 (i : Int), .int .u64 (m : Int)]) ∧ w = w')) (s1 : decide (an < 0) = one) (s2 : decide (bn < 0) = sb) (s3 : (!(sb == less)) = two) (bh : h < 18446744073709551616) (bl : l < 18446744073709551616) (bi : i < 18446744073709551616) (bm : m < 18446744073709551616) (e1 : (one == two) = false) (bc : c ≤ 1) (A1 : Hid (∀ w, (callFunc 81 #[.int .u64 l, .int .u64 m, .int .u64 0]).run Tryd.prog w = .ok (.value (.tuple #[.int .u64 (sl : Int), .int .u64 (c : Int)])) w)) (A2 : Hid (∀ w, (callFunc 81 #[.int .u64 h, .int .u64 i, .int .u64 c]).run Tryd.prog w = .ok (.value (.tuple #[.int .u64 (sh : Int), .int .u64 (c2 : Int)])) w)) (o1 : decide (h < i) = false) (o2 : ((h : Int) == (i : Int)) = false) (o2' : (h == i) = false) (bsh : sh < 18446744073709551616) (bsl : sl < 18446744073709551616) (z1 : ((sh : Int) == 0) = false) (D1 : Hid (∀ w, Calls Tryd.prog 82 #[.int .u64 p, .int .u64 sl, .int .u64 g] w fun e w' => e = .returned (.tuple #[.int .u64 (q0 : Int), .int .u64 (rest : Int)]) ∧ ∃ n, w' = w.drewN n)) (G2 : Hid (∀ w, Calls Tryd.prog 69 #[.int .u64 g, .int .u64 rest] w fun e w' => e = .returned (.int .u64 (k : Int)) ∧ ∃ n, w' = w.drewN n)) (n2 : ¬ k = 0) (D2 : Hid (∀ w, Calls Tryd.prog 82 #[.int .u64 r2, .int .u64 sl, .int .u64 k] w fun e w' => e = .returned (.tuple #[.int .u64 (low : Int), .int .u64 (q1 : Int)]) ∧ ∃ n, w' = w.drewN n)) (wb : IntKind.u64.wrap ((bd : Int) / (k : Int)) = (bk : Int)) (M3 : Hid (∀ w, Calls Tryd.prog 78 #[.int .u64 y, .int .u64 bk] w fun e w' => e = .returned (.tuple #[.int .u64 (hd : Int), .int .u64 (ld : Int)]) ∧ w = w')) (F1 : Hid (∀ w, Calls Tryd.prog 79 #[.bool one, .int .u64 top, .int .u64 low, .int .u64 hd, .int .u64 ld] w fun e w' => e = .returned (.tuple #[.agg #[.int .i64 u, .int .i64 v], er]) ∧ Below w.heap.size w w')) (wp : (sh : Int) % (g : Int) = (p : Int)) (wt : IntKind.u64.wrap ((sh : Int) / (k : Int)) = (top : Int)) (wr : (sh : Int) % (k : Int) = (r2 : Int)) :
    Calls Tryd.prog 54 #[.agg #[.int .i64 an, .int .i64 ad], .agg #[.int .i64 bn, .int .i64 bd], .bool less] w fun e w' => e = .returned (.tuple #[.agg #[.int .i64 u, .int .i64 v], er]) ∧ Below w.heap.size w w' := by
  have E1 := wrapN ad (by omega)
  have E2 := wrapN bd (by omega)
  skip
  go_enter Tryd.func54, Tryd.ntmps54
  go_wp2_with (go_at_call 39; first
    | (refine (right_any _ _ _ (by omega) (by omega) (by omega)).mono ?_; rintro e w1 ⟨he, hb_w1⟩; rw [HA.out] at he; clear HA; subst he; obtain ⟨hc_w1, hf_w1⟩ := bcell hb_w1; have hz_w1 := hb_w1.size; (try simp at hz_w1); have hB_w1 : Below w.heap.size w w1 := Below.trans (by repeat' (first | (with_reducible assumption) | (with_reducible refine Below.setCell ?_ ?_ _) | (with_reducible refine Below.alloc ?_ ?_ _) | (with_reducible refine Below.drew ?_) | (with_reducible refine below_drewN ?_ _) | (with_reducible exact Below.refl _ _) | (show _ ≤ _; (try simp); (try omega); done) | exact Below.refl _ _ | assumption)) (hb_w1.mono (by (try simp); (try omega))); have z_w1_0 : w.heap.size < w1.heap.size := (by omega); have z_w1_1 : w.heap.size + 1 < w1.heap.size := (by omega); have z_w1_2 : w.heap.size + 2 < w1.heap.size := (by omega))
    | (refine (right_any _ _ _ (by omega) (by omega) (by omega)).mono ?_; rintro e w2 ⟨he, hb_w2⟩; rw [HB.out] at he; clear HB; subst he; obtain ⟨hc_w2, hf_w2⟩ := bcell hb_w2; have hz_w2 := hb_w2.size; (try simp at hz_w2); have hB_w2 : Below w.heap.size w w2 := Below.trans (by repeat' (first | (with_reducible assumption) | (with_reducible refine Below.setCell ?_ ?_ _) | (with_reducible refine Below.alloc ?_ ?_ _) | (with_reducible refine Below.drew ?_) | (with_reducible refine below_drewN ?_ _) | (with_reducible exact Below.refl _ _) | (show _ ≤ _; (try simp); (try omega); done) | exact Below.refl _ _ | assumption)) (hb_w2.mono (by (try simp); (try omega))); have z_w2_0 : w.heap.size < w2.heap.size := (by omega); have z_w2_1 : w.heap.size + 1 < w2.heap.size := (by omega); have z_w2_2 : w.heap.size + 2 < w2.heap.size := (by omega))
    | fail)
  have c0 : w2.cell? ⟨w.heap.size, 0, none⟩ = some (.int .i64 an) := by go_simp
  have c1 : w2.cell? ⟨w.heap.size, 1, none⟩ = some (.int .i64 ad) := by go_simp
  have c2' : w2.cell? ⟨w.heap.size + 1, 0, none⟩ = some (.int .i64 bn) := by go_simp
  have c3 : w2.cell? ⟨w.heap.size + 1, 1, none⟩ = some (.int .i64 bd) := by go_simp
  have c4 : w2.cell? ⟨w.heap.size + 2, 0, none⟩ = some (.int .i64 0) := by go_simp
  have c5 : w2.cell? ⟨w.heap.size + 2, 1, none⟩ = some (.int .i64 0) := by go_simp
  have f4 : w2.frozen? ⟨w.heap.size + 2, 0, none⟩ = false := by go_simp
  have f5 : w2.frozen? ⟨w.heap.size + 2, 1, none⟩ = false := by go_simp
  clear hc_w2 hf_w2 hc_w1 hf_w1 hb_w1 hb_w2 hz_w1 hz_w2
  have HB2 := Lib.hid hB_w2; clear hB_w2 hB_w1
  clear z_w2_1 z_w2_0 z_w1_0 z_w1_1 z_w1_2
  go_wp2_with (go_at_call 69; refine (gcd_g _ _ _ (by omega) (by omega) (by exact HG.out) _).mono ?_; rintro e w3 ⟨rfl, n, rfl⟩)
  go_quiet (fail)
  go_wp2_with (first
    | (go_at_call 53; refine (size_v _ _ _ (by omega) (by omega) (by first | exact SA.out | exact SB.out)).mono ?_; rintro e w' ⟨rfl, rfl⟩)
    | (go_at_call 78; ((first | (with_reducible refine (M1.out _).mono ?_) | (with_reducible refine (M2.out _).mono ?_)); rintro e w' ⟨rfl, rfl⟩)))
  go_quiet (fail)
  go_wp2_with (first
    | simp only [A1.out] | simp only [A2.out]
    | (go_at_call 82; ((first | (with_reducible refine (D1.out _).mono ?_) | (with_reducible refine (D2.out _).mono ?_)); rintro e w' ⟨rfl, n', rfl⟩))
    | (go_at_call 69; refine (G2.out _).mono ?_; rintro e w' ⟨rfl, n', rfl⟩)
    | (go_at_call 78; refine (M3.out _).mono ?_; rintro e w' ⟨rfl, rfl⟩))
  go_quiet (fail)
  go_wp2_with (first
    | (go_at_call 82; ((first | (with_reducible refine (D1.out _).mono ?_) | (with_reducible refine (D2.out _).mono ?_)); rintro e w' ⟨rfl, n', rfl⟩))
    | (go_at_call 78; refine (M3.out _).mono ?_; rintro e w' ⟨rfl, rfl⟩)
    | (go_at_call 79; refine (F1.out _).mono ?_; rintro e w3 ⟨rfl, hb_w3⟩
       have hc : ∀ o, w3.cell? ⟨w.heap.size + 2, o, none⟩ = w2.cell? ⟨w.heap.size + 2, o, none⟩ := fun o => hb_w3.cell (p := ⟨w.heap.size + 2, o, none⟩) z_w2_2
       have hf : ∀ o, w3.frozen? ⟨w.heap.size + 2, o, none⟩ = w2.frozen? ⟨w.heap.size + 2, o, none⟩ := fun o => hb_w3.frozen (p := ⟨w.heap.size + 2, o, none⟩) z_w2_2
       have d4 := (hc 0).trans c4
       have d5 := (hc 1).trans c5
       have g4 := (hf 0).trans f4
       have g5 := (hf 1).trans f5
       have H3 : Hid (Below w.heap.size w w3) := Lib.hid (HB2.out.trans ((show Below w2.heap.size w2 w3 from ⟨hb_w3.os, hb_w3.tape, hb_w3.output, hb_w3.size, hb_w3.block⟩).mono (by omega)))
       clear hc hf hb_w3))
  have hB := H3.out
  refine bodyPost_ret (v := .tuple #[.agg #[.int .i64 u, .int .i64 v], er]) (by simp [results, Tryd.results54, go_sem, d4, d5]) rfl ?_
  exact ⟨rfl, (by repeat' (first | (with_reducible assumption) | (with_reducible refine Below.setCell ?_ ?_ _) | (with_reducible refine Below.alloc ?_ ?_ _) | (with_reducible refine Below.drew ?_) | (with_reducible refine below_drewN ?_ _) | (with_reducible exact Below.refl _ _) | (show _ ≤ _; (try simp); (try omega); done) | exact Below.refl _ _ | assumption))⟩
set_option maxRecDepth 100000 in
set_option maxHeartbeats 4000000 in
theorem sum_c3al (an bn : Int) (ad bd a b g x y h l i m c c2 sh sl p q0 rest k r2 low q1 bk hd ld top : Nat) (u v : Int) (er : Value) (less one sb two : Bool) (w : World) (h1 : -9223372036854775808 ≤ an) (h2 : an < 9223372036854775808) (h3 : ad < 9223372036854775808) (h4 : -9223372036854775808 ≤ bn) (h5 : bn < 9223372036854775808) (h6 : bd < 9223372036854775808)
    (HA : Hid (rightB an ad = true)) (HB : Hid (rightB bn bd = true)) (SA : Hid (a = an.natAbs)) (SB : Hid (b = bn.natAbs)) (HG : Hid (g = Nat.gcd ad bd)) (n1 : ¬ g = 0) (wx : IntKind.u64.wrap ((bd : Int) / (g : Int)) = (x : Int)) (wy : IntKind.u64.wrap ((ad : Int) / (g : Int)) = (y : Int)) (M1 : Hid (∀ w, Calls Tryd.prog 78 #[.int .u64 a, .int .u64 x] w fun e w' => e = .returned (.tuple #[.int .u64 (h : Int), .int .u64 (l : Int)]) ∧ w = w')) (M2 : Hid (∀ w, Calls Tryd.prog 78 #[.int .u64 b, .int .u64 y] w fun e w' => e = .returned (.tuple #[.int .u64 (i : Int), .int .u64 (m : Int)]) ∧ w = w')) (s1 : decide (an < 0) = one) (s2 : decide (bn < 0) = sb) (s3 : (!(sb == less)) = two) (bh : h < 18446744073709551616) (bl : l < 18446744073709551616) (bi : i < 18446744073709551616) (bm : m < 18446744073709551616) (e1 : (one == two) = false) (bc : c ≤ 1) (A1 : Hid (∀ w, (callFunc 81 #[.int .u64 l, .int .u64 m, .int .u64 0]).run Tryd.prog w = .ok (.value (.tuple #[.int .u64 (sl : Int), .int .u64 (c : Int)])) w)) (A2 : Hid (∀ w, (callFunc 81 #[.int .u64 h, .int .u64 i, .int .u64 c]).run Tryd.prog w = .ok (.value (.tuple #[.int .u64 (sh : Int), .int .u64 (c2 : Int)])) w)) (o1 : decide (h < i) = false) (o2 : ((h : Int) == (i : Int)) = false) (o2' : (h == i) = false) (bsh : sh < 18446744073709551616) (bsl : sl < 18446744073709551616) (z1 : sh = 0) (z2 : ((sl : Int) == 0) = false) (D1 : Hid (∀ w, Calls Tryd.prog 82 #[.int .u64 0, .int .u64 sl, .int .u64 g] w fun e w' => e = .returned (.tuple #[.int .u64 (q0 : Int), .int .u64 (rest : Int)]) ∧ ∃ n, w' = w.drewN n)) (G2 : Hid (∀ w, Calls Tryd.prog 69 #[.int .u64 g, .int .u64 rest] w fun e w' => e = .returned (.int .u64 (k : Int)) ∧ ∃ n, w' = w.drewN n)) (n2 : ¬ k = 0) (D2 : Hid (∀ w, Calls Tryd.prog 82 #[.int .u64 0, .int .u64 sl, .int .u64 k] w fun e w' => e = .returned (.tuple #[.int .u64 (low : Int), .int .u64 (q1 : Int)]) ∧ ∃ n, w' = w.drewN n)) (wb : IntKind.u64.wrap ((bd : Int) / (k : Int)) = (bk : Int)) (M3 : Hid (∀ w, Calls Tryd.prog 78 #[.int .u64 y, .int .u64 bk] w fun e w' => e = .returned (.tuple #[.int .u64 (hd : Int), .int .u64 (ld : Int)]) ∧ w = w')) (F1 : Hid (∀ w, Calls Tryd.prog 79 #[.bool one, .int .u64 0, .int .u64 low, .int .u64 hd, .int .u64 ld] w fun e w' => e = .returned (.tuple #[.agg #[.int .i64 u, .int .i64 v], er]) ∧ Below w.heap.size w w')) :
    Calls Tryd.prog 54 #[.agg #[.int .i64 an, .int .i64 ad], .agg #[.int .i64 bn, .int .i64 bd], .bool less] w fun e w' => e = .returned (.tuple #[.agg #[.int .i64 u, .int .i64 v], er]) ∧ Below w.heap.size w w' := by
  subst z1
  have E1 := wrapN ad (by omega)
  have E2 := wrapN bd (by omega)
  skip
  go_enter Tryd.func54, Tryd.ntmps54
  go_wp2_with (go_at_call 39; first
    | (refine (right_any _ _ _ (by omega) (by omega) (by omega)).mono ?_; rintro e w1 ⟨he, hb_w1⟩; rw [HA.out] at he; clear HA; subst he; obtain ⟨hc_w1, hf_w1⟩ := bcell hb_w1; have hz_w1 := hb_w1.size; (try simp at hz_w1); have hB_w1 : Below w.heap.size w w1 := Below.trans (by repeat' (first | (with_reducible assumption) | (with_reducible refine Below.setCell ?_ ?_ _) | (with_reducible refine Below.alloc ?_ ?_ _) | (with_reducible refine Below.drew ?_) | (with_reducible refine below_drewN ?_ _) | (with_reducible exact Below.refl _ _) | (show _ ≤ _; (try simp); (try omega); done) | exact Below.refl _ _ | assumption)) (hb_w1.mono (by (try simp); (try omega))); have z_w1_0 : w.heap.size < w1.heap.size := (by omega); have z_w1_1 : w.heap.size + 1 < w1.heap.size := (by omega); have z_w1_2 : w.heap.size + 2 < w1.heap.size := (by omega))
    | (refine (right_any _ _ _ (by omega) (by omega) (by omega)).mono ?_; rintro e w2 ⟨he, hb_w2⟩; rw [HB.out] at he; clear HB; subst he; obtain ⟨hc_w2, hf_w2⟩ := bcell hb_w2; have hz_w2 := hb_w2.size; (try simp at hz_w2); have hB_w2 : Below w.heap.size w w2 := Below.trans (by repeat' (first | (with_reducible assumption) | (with_reducible refine Below.setCell ?_ ?_ _) | (with_reducible refine Below.alloc ?_ ?_ _) | (with_reducible refine Below.drew ?_) | (with_reducible refine below_drewN ?_ _) | (with_reducible exact Below.refl _ _) | (show _ ≤ _; (try simp); (try omega); done) | exact Below.refl _ _ | assumption)) (hb_w2.mono (by (try simp); (try omega))); have z_w2_0 : w.heap.size < w2.heap.size := (by omega); have z_w2_1 : w.heap.size + 1 < w2.heap.size := (by omega); have z_w2_2 : w.heap.size + 2 < w2.heap.size := (by omega))
    | fail)
  have c0 : w2.cell? ⟨w.heap.size, 0, none⟩ = some (.int .i64 an) := by go_simp
  have c1 : w2.cell? ⟨w.heap.size, 1, none⟩ = some (.int .i64 ad) := by go_simp
  have c2' : w2.cell? ⟨w.heap.size + 1, 0, none⟩ = some (.int .i64 bn) := by go_simp
  have c3 : w2.cell? ⟨w.heap.size + 1, 1, none⟩ = some (.int .i64 bd) := by go_simp
  have c4 : w2.cell? ⟨w.heap.size + 2, 0, none⟩ = some (.int .i64 0) := by go_simp
  have c5 : w2.cell? ⟨w.heap.size + 2, 1, none⟩ = some (.int .i64 0) := by go_simp
  have f4 : w2.frozen? ⟨w.heap.size + 2, 0, none⟩ = false := by go_simp
  have f5 : w2.frozen? ⟨w.heap.size + 2, 1, none⟩ = false := by go_simp
  clear hc_w2 hf_w2 hc_w1 hf_w1 hb_w1 hb_w2 hz_w1 hz_w2
  have HB2 := Lib.hid hB_w2; clear hB_w2 hB_w1
  clear z_w2_1 z_w2_0 z_w1_0 z_w1_1 z_w1_2
  go_wp2_with (go_at_call 69; refine (gcd_g _ _ _ (by omega) (by omega) (by exact HG.out) _).mono ?_; rintro e w3 ⟨rfl, n, rfl⟩)
  go_quiet (fail)
  go_wp2_with (first
    | (go_at_call 53; refine (size_v _ _ _ (by omega) (by omega) (by first | exact SA.out | exact SB.out)).mono ?_; rintro e w' ⟨rfl, rfl⟩)
    | (go_at_call 78; ((first | (with_reducible refine (M1.out _).mono ?_) | (with_reducible refine (M2.out _).mono ?_)); rintro e w' ⟨rfl, rfl⟩)))
  go_quiet (fail)
  go_wp2_with (first
    | simp only [A1.out] | simp only [A2.out]
    | (go_at_call 82; ((first | (with_reducible refine (D1.out _).mono ?_) | (with_reducible refine (D2.out _).mono ?_)); rintro e w' ⟨rfl, n', rfl⟩))
    | (go_at_call 69; refine (G2.out _).mono ?_; rintro e w' ⟨rfl, n', rfl⟩)
    | (go_at_call 78; refine (M3.out _).mono ?_; rintro e w' ⟨rfl, rfl⟩))
  go_quiet (fail)
  go_wp2_with (first
    | (go_at_call 82; ((first | (with_reducible refine (D1.out _).mono ?_) | (with_reducible refine (D2.out _).mono ?_)); rintro e w' ⟨rfl, n', rfl⟩))
    | (go_at_call 78; refine (M3.out _).mono ?_; rintro e w' ⟨rfl, rfl⟩)
    | (go_at_call 79; refine (F1.out _).mono ?_; rintro e w3 ⟨rfl, hb_w3⟩
       have hc : ∀ o, w3.cell? ⟨w.heap.size + 2, o, none⟩ = w2.cell? ⟨w.heap.size + 2, o, none⟩ := fun o => hb_w3.cell (p := ⟨w.heap.size + 2, o, none⟩) z_w2_2
       have hf : ∀ o, w3.frozen? ⟨w.heap.size + 2, o, none⟩ = w2.frozen? ⟨w.heap.size + 2, o, none⟩ := fun o => hb_w3.frozen (p := ⟨w.heap.size + 2, o, none⟩) z_w2_2
       have d4 := (hc 0).trans c4
       have d5 := (hc 1).trans c5
       have g4 := (hf 0).trans f4
       have g5 := (hf 1).trans f5
       have H3 : Hid (Below w.heap.size w w3) := Lib.hid (HB2.out.trans ((show Below w2.heap.size w2 w3 from ⟨hb_w3.os, hb_w3.tape, hb_w3.output, hb_w3.size, hb_w3.block⟩).mono (by omega)))
       clear hc hf hb_w3))
  have hB := H3.out
  refine bodyPost_ret (v := .tuple #[.agg #[.int .i64 u, .int .i64 v], er]) (by simp [results, Tryd.results54, go_sem, d4, d5]) rfl ?_
  exact ⟨rfl, (by repeat' (first | (with_reducible assumption) | (with_reducible refine Below.setCell ?_ ?_ _) | (with_reducible refine Below.alloc ?_ ?_ _) | (with_reducible refine Below.drew ?_) | (with_reducible refine below_drewN ?_ _) | (with_reducible exact Below.refl _ _) | (show _ ≤ _; (try simp); (try omega); done) | exact Below.refl _ _ | assumption))⟩
set_option maxRecDepth 100000 in
set_option maxHeartbeats 4000000 in
theorem sum_c3bz (an bn : Int) (ad bd a b g x y h l i m c c2 sh sl p q0 rest k r2 low q1 bk hd ld top : Nat) (u v : Int) (er : Value) (less one sb two : Bool) (w : World) (h1 : -9223372036854775808 ≤ an) (h2 : an < 9223372036854775808) (h3 : ad < 9223372036854775808) (h4 : -9223372036854775808 ≤ bn) (h5 : bn < 9223372036854775808) (h6 : bd < 9223372036854775808)
    (HA : Hid (rightB an ad = true)) (HB : Hid (rightB bn bd = true)) (SA : Hid (a = an.natAbs)) (SB : Hid (b = bn.natAbs)) (HG : Hid (g = Nat.gcd ad bd)) (n1 : ¬ g = 0) (wx : IntKind.u64.wrap ((bd : Int) / (g : Int)) = (x : Int)) (wy : IntKind.u64.wrap ((ad : Int) / (g : Int)) = (y : Int)) (M1 : Hid (∀ w, Calls Tryd.prog 78 #[.int .u64 a, .int .u64 x] w fun e w' => e = .returned (.tuple #[.int .u64 (h : Int), .int .u64 (l : Int)]) ∧ w = w')) (M2 : Hid (∀ w, Calls Tryd.prog 78 #[.int .u64 b, .int .u64 y] w fun e w' => e = .returned (.tuple #[.int .u64 (i : Int), .int .u64 (m : Int)]) ∧ w = w')) (s1 : decide (an < 0) = one) (s2 : decide (bn < 0) = sb) (s3 : (!(sb == less)) = two) (bh : h < 18446744073709551616) (bl : l < 18446744073709551616) (bi : i < 18446744073709551616) (bm : m < 18446744073709551616) (e1 : (one == two) = false) (bc : c ≤ 1) (A1 : Hid (∀ w, (callFunc 81 #[.int .u64 l, .int .u64 m, .int .u64 0]).run Tryd.prog w = .ok (.value (.tuple #[.int .u64 (sl : Int), .int .u64 (c : Int)])) w)) (A2 : Hid (∀ w, (callFunc 81 #[.int .u64 h, .int .u64 i, .int .u64 c]).run Tryd.prog w = .ok (.value (.tuple #[.int .u64 (sh : Int), .int .u64 (c2 : Int)])) w)) (o1 : decide (h < i) = false) (o2 : ((h : Int) == (i : Int)) = true) (o2' : (h == i) = true) (o3 : decide (l < m) = false) (bsh : sh < 18446744073709551616) (bsl : sl < 18446744073709551616) (z1 : sh = 0) (z2 : sl = 0) :
    Calls Tryd.prog 54 #[.agg #[.int .i64 an, .int .i64 ad], .agg #[.int .i64 bn, .int .i64 bd], .bool less] w fun e w' => e = .returned (.tuple #[.agg #[.int .i64 0, .int .i64 1], .nilIface]) ∧ Below w.heap.size w w' := by
  subst z1
  subst z2
  have E1 := wrapN ad (by omega)
  have E2 := wrapN bd (by omega)
  skip
  go_enter Tryd.func54, Tryd.ntmps54
  go_wp2_with (go_at_call 39; first
    | (refine (right_any _ _ _ (by omega) (by omega) (by omega)).mono ?_; rintro e w1 ⟨he, hb_w1⟩; rw [HA.out] at he; clear HA; subst he; obtain ⟨hc_w1, hf_w1⟩ := bcell hb_w1; have hz_w1 := hb_w1.size; (try simp at hz_w1); have hB_w1 : Below w.heap.size w w1 := Below.trans (by repeat' (first | (with_reducible assumption) | (with_reducible refine Below.setCell ?_ ?_ _) | (with_reducible refine Below.alloc ?_ ?_ _) | (with_reducible refine Below.drew ?_) | (with_reducible refine below_drewN ?_ _) | (with_reducible exact Below.refl _ _) | (show _ ≤ _; (try simp); (try omega); done) | exact Below.refl _ _ | assumption)) (hb_w1.mono (by (try simp); (try omega))); have z_w1_0 : w.heap.size < w1.heap.size := (by omega); have z_w1_1 : w.heap.size + 1 < w1.heap.size := (by omega); have z_w1_2 : w.heap.size + 2 < w1.heap.size := (by omega))
    | (refine (right_any _ _ _ (by omega) (by omega) (by omega)).mono ?_; rintro e w2 ⟨he, hb_w2⟩; rw [HB.out] at he; clear HB; subst he; obtain ⟨hc_w2, hf_w2⟩ := bcell hb_w2; have hz_w2 := hb_w2.size; (try simp at hz_w2); have hB_w2 : Below w.heap.size w w2 := Below.trans (by repeat' (first | (with_reducible assumption) | (with_reducible refine Below.setCell ?_ ?_ _) | (with_reducible refine Below.alloc ?_ ?_ _) | (with_reducible refine Below.drew ?_) | (with_reducible refine below_drewN ?_ _) | (with_reducible exact Below.refl _ _) | (show _ ≤ _; (try simp); (try omega); done) | exact Below.refl _ _ | assumption)) (hb_w2.mono (by (try simp); (try omega))); have z_w2_0 : w.heap.size < w2.heap.size := (by omega); have z_w2_1 : w.heap.size + 1 < w2.heap.size := (by omega); have z_w2_2 : w.heap.size + 2 < w2.heap.size := (by omega))
    | fail)
  have c0 : w2.cell? ⟨w.heap.size, 0, none⟩ = some (.int .i64 an) := by go_simp
  have c1 : w2.cell? ⟨w.heap.size, 1, none⟩ = some (.int .i64 ad) := by go_simp
  have c2' : w2.cell? ⟨w.heap.size + 1, 0, none⟩ = some (.int .i64 bn) := by go_simp
  have c3 : w2.cell? ⟨w.heap.size + 1, 1, none⟩ = some (.int .i64 bd) := by go_simp
  have c4 : w2.cell? ⟨w.heap.size + 2, 0, none⟩ = some (.int .i64 0) := by go_simp
  have c5 : w2.cell? ⟨w.heap.size + 2, 1, none⟩ = some (.int .i64 0) := by go_simp
  have f4 : w2.frozen? ⟨w.heap.size + 2, 0, none⟩ = false := by go_simp
  have f5 : w2.frozen? ⟨w.heap.size + 2, 1, none⟩ = false := by go_simp
  clear hc_w2 hf_w2 hc_w1 hf_w1 hb_w1 hb_w2 hz_w1 hz_w2
  have HB2 := Lib.hid hB_w2; clear hB_w2 hB_w1
  clear z_w2_1 z_w2_0 z_w1_0 z_w1_1 z_w1_2
  go_wp2_with (go_at_call 69; refine (gcd_g _ _ _ (by omega) (by omega) (by exact HG.out) _).mono ?_; rintro e w3 ⟨rfl, n, rfl⟩)
  go_quiet (fail)
  go_wp2_with (first
    | (go_at_call 53; refine (size_v _ _ _ (by omega) (by omega) (by first | exact SA.out | exact SB.out)).mono ?_; rintro e w' ⟨rfl, rfl⟩)
    | (go_at_call 78; ((first | (with_reducible refine (M1.out _).mono ?_) | (with_reducible refine (M2.out _).mono ?_)); rintro e w' ⟨rfl, rfl⟩)))
  go_quiet (fail)
  go_wp2_with (first
    | simp only [A1.out] | simp only [A2.out])
  have hB := HB2.out
  have d4 := c4
  have d5 := c5
  refine bodyPost_ret (v := .tuple #[.agg #[.int .i64 0, .int .i64 1], .nilIface]) (by simp [results, Tryd.results54, go_sem, d4, d5]) rfl ?_
  exact ⟨rfl, (by repeat' (first | (with_reducible assumption) | (with_reducible refine Below.setCell ?_ ?_ _) | (with_reducible refine Below.alloc ?_ ?_ _) | (with_reducible refine Below.drew ?_) | (with_reducible refine below_drewN ?_ _) | (with_reducible exact Below.refl _ _) | (show _ ≤ _; (try simp); (try omega); done) | exact Below.refl _ _ | assumption))⟩
set_option maxRecDepth 100000 in
set_option maxHeartbeats 4000000 in
theorem sum_c3bl (an bn : Int) (ad bd a b g x y h l i m c c2 sh sl p q0 rest k r2 low q1 bk hd ld top : Nat) (u v : Int) (er : Value) (less one sb two : Bool) (w : World) (h1 : -9223372036854775808 ≤ an) (h2 : an < 9223372036854775808) (h3 : ad < 9223372036854775808) (h4 : -9223372036854775808 ≤ bn) (h5 : bn < 9223372036854775808) (h6 : bd < 9223372036854775808)
    (HA : Hid (rightB an ad = true)) (HB : Hid (rightB bn bd = true)) (SA : Hid (a = an.natAbs)) (SB : Hid (b = bn.natAbs)) (HG : Hid (g = Nat.gcd ad bd)) (n1 : ¬ g = 0) (wx : IntKind.u64.wrap ((bd : Int) / (g : Int)) = (x : Int)) (wy : IntKind.u64.wrap ((ad : Int) / (g : Int)) = (y : Int)) (M1 : Hid (∀ w, Calls Tryd.prog 78 #[.int .u64 a, .int .u64 x] w fun e w' => e = .returned (.tuple #[.int .u64 (h : Int), .int .u64 (l : Int)]) ∧ w = w')) (M2 : Hid (∀ w, Calls Tryd.prog 78 #[.int .u64 b, .int .u64 y] w fun e w' => e = .returned (.tuple #[.int .u64 (i : Int), .int .u64 (m : Int)]) ∧ w = w')) (s1 : decide (an < 0) = one) (s2 : decide (bn < 0) = sb) (s3 : (!(sb == less)) = two) (bh : h < 18446744073709551616) (bl : l < 18446744073709551616) (bi : i < 18446744073709551616) (bm : m < 18446744073709551616) (e1 : (one == two) = false) (bc : c ≤ 1) (A1 : Hid (∀ w, (callFunc 81 #[.int .u64 l, .int .u64 m, .int .u64 0]).run Tryd.prog w = .ok (.value (.tuple #[.int .u64 (sl : Int), .int .u64 (c : Int)])) w)) (A2 : Hid (∀ w, (callFunc 81 #[.int .u64 h, .int .u64 i, .int .u64 c]).run Tryd.prog w = .ok (.value (.tuple #[.int .u64 (sh : Int), .int .u64 (c2 : Int)])) w)) (o1 : decide (h < i) = false) (o2 : ((h : Int) == (i : Int)) = true) (o2' : (h == i) = true) (o3 : decide (l < m) = false) (bsh : sh < 18446744073709551616) (bsl : sl < 18446744073709551616) (z1 : sh = 0) (z2 : ((sl : Int) == 0) = false) (D1 : Hid (∀ w, Calls Tryd.prog 82 #[.int .u64 0, .int .u64 sl, .int .u64 g] w fun e w' => e = .returned (.tuple #[.int .u64 (q0 : Int), .int .u64 (rest : Int)]) ∧ ∃ n, w' = w.drewN n)) (G2 : Hid (∀ w, Calls Tryd.prog 69 #[.int .u64 g, .int .u64 rest] w fun e w' => e = .returned (.int .u64 (k : Int)) ∧ ∃ n, w' = w.drewN n)) (n2 : ¬ k = 0) (D2 : Hid (∀ w, Calls Tryd.prog 82 #[.int .u64 0, .int .u64 sl, .int .u64 k] w fun e w' => e = .returned (.tuple #[.int .u64 (low : Int), .int .u64 (q1 : Int)]) ∧ ∃ n, w' = w.drewN n)) (wb : IntKind.u64.wrap ((bd : Int) / (k : Int)) = (bk : Int)) (M3 : Hid (∀ w, Calls Tryd.prog 78 #[.int .u64 y, .int .u64 bk] w fun e w' => e = .returned (.tuple #[.int .u64 (hd : Int), .int .u64 (ld : Int)]) ∧ w = w')) (F1 : Hid (∀ w, Calls Tryd.prog 79 #[.bool one, .int .u64 0, .int .u64 low, .int .u64 hd, .int .u64 ld] w fun e w' => e = .returned (.tuple #[.agg #[.int .i64 u, .int .i64 v], er]) ∧ Below w.heap.size w w')) :
    Calls Tryd.prog 54 #[.agg #[.int .i64 an, .int .i64 ad], .agg #[.int .i64 bn, .int .i64 bd], .bool less] w fun e w' => e = .returned (.tuple #[.agg #[.int .i64 u, .int .i64 v], er]) ∧ Below w.heap.size w w' := by
  subst z1
  have E1 := wrapN ad (by omega)
  have E2 := wrapN bd (by omega)
  skip
  go_enter Tryd.func54, Tryd.ntmps54
  go_wp2_with (go_at_call 39; first
    | (refine (right_any _ _ _ (by omega) (by omega) (by omega)).mono ?_; rintro e w1 ⟨he, hb_w1⟩; rw [HA.out] at he; clear HA; subst he; obtain ⟨hc_w1, hf_w1⟩ := bcell hb_w1; have hz_w1 := hb_w1.size; (try simp at hz_w1); have hB_w1 : Below w.heap.size w w1 := Below.trans (by repeat' (first | (with_reducible assumption) | (with_reducible refine Below.setCell ?_ ?_ _) | (with_reducible refine Below.alloc ?_ ?_ _) | (with_reducible refine Below.drew ?_) | (with_reducible refine below_drewN ?_ _) | (with_reducible exact Below.refl _ _) | (show _ ≤ _; (try simp); (try omega); done) | exact Below.refl _ _ | assumption)) (hb_w1.mono (by (try simp); (try omega))); have z_w1_0 : w.heap.size < w1.heap.size := (by omega); have z_w1_1 : w.heap.size + 1 < w1.heap.size := (by omega); have z_w1_2 : w.heap.size + 2 < w1.heap.size := (by omega))
    | (refine (right_any _ _ _ (by omega) (by omega) (by omega)).mono ?_; rintro e w2 ⟨he, hb_w2⟩; rw [HB.out] at he; clear HB; subst he; obtain ⟨hc_w2, hf_w2⟩ := bcell hb_w2; have hz_w2 := hb_w2.size; (try simp at hz_w2); have hB_w2 : Below w.heap.size w w2 := Below.trans (by repeat' (first | (with_reducible assumption) | (with_reducible refine Below.setCell ?_ ?_ _) | (with_reducible refine Below.alloc ?_ ?_ _) | (with_reducible refine Below.drew ?_) | (with_reducible refine below_drewN ?_ _) | (with_reducible exact Below.refl _ _) | (show _ ≤ _; (try simp); (try omega); done) | exact Below.refl _ _ | assumption)) (hb_w2.mono (by (try simp); (try omega))); have z_w2_0 : w.heap.size < w2.heap.size := (by omega); have z_w2_1 : w.heap.size + 1 < w2.heap.size := (by omega); have z_w2_2 : w.heap.size + 2 < w2.heap.size := (by omega))
    | fail)
  have c0 : w2.cell? ⟨w.heap.size, 0, none⟩ = some (.int .i64 an) := by go_simp
  have c1 : w2.cell? ⟨w.heap.size, 1, none⟩ = some (.int .i64 ad) := by go_simp
  have c2' : w2.cell? ⟨w.heap.size + 1, 0, none⟩ = some (.int .i64 bn) := by go_simp
  have c3 : w2.cell? ⟨w.heap.size + 1, 1, none⟩ = some (.int .i64 bd) := by go_simp
  have c4 : w2.cell? ⟨w.heap.size + 2, 0, none⟩ = some (.int .i64 0) := by go_simp
  have c5 : w2.cell? ⟨w.heap.size + 2, 1, none⟩ = some (.int .i64 0) := by go_simp
  have f4 : w2.frozen? ⟨w.heap.size + 2, 0, none⟩ = false := by go_simp
  have f5 : w2.frozen? ⟨w.heap.size + 2, 1, none⟩ = false := by go_simp
  clear hc_w2 hf_w2 hc_w1 hf_w1 hb_w1 hb_w2 hz_w1 hz_w2
  have HB2 := Lib.hid hB_w2; clear hB_w2 hB_w1
  clear z_w2_1 z_w2_0 z_w1_0 z_w1_1 z_w1_2
  go_wp2_with (go_at_call 69; refine (gcd_g _ _ _ (by omega) (by omega) (by exact HG.out) _).mono ?_; rintro e w3 ⟨rfl, n, rfl⟩)
  go_quiet (fail)
  go_wp2_with (first
    | (go_at_call 53; refine (size_v _ _ _ (by omega) (by omega) (by first | exact SA.out | exact SB.out)).mono ?_; rintro e w' ⟨rfl, rfl⟩)
    | (go_at_call 78; ((first | (with_reducible refine (M1.out _).mono ?_) | (with_reducible refine (M2.out _).mono ?_)); rintro e w' ⟨rfl, rfl⟩)))
  go_quiet (fail)
  go_wp2_with (first
    | simp only [A1.out] | simp only [A2.out]
    | (go_at_call 82; ((first | (with_reducible refine (D1.out _).mono ?_) | (with_reducible refine (D2.out _).mono ?_)); rintro e w' ⟨rfl, n', rfl⟩))
    | (go_at_call 69; refine (G2.out _).mono ?_; rintro e w' ⟨rfl, n', rfl⟩)
    | (go_at_call 78; refine (M3.out _).mono ?_; rintro e w' ⟨rfl, rfl⟩))
  go_quiet (fail)
  go_wp2_with (first
    | (go_at_call 82; ((first | (with_reducible refine (D1.out _).mono ?_) | (with_reducible refine (D2.out _).mono ?_)); rintro e w' ⟨rfl, n', rfl⟩))
    | (go_at_call 78; refine (M3.out _).mono ?_; rintro e w' ⟨rfl, rfl⟩)
    | (go_at_call 79; refine (F1.out _).mono ?_; rintro e w3 ⟨rfl, hb_w3⟩
       have hc : ∀ o, w3.cell? ⟨w.heap.size + 2, o, none⟩ = w2.cell? ⟨w.heap.size + 2, o, none⟩ := fun o => hb_w3.cell (p := ⟨w.heap.size + 2, o, none⟩) z_w2_2
       have hf : ∀ o, w3.frozen? ⟨w.heap.size + 2, o, none⟩ = w2.frozen? ⟨w.heap.size + 2, o, none⟩ := fun o => hb_w3.frozen (p := ⟨w.heap.size + 2, o, none⟩) z_w2_2
       have d4 := (hc 0).trans c4
       have d5 := (hc 1).trans c5
       have g4 := (hf 0).trans f4
       have g5 := (hf 1).trans f5
       have H3 : Hid (Below w.heap.size w w3) := Lib.hid (HB2.out.trans ((show Below w2.heap.size w2 w3 from ⟨hb_w3.os, hb_w3.tape, hb_w3.output, hb_w3.size, hb_w3.block⟩).mono (by omega)))
       clear hc hf hb_w3))
  have hB := H3.out
  refine bodyPost_ret (v := .tuple #[.agg #[.int .i64 u, .int .i64 v], er]) (by simp [results, Tryd.results54, go_sem, d4, d5]) rfl ?_
  exact ⟨rfl, (by repeat' (first | (with_reducible assumption) | (with_reducible refine Below.setCell ?_ ?_ _) | (with_reducible refine Below.alloc ?_ ?_ _) | (with_reducible refine Below.drew ?_) | (with_reducible refine below_drewN ?_ _) | (with_reducible exact Below.refl _ _) | (show _ ≤ _; (try simp); (try omega); done) | exact Below.refl _ _ | assumption))⟩
end ratW
end Go.Proofs.YtllbpanfhlbbgaaDoor
