/- Walk of rat.product. No condition. -/
import Derived.Test.YtllbpanfhlbbgaaDoorRatR
import Derived.Test.YtllbpanfhlbbgaaDoorShelf
namespace Go.Proofs.YtllbpanfhlbbgaaDoor
open Go.RowKit Go.Bus Go.Rt
set_option linter.unusedVariables false
namespace ratW
theorem wrapN (a : Nat) (ha : a < 18446744073709551616) : IntKind.u64.wrap (a : Int) = (a : Int) := by rw [IntKind.wrap_u64]; omega
theorem wquo {a g p : Nat} (ha : a < 18446744073709551616) (hp : p = a / g) : IntKind.u64.wrap ((a : Int) / (g : Int)) = (p : Int) := by
  rw [← Int.natCast_ediv, ← hp]; exact wrapN _ (by have := Nat.div_le_self a g; omega)
theorem mul_any (x y h l : Nat) (hx : x < 18446744073709551616) (hy : y < 18446744073709551616) (hh : h = x * y / 18446744073709551616) (hl : l = x * y % 18446744073709551616) (w : World) :
    Calls Tryd.prog 78 #[.int .u64 x, .int .u64 y] w fun e w' => e = .returned (.tuple #[.int .u64 (h : Int), .int .u64 (l : Int)]) ∧ w = w' := by
  subst hh; subst hl
  exact (Tryd.bits_Mul64 x y hx hy w).mono fun e w' ⟨he, hw⟩ => ⟨he, hw.symm⟩
theorem mul_q (x y h l : Nat) (hx : x < 18446744073709551616) (hy : y < 18446744073709551616) (hh : h = x * y / 18446744073709551616) (hl : l = x * y % 18446744073709551616) (w : World) (b n : Nat) :
    Calls Tryd.prog 78 #[.int .u64 x, .int .u64 y] (w.drewN (b + n)) fun e w' => e = .returned (.tuple #[.int .u64 (h : Int), .int .u64 (l : Int)]) ∧ ∃ m, w' = w.drewN (b + m) :=
  (mul_any x y h l hx hy hh hl _).mono fun e w' ⟨he, hm⟩ => ⟨he, n, hm.symm⟩
theorem gcd_g (a b g : Nat) (ha : a < 18446744073709551616) (hb : b < 18446744073709551616) (hg : g = Nat.gcd a b) (w : World) :
    Calls Tryd.prog 69 #[.int .u64 a, .int .u64 b] w fun e w' => e = .returned (.int .u64 (g : Int)) ∧ ∃ n, w' = w.drewN n := by
  subst hg; exact gcd_any a b ha hb w
theorem join {a b x W : Nat} (ha : a = x / W) (hb : b = x % W) : a * W + b = x := by
  rw [ha, hb, Nat.mul_comm]; exact Nat.div_add_mod x W
set_option maxRecDepth 100000 in
theorem fit_v (neg : Bool) (a b c d : Nat) (x y : Nat) (r : Option (Int × Int)) (ha : a = x / 18446744073709551616) (hb : b = x % 18446744073709551616) (hc : c = y / 18446744073709551616) (hd : d = y % 18446744073709551616)
    (hx : x / 18446744073709551616 < 18446744073709551616) (hy : y / 18446744073709551616 < 18446744073709551616) (hr : fitN neg x y = r) (w : World) :
    Calls Tryd.prog 79 #[.bool neg, .int .u64 a, .int .u64 b, .int .u64 c, .int .u64 d] w fun e w' => e = .returned (ratV r) ∧ Below w.heap.size w w' := by
  subst hr
  have e1 : a * 18446744073709551616 + b = x := join ha hb
  have e2 : c * 18446744073709551616 + d = y := join hc hd
  have := fit_any neg a b c d (by omega) (by omega) (by omega) (by omega) w
  rw [e1, e2] at this
  exact this
theorem hi_lt_any {x y W : Nat} (hx : x < W) (hy : y < W) : x * y / W < W := Nat.div_lt_of_lt_mul (Nat.mul_lt_mul'' hx hy)
theorem hi_lt {x y : Nat} (hx : x < 18446744073709551616) (hy : y < 18446744073709551616) : x * y / 18446744073709551616 < 18446744073709551616 := hi_lt_any hx hy

set_option maxRecDepth 100000 in
set_option maxHeartbeats 2000000 in
theorem product_r (neg : Bool) (an ad bn bd g k p1 p2 p3 p4 h l i m : Nat) (r : Option (Int × Int)) (w : World) (h1 : an < 18446744073709551616) (h2 : ad < 18446744073709551616) (h3 : bn < 18446744073709551616) (h4 : bd < 18446744073709551616) (ha : 0 < ad) (hb : 0 < bd)
    (hg : g = Nat.gcd an bd) (hk : k = Nat.gcd bn ad) (hp1 : p1 = an / g) (hp2 : p2 = bn / k) (hp3 : p3 = ad / k) (hp4 : p4 = bd / g)
    (hh : h = p1 * p2 / 18446744073709551616) (hl : l = p1 * p2 % 18446744073709551616) (hi : i = p3 * p4 / 18446744073709551616) (hm : m = p3 * p4 % 18446744073709551616)
    (hr : fitN neg (p1 * p2) (p3 * p4) = r) :
    Calls Tryd.prog 52 #[.bool neg, .int .u64 an, .int .u64 ad, .int .u64 bn, .int .u64 bd] w fun e w' => e = .returned (ratV r) ∧ Below w.heap.size w w' := by
  have n1 : ¬ g = 0 := by rw [hg]; have := Nat.gcd_pos_of_pos_right an hb; omega
  have n2 : ¬ k = 0 := by rw [hk]; have := Nat.gcd_pos_of_pos_right bn ha; omega
  have w1 := wquo h1 hp1; have w2 := wquo h3 hp2; have w3 := wquo h2 hp3; have w4 := wquo h4 hp4
  have q1 : p1 < 18446744073709551616 := by rw [hp1]; have := Nat.div_le_self an g; omega
  have q2 : p2 < 18446744073709551616 := by rw [hp2]; have := Nat.div_le_self bn k; omega
  have q3 : p3 < 18446744073709551616 := by rw [hp3]; have := Nat.div_le_self ad k; omega
  have q4 : p4 < 18446744073709551616 := by rw [hp4]; have := Nat.div_le_self bd g; omega
  have HG := Lib.hid hg; have HK := Lib.hid hk; have HH := Lib.hid hh; have HL := Lib.hid hl; have HI := Lib.hid hi; have HM := Lib.hid hm; have HR := Lib.hid hr
  clear hg hk hp1 hp2 hp3 hp4 hh hl hi hm hr ha hb
  obtain _ | ⟨vn, vd⟩ := r
  all_goals
    go_enter Tryd.func52, Tryd.ntmps52
    go_wp2_with (go_at_call 69; refine (gcd_g _ _ _ (by assumption) (by assumption) (by first | exact HG.out | exact HK.out) _).mono ?_; rintro e w1 ⟨rfl, n, rfl⟩)
    go_quiet ((go_at_call 78; exact mul_q p1 p2 h l q1 q2 HH.out HL.out _ _ _))
    go_wp2
    go_quiet ((go_at_call 78; exact mul_q p3 p4 i m q3 q4 HI.out HM.out _ _ _))
    go_wp2_with (go_at_call 79; refine (fit_v neg h l i m _ _ _ HH.out HL.out HI.out HM.out (hi_lt q1 q2) (hi_lt q3 q4) HR.out _).mono ?_; rintro e w1 ⟨he, hb⟩; simp only [ratV] at he; subst he; obtain ⟨hc, hf⟩ := bcell hb; have hz := hb.size; (try simp at hz); have hB : Below w.heap.size w w1 := Below.trans (by repeat' (first | (with_reducible assumption) | (with_reducible refine Below.setCell ?_ ?_ _) | (with_reducible refine Below.alloc ?_ ?_ _) | (with_reducible refine Below.drew ?_) | (with_reducible refine below_drewN ?_ _) | (with_reducible exact Below.refl _ _) | (show _ ≤ _; (try simp); (try omega); done) | exact Below.refl _ _ | assumption)) (hb.mono (by (try simp); (try omega))))
    have d0 : w1.cell? ⟨w.heap.size, 0, none⟩ = some (.int .i64 0) := (hc _ _ (by simp)).trans (by simp [go_sem])
    have d1 : w1.cell? ⟨w.heap.size, 1, none⟩ = some (.int .i64 0) := (hc _ _ (by simp)).trans (by simp [go_sem])
    first
      | refine bodyPost_ret (v := ratV (some (vn, vd))) (by simp [results, Tryd.results52, go_sem, ratV, d0, d1]) rfl ?_
      | refine bodyPost_ret (v := ratV none) (by simp [results, Tryd.results52, go_sem, ratV, d0, d1]) rfl ?_
    exact ⟨rfl, (by repeat' (first | (with_reducible assumption) | (with_reducible refine Below.setCell ?_ ?_ _) | (with_reducible refine Below.alloc ?_ ?_ _) | (with_reducible refine Below.drew ?_) | (with_reducible refine below_drewN ?_ _) | (with_reducible exact Below.refl _ _) | (show _ ≤ _; (try simp); (try omega); done) | exact Below.refl _ _ | assumption))⟩

theorem product_any (neg : Bool) (an ad bn bd : Nat) (w : World) (h1 : an < 18446744073709551616) (h2 : ad < 18446744073709551616) (h3 : bn < 18446744073709551616) (h4 : bd < 18446744073709551616) (ha : 0 < ad) (hb : 0 < bd) (ca : Nat.Coprime an ad) (cb : Nat.Coprime bn bd) :
    Calls Tryd.prog 52 #[.bool neg, .int .u64 an, .int .u64 ad, .int .u64 bn, .int .u64 bd] w fun e w' => e = .returned (ratV (fitR (Rat.divInt (sg neg (an * bn)) ((ad * bd : Nat) : Int)))) ∧ Below w.heap.size w w' :=
  product_r neg an ad bn bd _ _ _ _ _ _ _ _ _ _ _ w h1 h2 h3 h4 ha hb rfl rfl rfl rfl rfl rfl rfl rfl rfl rfl (prod_rat ha hb ca cb)
end ratW
end Go.Proofs.YtllbpanfhlbbgaaDoor
