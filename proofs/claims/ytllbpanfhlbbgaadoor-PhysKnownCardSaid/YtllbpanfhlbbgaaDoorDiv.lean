/- Walk of math/bits.Div64. No condition. -/
import Derived.Test.YtllbpanfhlbbgaaDoorBase
import Derived.Test.YtllbpanfhlbbgaaDoorProg
import Derived.Test.YtllbpanfhlbbgaaDoorShelf
import Derived.Test.YtllbpanfhlbbgaaDoorDivLaw
import Derived.Lib.ItoaNum
import Derived.Laws.BitsAllLaws
import Derived.Laws.Bits64b
import Derived.Deep.QuietTactic
import Derived.BigQuiet
namespace Go.Proofs.YtllbpanfhlbbgaaDoor
open Go.RowKit Go.Bus Go.Rt
set_option linter.unusedVariables false
namespace divW
theorem lz_any (y s : Nat) (hy : y < 18446744073709551616) (hs : 64 = Lib.bitLen y + s) (w : World) :
    Calls Tryd.prog 90 #[.int .u64 y] w fun e w' => e = .returned (.int .i64 (s : Int)) ∧ w = w' :=
  (Tryd.bits_LeadingZeros64 (y : Int) w (by omega) (by omega)).mono fun e w' ⟨he, hw⟩ => ⟨by rw [he, Int.toNat_natCast, show (64 - (Lib.bitLen y : Int)) = (s : Int) by omega], hw.symm⟩

set_option maxRecDepth 100000 in
set_option maxHeartbeats 1000000 in
theorem div_low (lo y : Nat) (hh : 0 < y) (hl : lo < 18446744073709551616) (hy : y < 18446744073709551616) (w : World) :
    Calls Tryd.prog 82 #[.int .u64 0, .int .u64 lo, .int .u64 y] w fun e w' => e = .returned (.tuple #[.int .u64 (lo / y : Nat), .int .u64 (lo % y : Nat)]) ∧ ∃ n, w' = w.drewN n := by
  have e0 : ((y : Int) == 0) = false := by simp; omega
  have e2 : IntKind.u64.wrap ((lo : Int) / (y : Int)) = ((lo / y : Nat) : Int) := by rw [← Int.natCast_ediv, IntKind.wrap_u64]; have := Nat.div_le_self lo y; generalize lo / y = z at *; omega
  have e1 : decide ((y : Int) ≤ 0) = false := decide_eq_false (by omega)
  go_enter Tryd.func82, Tryd.ntmps82
  go_wp2
  go_quiet (fail)
  go_wp2
  go_ret2
  exact ⟨by first | rfl | simp, _, rfl⟩

theorem wrapN (a : Nat) (ha : a < 18446744073709551616) : IntKind.u64.wrap (a : Int) = (a : Int) := by rw [IntKind.wrap_u64]; omega
theorem powN (s : Nat) : (2 : Int) ^ s = ((2 ^ s : Nat) : Int) := by rw [Int.natCast_pow]; rfl

/-- what the code makes of its arguments ahead of its first digit -/
structure Nrm (hi lo y s t Y u v u1 u0 y1 y0 : Nat) : Prop where
  len : 64 = Lib.bitLen y + s
  ws : IntKind.u64.wrap (s : Int) = (s : Int)
  ms : min s 64 = s
  wt : IntKind.u64.wrap (64 - (s : Int)) = (t : Int)
  mt : min t 64 = t
  wY : IntKind.u64.wrap ((y : Int) * 2 ^ s) = (Y : Int)
  wu : bits BinOp.or IntKind.u64 (IntKind.u64.wrap ((hi : Int) * 2 ^ s)) ((lo : Int) / 2 ^ t) = (u : Int)
  wv : IntKind.u64.wrap ((lo : Int) * 2 ^ s) = (v : Int)
  v1 : (v : Int) / 4294967296 = (u1 : Int)
  v0 : bits BinOp.and IntKind.u64 (v : Int) 4294967295 = (u0 : Int)
  Y1 : (Y : Int) / 4294967296 = (y1 : Int)
  Y0 : bits BinOp.and IntKind.u64 (Y : Int) 4294967295 = (y0 : Int)
  eY : Y = y * 2 ^ s
  eu : u * 18446744073709551616 + v = (hi * 18446744073709551616 + lo) * 2 ^ s
  ev : v = u1 * 4294967296 + u0
  lu0 : u0 < 4294967296
  lu1 : u1 < 4294967296
  eY2 : Y = y1 * 4294967296 + y0
  ly0 : y0 < 4294967296
  by1 : 2147483648 ≤ y1
  ly1 : y1 < 4294967296
  lu : u < Y
  lY : Y < 18446744073709551616

theorem maskN (a : Nat) (ha : a < 18446744073709551616) : bits .and .u64 (a : Int) 4294967295 = ((a % 4294967296 : Nat) : Int) := by
  have h := bits_and_u64_nat a 4294967295 ha (by omega)
  have e : a &&& 4294967295 = a % 4294967296 := Nat.and_two_pow_sub_one_eq_mod a 32
  rw [e] at h
  exact h

theorem nrm {hi lo y : Nat} (hh : hi < y) (hl : lo < 18446744073709551616) (hy : y < 18446744073709551616) : ∃ s t Y u v u1 u0 y1 y0, Nrm hi lo y s t Y u v u1 u0 y1 y0 := by
  obtain ⟨b1, b2, b3⟩ := Lib.bitLenAux_bounds 64 y hy (by omega)
  have b4 := Lib.bitLen_le y 64 (Nat.le_refl _) hy
  obtain ⟨L, hL⟩ : ∃ L, L = Lib.bitLen y := ⟨_, rfl⟩
  rw [show Lib.bitLenAux 64 y = L from hL.symm] at b1 b2 b3
  rw [← hL] at b4
  obtain ⟨s, hs⟩ : ∃ s, 64 = L + s := ⟨64 - L, by omega⟩
  obtain ⟨t, ht⟩ : ∃ t, s + t = 64 := ⟨64 - s, by omega⟩
  obtain ⟨c1, c2⟩ := norm_big b2 b3 b1 hs
  obtain ⟨d1, d2, d3⟩ := norm_law hh hl ht
  have hvl : lo * 2 ^ s % 2 ^ 64 < 2 ^ 64 := Nat.mod_lt _ (by decide)
  have c1' : 9223372036854775808 ≤ y * 2 ^ s := c1
  have c2' : y * 2 ^ s < 18446744073709551616 := c2
  have hvl' : lo * 2 ^ s % 2 ^ 64 < 18446744073709551616 := hvl
  obtain ⟨Y, hY⟩ : ∃ Y, Y = y * 2 ^ s := ⟨_, rfl⟩
  obtain ⟨v, hv⟩ : ∃ v, v = lo * 2 ^ s % 2 ^ 64 := ⟨_, rfl⟩
  obtain ⟨z, hz⟩ : ∃ z, z = lo / 2 ^ t := ⟨_, rfl⟩
  rw [← hY] at c1' c2' d2
  rw [← hv] at hvl' d3
  rw [← hz] at d1 d2 d3
  have hu2 : hi * 2 ^ s + z < 18446744073709551616 := by omega
  have d3' : (hi * 2 ^ s + z) * 18446744073709551616 + v = (hi * 18446744073709551616 + lo) * 2 ^ s := d3
  refine ⟨s, t, Y, hi * 2 ^ s + z, v, v / 4294967296, v % 4294967296, Y / 4294967296, Y % 4294967296, ?_⟩
  refine ⟨by omega, wrapN _ (by omega), by omega, by rw [IntKind.wrap_u64]; omega, by omega, ?_, ?_, ?_, by omega, maskN _ hvl', by omega, maskN _ c2', hY, d3', by omega, by omega, by omega, by omega, by omega, by omega, by omega, d2, c2'⟩
  · rw [powN, ← Int.natCast_mul, ← hY]; exact wrapN _ c2'
  · rw [powN, powN, ← Int.natCast_mul, ← Int.natCast_ediv, ← hz, wrapN _ (by omega), bits_or_u64_nat _ _ (by omega) (by omega), Nat.mul_comm hi, ← Nat.two_pow_add_eq_or_of_lt d1]
  · rw [powN, ← Int.natCast_mul, IntKind.wrap_u64, hv]
    have : ((lo * 2 ^ s : Nat) : Int) % 18446744073709551616 = ((lo * 2 ^ s % 18446744073709551616 : Nat) : Int) := by omega
    exact this

theorem quo_law {u y1 : Nat} (h : 0 < y1) (hu : u < 18446744073709551616) : ∃ q a r : Nat, IntKind.u64.wrap ((u : Int) / (y1 : Int)) = (q : Int) ∧ IntKind.u64.wrap ((q : Int) * (y1 : Int)) = (a : Int) ∧ IntKind.u64.wrap ((u : Int) - (a : Int)) = (r : Int) ∧ q = u / y1 ∧ r = u % y1 := by
  have e := Nat.div_add_mod u y1
  have l := Nat.div_le_self u y1
  have l2 := Nat.mod_le u y1
  refine ⟨u / y1, u / y1 * y1, u % y1, ?_, ?_, ?_, rfl, rfl⟩
  · rw [← Int.natCast_ediv]; exact wrapN _ (by generalize u / y1 = z at *; omega)
  · rw [← Int.natCast_mul]; rw [Nat.mul_comm] at e; exact wrapN _ (by generalize u / y1 * y1 = z at *; omega)
  · rw [Nat.mul_comm] at e; rw [IntKind.wrap_u64]
    generalize u / y1 * y1 = z at *; generalize u % y1 = x at *; omega

theorem sub_law {u d Y Q : Nat} (hp : 0 < Y) (hY : Y < 18446744073709551616) (hQ : Q = (u * 4294967296 + d) / Y) : ∃ a1 a2 a3 m : Nat, IntKind.u64.wrap ((u : Int) * 4294967296) = (a1 : Int) ∧ IntKind.u64.wrap ((a1 : Int) + (d : Int)) = (a2 : Int) ∧ IntKind.u64.wrap ((Q : Int) * (Y : Int)) = (a3 : Int) ∧ IntKind.u64.wrap ((a2 : Int) - (a3 : Int)) = (m : Int) ∧ m = (u * 4294967296 + d) % Y := by
  obtain ⟨z, hz⟩ : ∃ z, z = u * 4294967296 + d := ⟨_, rfl⟩
  rw [← hz] at hQ ⊢
  have e := Nat.div_add_mod z Y
  have l := Nat.mod_lt z hp
  rw [← hQ, Nat.mul_comm] at e
  refine ⟨u * 4294967296 % 18446744073709551616, (u * 4294967296 % 18446744073709551616 + d) % 18446744073709551616, Q * Y % 18446744073709551616, z % Y, ?_, ?_, ?_, ?_, rfl⟩
  · rw [IntKind.wrap_u64]; omega
  · rw [IntKind.wrap_u64]; omega
  · rw [← Int.natCast_mul, IntKind.wrap_u64]; omega
  · rw [IntKind.wrap_u64]; generalize z % Y = x at *; generalize Q * Y = y at *; omega

theorem test_law {q y0 r d : Nat} (hq : q < 4294967296) (h0 : y0 < 4294967296) (hr : r < 4294967296) (hd : d < 4294967296) : ∃ p m1 m : Nat, IntKind.u64.wrap ((q : Int) * (y0 : Int)) = (p : Int) ∧ IntKind.u64.wrap (4294967296 * (r : Int)) = (m1 : Int) ∧ IntKind.u64.wrap ((m1 : Int) + (d : Int)) = (m : Int) ∧ p = q * y0 ∧ m = 4294967296 * r + d := by
  have : q * y0 ≤ 4294967295 * y0 := Nat.mul_le_mul_right _ (by omega)
  refine ⟨q * y0, 4294967296 * r, 4294967296 * r + d, ?_, ?_, ?_, rfl, rfl⟩
  · rw [← Int.natCast_mul]; exact wrapN _ (by omega)
  · rw [IntKind.wrap_u64]; omega
  · rw [IntKind.wrap_u64]; omega

theorem less_law {q r y1 : Nat} (hq : 1 ≤ q) (hq2 : q ≤ 4294967297) (hr : r < 4294967296) (h1 : y1 < 4294967296) : ∃ k r2 : Nat, IntKind.u64.wrap ((q : Int) - 1) = (k : Int) ∧ IntKind.u64.wrap ((r : Int) + (y1 : Int)) = (r2 : Int) ∧ k = q - 1 ∧ r2 = r + y1 :=
  ⟨q - 1, r + y1, by rw [IntKind.wrap_u64]; omega, by rw [IntKind.wrap_u64]; omega, rfl, rfl⟩

theorem end_law {q1 q0 c s : Nat} (h1 : q1 < 4294967296) (h0 : q0 < 4294967296) : ∃ c1 c2 c3 : Nat, IntKind.u64.wrap ((q1 : Int) * 4294967296) = (c1 : Int) ∧ IntKind.u64.wrap ((c1 : Int) + (q0 : Int)) = (c2 : Int) ∧ ((c : Int) / 2 ^ s) = (c3 : Int) ∧ c2 = q1 * 4294967296 + q0 ∧ c3 = c / 2 ^ s :=
  ⟨q1 * 4294967296, q1 * 4294967296 + q0, c / 2 ^ s, by rw [IntKind.wrap_u64]; omega, by rw [IntKind.wrap_u64]; omega, by rw [powN, ← Int.natCast_ediv], rfl, rfl⟩

theorem cast_div {hi lo y c : Nat} (h : c = (hi * 18446744073709551616 + lo) / y) : ((hi : Int) * 18446744073709551616 + (lo : Int)) / (y : Int) = (c : Int) := by
  rw [show ((hi : Int) * 18446744073709551616 + (lo : Int)) = ((hi * 18446744073709551616 + lo : Nat) : Int) by omega, h, Int.natCast_ediv]
theorem cast_mod {hi lo y c : Nat} (h : c = (hi * 18446744073709551616 + lo) % y) : ((hi : Int) * 18446744073709551616 + (lo : Int)) % (y : Int) = (c : Int) := by
  rw [show ((hi : Int) * 18446744073709551616 + (lo : Int)) = ((hi * 18446744073709551616 + lo : Nat) : Int) by omega, h, Int.natCast_emod]

theorem dig_lt {u d Y : Nat} (hu : u < Y) (hd : d < 4294967296) : (u * 4294967296 + d) / Y < 4294967296 := by
  rw [Nat.div_lt_iff_lt_mul (by omega)]; omega

set_option maxRecDepth 100000 in
set_option maxHeartbeats 1000000 in
theorem div_big (hi lo y s t Y u v u1 u0 y1 y0 : Nat) (hh : hi < y) (h0 : hi ≠ 0) (hl : lo < 18446744073709551616) (hy : y < 18446744073709551616) (N : Nrm hi lo y s t Y u v u1 u0 y1 y0) (w : World) :
    Calls Tryd.prog 82 #[.int .u64 hi, .int .u64 lo, .int .u64 y] w fun e w' => e = .returned (.tuple #[.int .u64 ((hi * 18446744073709551616 + lo) / y : Nat), .int .u64 ((hi * 18446744073709551616 + lo) % y : Nat)]) ∧ ∃ n, w' = w.drewN n := by
  have e0 : ((y : Int) == 0) = false := by simp; omega
  have e1 : decide (y ≤ hi) = false := decide_eq_false (by omega)
  have e2 : ((hi : Int) == 0) = false := by simp; omega
  have HH := Lib.hid hh; clear hh
  have ws := N.ws; have ms := N.ms; have wt := N.wt; have mt := N.mt; have wY := N.wY; have wu := N.wu; have wv := N.wv; have v1 := N.v1; have v0 := N.v0; have Y1 := N.Y1; have Y0 := N.Y0
  have n1 : ¬ y1 = 0 := by have := N.by1; omega
  have hyp : 0 < y1 := by have := N.by1; omega
  have huW : u < 18446744073709551616 := by have := N.lu; have := N.lY; omega
  obtain ⟨qs, aq, rs, wqs, waq, wrs, hqs, hrs⟩ := quo_law hyp huW
  have HL1 := Lib.hid N.lu1
  have HL2 := Lib.hid N.lu0
  have HU1 := Lib.hid N.lu
  have HD1 : Hid (Dig u u1 Y y1 qs rs) := Lib.hid (by rw [hqs, hrs]; exact dig_start N.eY2 N.ly0 N.by1 N.ly1 N.lu N.lu1)
  have HN := Lib.hid N; clear N hqs hrs huW hyp
  go_enter Tryd.func82, Tryd.ntmps82
  go_wp2_with (go_at_call 90; refine (lz_any _ _ hy HN.out.len _).mono ?_; rintro e w' ⟨rfl, rfl⟩)
  go_loop [15, 16] (fun a b => ∃ q r : Nat, a = .int .u64 q ∧ b = .int .u64 r ∧ Hid (Dig u u1 Y y1 q r)) (fun a _ => (intOf a).toNat)
  case atStart => exact ⟨_, _, rfl, rfl, HD1⟩
  case round =>
    obtain ⟨qA, rA, rfl, rfl, HRA⟩ := hrel
    clear HD1
    by_cases gA : 4294967296 ≤ qA
    · have tA : decide ((4294967296 : Int) ≤ (qA : Int)) = true := decide_eq_true (by omega)
      have hoA := dig_over HN.out.eY2 HL1.out HU1.out HRA.out (Or.inl gA)
      clear gA
      obtain ⟨kA, r2A, wkA, wr2A, hkA, hr2A⟩ := less_law (q := qA) (r := rA) (y1 := y1) (by have := hoA; generalize (u * 4294967296 + u1) / Y = z at this; omega) HRA.out.qb HRA.out.rb HN.out.ly1
      have HOA := Lib.hid hoA; clear hoA
      have HKA := Lib.hid hkA; clear hkA
      have HR2A := Lib.hid hr2A; clear hr2A
      by_cases eA : 4294967296 ≤ r2A
      · have cA : decide ((4294967296 : Int) ≤ (r2A : Int)) = true := decide_eq_true (by omega)
        have HQA : Hid (kA = (u * 4294967296 + u1) / Y) := Lib.hid (by have h2 := HR2A.out; rw [HKA.out]; exact dig_break HN.out.eY2 HN.out.ly0 HU1.out HRA.out HOA.out (by omega))
        clear eA
        obtain ⟨a1, a2, a3, u21, wa1, wa2, wa3, wa4, h21⟩ := sub_law (u := u) (d := u1) (Y := Y) (Q := kA) (by have := HU1.out; omega) HN.out.lY HQA.out
        have hu21 : u21 < Y := by rw [h21]; exact Nat.mod_lt _ (by have := HU1.out; omega)
        obtain ⟨qt, at_, rt, wqt, wat, wrt, hqt, hrt⟩ := quo_law (u := u21) (y1 := y1) (by have := HN.out.by1; omega) (by have := HN.out.lY; omega)
        have HU2 := Lib.hid hu21
        have HD2 : Hid (Dig u21 u0 Y y1 qt rt) := Lib.hid (by rw [hqt, hrt]; exact dig_start HN.out.eY2 HN.out.ly0 HN.out.by1 HN.out.ly1 hu21 HN.out.lu0)
        have H21 := Lib.hid h21; clear h21 hu21 hqt hrt
        go_wp2
        go_loop [18, 16] (fun a b => ∃ q r : Nat, a = .int .u64 q ∧ b = .int .u64 r ∧ Hid (Dig u21 u0 Y y1 q r)) (fun a _ => (intOf a).toNat)
        case atStart => exact ⟨_, _, rfl, rfl, HD2⟩
        case round =>
          obtain ⟨qB, rB, rfl, rfl, HRB⟩ := hrel
          clear HD2
          by_cases gB : 4294967296 ≤ qB
          · have tB : decide ((4294967296 : Int) ≤ (qB : Int)) = true := decide_eq_true (by omega)
            have hoB := dig_over HN.out.eY2 HL2.out HU2.out HRB.out (Or.inl gB)
            clear gB
            obtain ⟨kB, r2B, wkB, wr2B, hkB, hr2B⟩ := less_law (q := qB) (r := rB) (y1 := y1) (by have := hoB; generalize (u21 * 4294967296 + u0) / Y = z at this; omega) HRB.out.qb HRB.out.rb HN.out.ly1
            have HOB := Lib.hid hoB; clear hoB
            have HKB := Lib.hid hkB; clear hkB
            have HR2B := Lib.hid hr2B; clear hr2B
            by_cases eB : 4294967296 ≤ r2B
            · have cB : decide ((4294967296 : Int) ≤ (r2B : Int)) = true := decide_eq_true (by omega)
              have HQB : Hid (kB = (u21 * 4294967296 + u0) / Y) := Lib.hid (by have h2 := HR2B.out; rw [HKB.out]; exact dig_break HN.out.eY2 HN.out.ly0 HU2.out HRB.out HOB.out (by omega))
              clear eB
              obtain ⟨b1, b2, b3, rm, wb1, wb2, wb3, wb4, hrm⟩ := sub_law (u := u21) (d := u0) (Y := Y) (Q := kB) (by have := HU1.out; omega) HN.out.lY HQB.out
              obtain ⟨c1, c2, c3, wc1, wc2, wc3, hc2, hc3⟩ := end_law (q1 := kA) (q0 := kB) (c := rm) (s := s) (by rw [HQA.out]; exact dig_lt HU1.out HL1.out) (by rw [HQB.out]; exact dig_lt HU2.out HL2.out)
              have HM2 := Lib.hid hrm; clear hrm
              have HC2 := Lib.hid hc2; clear hc2
              have HC3 := Lib.hid hc3; clear hc3
              go_wp2
              have HT := dig_two (by have := HH.out; omega) HN.out.eY HN.out.eu HN.out.ev HQA.out H21.out HQB.out
              rw [← HC2.out, ← HM2.out, ← HC3.out] at HT
              have HT1 := Lib.hid HT.1; have HT2 := Lib.hid HT.2; clear HT
              go_ret2
              exact ⟨by rw [cast_div HT1.out, cast_mod HT2.out]; rfl, 0, rfl⟩
            · have cB : decide ((4294967296 : Int) ≤ (r2B : Int)) = false := decide_eq_false (by omega)
              have HXB : Hid (Dig u21 u0 Y y1 kB r2B) := Lib.hid (by have h2 := HR2B.out; rw [HKB.out, HR2B.out]; exact dig_less HRB.out HOB.out (by omega))
              have hltB : kB < qB := by have h2 := HKB.out; have h3 := HOB.out; generalize (u21 * 4294967296 + u0) / Y = z at h3; omega
              clear eB
              go_wp2
              go_round
              case rel => exact ⟨kB, r2B, rfl, rfl, HXB⟩
              case measure => simp [intOf]; omega
          · have tB : decide ((4294967296 : Int) ≤ (qB : Int)) = false := decide_eq_false (by omega)
            obtain ⟨pB, lB, mB, wpB, wlB, wmB, hpB, hmB⟩ := test_law (q := qB) (y0 := y0) (r := rB) (d := u0) (by omega) HN.out.ly0 HRB.out.rb HL2.out
            have HPB := Lib.hid hpB; clear hpB
            have HMB := Lib.hid hmB; clear hmB
            clear gB
            by_cases fB : mB < pB
            · have sB : decide (mB < pB) = true := decide_eq_true fB
              have hoB := dig_over HN.out.eY2 HL2.out HU2.out HRB.out (Or.inr (by rw [← HPB.out, ← HMB.out]; exact fB))
              clear fB
              obtain ⟨kB, r2B, wkB, wr2B, hkB, hr2B⟩ := less_law (q := qB) (r := rB) (y1 := y1) (by have := hoB; generalize (u21 * 4294967296 + u0) / Y = z at this; omega) HRB.out.qb HRB.out.rb HN.out.ly1
              have HOB := Lib.hid hoB; clear hoB
              have HKB := Lib.hid hkB; clear hkB
              have HR2B := Lib.hid hr2B; clear hr2B
              by_cases eB : 4294967296 ≤ r2B
              · have cB : decide ((4294967296 : Int) ≤ (r2B : Int)) = true := decide_eq_true (by omega)
                have HQB : Hid (kB = (u21 * 4294967296 + u0) / Y) := Lib.hid (by have h2 := HR2B.out; rw [HKB.out]; exact dig_break HN.out.eY2 HN.out.ly0 HU2.out HRB.out HOB.out (by omega))
                clear eB
                obtain ⟨b1, b2, b3, rm, wb1, wb2, wb3, wb4, hrm⟩ := sub_law (u := u21) (d := u0) (Y := Y) (Q := kB) (by have := HU1.out; omega) HN.out.lY HQB.out
                obtain ⟨c1, c2, c3, wc1, wc2, wc3, hc2, hc3⟩ := end_law (q1 := kA) (q0 := kB) (c := rm) (s := s) (by rw [HQA.out]; exact dig_lt HU1.out HL1.out) (by rw [HQB.out]; exact dig_lt HU2.out HL2.out)
                have HM2 := Lib.hid hrm; clear hrm
                have HC2 := Lib.hid hc2; clear hc2
                have HC3 := Lib.hid hc3; clear hc3
                go_wp2
                have HT := dig_two (by have := HH.out; omega) HN.out.eY HN.out.eu HN.out.ev HQA.out H21.out HQB.out
                rw [← HC2.out, ← HM2.out, ← HC3.out] at HT
                have HT1 := Lib.hid HT.1; have HT2 := Lib.hid HT.2; clear HT
                go_ret2
                exact ⟨by rw [cast_div HT1.out, cast_mod HT2.out]; rfl, 0, rfl⟩
              · have cB : decide ((4294967296 : Int) ≤ (r2B : Int)) = false := decide_eq_false (by omega)
                have HXB : Hid (Dig u21 u0 Y y1 kB r2B) := Lib.hid (by have h2 := HR2B.out; rw [HKB.out, HR2B.out]; exact dig_less HRB.out HOB.out (by omega))
                have hltB : kB < qB := by have h2 := HKB.out; have h3 := HOB.out; generalize (u21 * 4294967296 + u0) / Y = z at h3; omega
                clear eB
                go_wp2
                go_round
                case rel => exact ⟨kB, r2B, rfl, rfl, HXB⟩
                case measure => simp [intOf]; omega
            · have sB : decide (mB < pB) = false := decide_eq_false fB
              have HQB : Hid (qB = (u21 * 4294967296 + u0) / Y) := Lib.hid (dig_test HN.out.eY2 HU2.out HRB.out (by rw [← HPB.out, ← HMB.out]; omega))
              clear fB
              obtain ⟨b1, b2, b3, rm, wb1, wb2, wb3, wb4, hrm⟩ := sub_law (u := u21) (d := u0) (Y := Y) (Q := qB) (by have := HU1.out; omega) HN.out.lY HQB.out
              obtain ⟨c1, c2, c3, wc1, wc2, wc3, hc2, hc3⟩ := end_law (q1 := kA) (q0 := qB) (c := rm) (s := s) (by rw [HQA.out]; exact dig_lt HU1.out HL1.out) (by rw [HQB.out]; exact dig_lt HU2.out HL2.out)
              have HM2 := Lib.hid hrm; clear hrm
              have HC2 := Lib.hid hc2; clear hc2
              have HC3 := Lib.hid hc3; clear hc3
              go_wp2
              have HT := dig_two (by have := HH.out; omega) HN.out.eY HN.out.eu HN.out.ev HQA.out H21.out HQB.out
              rw [← HC2.out, ← HM2.out, ← HC3.out] at HT
              have HT1 := Lib.hid HT.1; have HT2 := Lib.hid HT.2; clear HT
              go_ret2
              exact ⟨by rw [cast_div HT1.out, cast_mod HT2.out]; rfl, 0, rfl⟩
      · have cA : decide ((4294967296 : Int) ≤ (r2A : Int)) = false := decide_eq_false (by omega)
        have HXA : Hid (Dig u u1 Y y1 kA r2A) := Lib.hid (by have h2 := HR2A.out; rw [HKA.out, HR2A.out]; exact dig_less HRA.out HOA.out (by omega))
        have hltA : kA < qA := by have h2 := HKA.out; have h3 := HOA.out; generalize (u * 4294967296 + u1) / Y = z at h3; omega
        clear eA
        go_wp2
        go_round
        case rel => exact ⟨kA, r2A, rfl, rfl, HXA⟩
        case measure => simp [intOf]; omega
    · have tA : decide ((4294967296 : Int) ≤ (qA : Int)) = false := decide_eq_false (by omega)
      obtain ⟨pA, lA, mA, wpA, wlA, wmA, hpA, hmA⟩ := test_law (q := qA) (y0 := y0) (r := rA) (d := u1) (by omega) HN.out.ly0 HRA.out.rb HL1.out
      have HPA := Lib.hid hpA; clear hpA
      have HMA := Lib.hid hmA; clear hmA
      clear gA
      by_cases fA : mA < pA
      · have sA : decide (mA < pA) = true := decide_eq_true fA
        have hoA := dig_over HN.out.eY2 HL1.out HU1.out HRA.out (Or.inr (by rw [← HPA.out, ← HMA.out]; exact fA))
        clear fA
        obtain ⟨kA, r2A, wkA, wr2A, hkA, hr2A⟩ := less_law (q := qA) (r := rA) (y1 := y1) (by have := hoA; generalize (u * 4294967296 + u1) / Y = z at this; omega) HRA.out.qb HRA.out.rb HN.out.ly1
        have HOA := Lib.hid hoA; clear hoA
        have HKA := Lib.hid hkA; clear hkA
        have HR2A := Lib.hid hr2A; clear hr2A
        by_cases eA : 4294967296 ≤ r2A
        · have cA : decide ((4294967296 : Int) ≤ (r2A : Int)) = true := decide_eq_true (by omega)
          have HQA : Hid (kA = (u * 4294967296 + u1) / Y) := Lib.hid (by have h2 := HR2A.out; rw [HKA.out]; exact dig_break HN.out.eY2 HN.out.ly0 HU1.out HRA.out HOA.out (by omega))
          clear eA
          obtain ⟨a1, a2, a3, u21, wa1, wa2, wa3, wa4, h21⟩ := sub_law (u := u) (d := u1) (Y := Y) (Q := kA) (by have := HU1.out; omega) HN.out.lY HQA.out
          have hu21 : u21 < Y := by rw [h21]; exact Nat.mod_lt _ (by have := HU1.out; omega)
          obtain ⟨qt, at_, rt, wqt, wat, wrt, hqt, hrt⟩ := quo_law (u := u21) (y1 := y1) (by have := HN.out.by1; omega) (by have := HN.out.lY; omega)
          have HU2 := Lib.hid hu21
          have HD2 : Hid (Dig u21 u0 Y y1 qt rt) := Lib.hid (by rw [hqt, hrt]; exact dig_start HN.out.eY2 HN.out.ly0 HN.out.by1 HN.out.ly1 hu21 HN.out.lu0)
          have H21 := Lib.hid h21; clear h21 hu21 hqt hrt
          go_wp2
          go_loop [18, 16] (fun a b => ∃ q r : Nat, a = .int .u64 q ∧ b = .int .u64 r ∧ Hid (Dig u21 u0 Y y1 q r)) (fun a _ => (intOf a).toNat)
          case atStart => exact ⟨_, _, rfl, rfl, HD2⟩
          case round =>
            obtain ⟨qB, rB, rfl, rfl, HRB⟩ := hrel
            clear HD2
            by_cases gB : 4294967296 ≤ qB
            · have tB : decide ((4294967296 : Int) ≤ (qB : Int)) = true := decide_eq_true (by omega)
              have hoB := dig_over HN.out.eY2 HL2.out HU2.out HRB.out (Or.inl gB)
              clear gB
              obtain ⟨kB, r2B, wkB, wr2B, hkB, hr2B⟩ := less_law (q := qB) (r := rB) (y1 := y1) (by have := hoB; generalize (u21 * 4294967296 + u0) / Y = z at this; omega) HRB.out.qb HRB.out.rb HN.out.ly1
              have HOB := Lib.hid hoB; clear hoB
              have HKB := Lib.hid hkB; clear hkB
              have HR2B := Lib.hid hr2B; clear hr2B
              by_cases eB : 4294967296 ≤ r2B
              · have cB : decide ((4294967296 : Int) ≤ (r2B : Int)) = true := decide_eq_true (by omega)
                have HQB : Hid (kB = (u21 * 4294967296 + u0) / Y) := Lib.hid (by have h2 := HR2B.out; rw [HKB.out]; exact dig_break HN.out.eY2 HN.out.ly0 HU2.out HRB.out HOB.out (by omega))
                clear eB
                obtain ⟨b1, b2, b3, rm, wb1, wb2, wb3, wb4, hrm⟩ := sub_law (u := u21) (d := u0) (Y := Y) (Q := kB) (by have := HU1.out; omega) HN.out.lY HQB.out
                obtain ⟨c1, c2, c3, wc1, wc2, wc3, hc2, hc3⟩ := end_law (q1 := kA) (q0 := kB) (c := rm) (s := s) (by rw [HQA.out]; exact dig_lt HU1.out HL1.out) (by rw [HQB.out]; exact dig_lt HU2.out HL2.out)
                have HM2 := Lib.hid hrm; clear hrm
                have HC2 := Lib.hid hc2; clear hc2
                have HC3 := Lib.hid hc3; clear hc3
                go_wp2
                have HT := dig_two (by have := HH.out; omega) HN.out.eY HN.out.eu HN.out.ev HQA.out H21.out HQB.out
                rw [← HC2.out, ← HM2.out, ← HC3.out] at HT
                have HT1 := Lib.hid HT.1; have HT2 := Lib.hid HT.2; clear HT
                go_ret2
                exact ⟨by rw [cast_div HT1.out, cast_mod HT2.out]; rfl, 0, rfl⟩
              · have cB : decide ((4294967296 : Int) ≤ (r2B : Int)) = false := decide_eq_false (by omega)
                have HXB : Hid (Dig u21 u0 Y y1 kB r2B) := Lib.hid (by have h2 := HR2B.out; rw [HKB.out, HR2B.out]; exact dig_less HRB.out HOB.out (by omega))
                have hltB : kB < qB := by have h2 := HKB.out; have h3 := HOB.out; generalize (u21 * 4294967296 + u0) / Y = z at h3; omega
                clear eB
                go_wp2
                go_round
                case rel => exact ⟨kB, r2B, rfl, rfl, HXB⟩
                case measure => simp [intOf]; omega
            · have tB : decide ((4294967296 : Int) ≤ (qB : Int)) = false := decide_eq_false (by omega)
              obtain ⟨pB, lB, mB, wpB, wlB, wmB, hpB, hmB⟩ := test_law (q := qB) (y0 := y0) (r := rB) (d := u0) (by omega) HN.out.ly0 HRB.out.rb HL2.out
              have HPB := Lib.hid hpB; clear hpB
              have HMB := Lib.hid hmB; clear hmB
              clear gB
              by_cases fB : mB < pB
              · have sB : decide (mB < pB) = true := decide_eq_true fB
                have hoB := dig_over HN.out.eY2 HL2.out HU2.out HRB.out (Or.inr (by rw [← HPB.out, ← HMB.out]; exact fB))
                clear fB
                obtain ⟨kB, r2B, wkB, wr2B, hkB, hr2B⟩ := less_law (q := qB) (r := rB) (y1 := y1) (by have := hoB; generalize (u21 * 4294967296 + u0) / Y = z at this; omega) HRB.out.qb HRB.out.rb HN.out.ly1
                have HOB := Lib.hid hoB; clear hoB
                have HKB := Lib.hid hkB; clear hkB
                have HR2B := Lib.hid hr2B; clear hr2B
                by_cases eB : 4294967296 ≤ r2B
                · have cB : decide ((4294967296 : Int) ≤ (r2B : Int)) = true := decide_eq_true (by omega)
                  have HQB : Hid (kB = (u21 * 4294967296 + u0) / Y) := Lib.hid (by have h2 := HR2B.out; rw [HKB.out]; exact dig_break HN.out.eY2 HN.out.ly0 HU2.out HRB.out HOB.out (by omega))
                  clear eB
                  obtain ⟨b1, b2, b3, rm, wb1, wb2, wb3, wb4, hrm⟩ := sub_law (u := u21) (d := u0) (Y := Y) (Q := kB) (by have := HU1.out; omega) HN.out.lY HQB.out
                  obtain ⟨c1, c2, c3, wc1, wc2, wc3, hc2, hc3⟩ := end_law (q1 := kA) (q0 := kB) (c := rm) (s := s) (by rw [HQA.out]; exact dig_lt HU1.out HL1.out) (by rw [HQB.out]; exact dig_lt HU2.out HL2.out)
                  have HM2 := Lib.hid hrm; clear hrm
                  have HC2 := Lib.hid hc2; clear hc2
                  have HC3 := Lib.hid hc3; clear hc3
                  go_wp2
                  have HT := dig_two (by have := HH.out; omega) HN.out.eY HN.out.eu HN.out.ev HQA.out H21.out HQB.out
                  rw [← HC2.out, ← HM2.out, ← HC3.out] at HT
                  have HT1 := Lib.hid HT.1; have HT2 := Lib.hid HT.2; clear HT
                  go_ret2
                  exact ⟨by rw [cast_div HT1.out, cast_mod HT2.out]; rfl, 0, rfl⟩
                · have cB : decide ((4294967296 : Int) ≤ (r2B : Int)) = false := decide_eq_false (by omega)
                  have HXB : Hid (Dig u21 u0 Y y1 kB r2B) := Lib.hid (by have h2 := HR2B.out; rw [HKB.out, HR2B.out]; exact dig_less HRB.out HOB.out (by omega))
                  have hltB : kB < qB := by have h2 := HKB.out; have h3 := HOB.out; generalize (u21 * 4294967296 + u0) / Y = z at h3; omega
                  clear eB
                  go_wp2
                  go_round
                  case rel => exact ⟨kB, r2B, rfl, rfl, HXB⟩
                  case measure => simp [intOf]; omega
              · have sB : decide (mB < pB) = false := decide_eq_false fB
                have HQB : Hid (qB = (u21 * 4294967296 + u0) / Y) := Lib.hid (dig_test HN.out.eY2 HU2.out HRB.out (by rw [← HPB.out, ← HMB.out]; omega))
                clear fB
                obtain ⟨b1, b2, b3, rm, wb1, wb2, wb3, wb4, hrm⟩ := sub_law (u := u21) (d := u0) (Y := Y) (Q := qB) (by have := HU1.out; omega) HN.out.lY HQB.out
                obtain ⟨c1, c2, c3, wc1, wc2, wc3, hc2, hc3⟩ := end_law (q1 := kA) (q0 := qB) (c := rm) (s := s) (by rw [HQA.out]; exact dig_lt HU1.out HL1.out) (by rw [HQB.out]; exact dig_lt HU2.out HL2.out)
                have HM2 := Lib.hid hrm; clear hrm
                have HC2 := Lib.hid hc2; clear hc2
                have HC3 := Lib.hid hc3; clear hc3
                go_wp2
                have HT := dig_two (by have := HH.out; omega) HN.out.eY HN.out.eu HN.out.ev HQA.out H21.out HQB.out
                rw [← HC2.out, ← HM2.out, ← HC3.out] at HT
                have HT1 := Lib.hid HT.1; have HT2 := Lib.hid HT.2; clear HT
                go_ret2
                exact ⟨by rw [cast_div HT1.out, cast_mod HT2.out]; rfl, 0, rfl⟩
        · have cA : decide ((4294967296 : Int) ≤ (r2A : Int)) = false := decide_eq_false (by omega)
          have HXA : Hid (Dig u u1 Y y1 kA r2A) := Lib.hid (by have h2 := HR2A.out; rw [HKA.out, HR2A.out]; exact dig_less HRA.out HOA.out (by omega))
          have hltA : kA < qA := by have h2 := HKA.out; have h3 := HOA.out; generalize (u * 4294967296 + u1) / Y = z at h3; omega
          clear eA
          go_wp2
          go_round
          case rel => exact ⟨kA, r2A, rfl, rfl, HXA⟩
          case measure => simp [intOf]; omega
      · have sA : decide (mA < pA) = false := decide_eq_false fA
        have HQA : Hid (qA = (u * 4294967296 + u1) / Y) := Lib.hid (dig_test HN.out.eY2 HU1.out HRA.out (by rw [← HPA.out, ← HMA.out]; omega))
        clear fA
        obtain ⟨a1, a2, a3, u21, wa1, wa2, wa3, wa4, h21⟩ := sub_law (u := u) (d := u1) (Y := Y) (Q := qA) (by have := HU1.out; omega) HN.out.lY HQA.out
        have hu21 : u21 < Y := by rw [h21]; exact Nat.mod_lt _ (by have := HU1.out; omega)
        obtain ⟨qt, at_, rt, wqt, wat, wrt, hqt, hrt⟩ := quo_law (u := u21) (y1 := y1) (by have := HN.out.by1; omega) (by have := HN.out.lY; omega)
        have HU2 := Lib.hid hu21
        have HD2 : Hid (Dig u21 u0 Y y1 qt rt) := Lib.hid (by rw [hqt, hrt]; exact dig_start HN.out.eY2 HN.out.ly0 HN.out.by1 HN.out.ly1 hu21 HN.out.lu0)
        have H21 := Lib.hid h21; clear h21 hu21 hqt hrt
        go_wp2
        go_loop [18, 16] (fun a b => ∃ q r : Nat, a = .int .u64 q ∧ b = .int .u64 r ∧ Hid (Dig u21 u0 Y y1 q r)) (fun a _ => (intOf a).toNat)
        case atStart => exact ⟨_, _, rfl, rfl, HD2⟩
        case round =>
          obtain ⟨qB, rB, rfl, rfl, HRB⟩ := hrel
          clear HD2
          by_cases gB : 4294967296 ≤ qB
          · have tB : decide ((4294967296 : Int) ≤ (qB : Int)) = true := decide_eq_true (by omega)
            have hoB := dig_over HN.out.eY2 HL2.out HU2.out HRB.out (Or.inl gB)
            clear gB
            obtain ⟨kB, r2B, wkB, wr2B, hkB, hr2B⟩ := less_law (q := qB) (r := rB) (y1 := y1) (by have := hoB; generalize (u21 * 4294967296 + u0) / Y = z at this; omega) HRB.out.qb HRB.out.rb HN.out.ly1
            have HOB := Lib.hid hoB; clear hoB
            have HKB := Lib.hid hkB; clear hkB
            have HR2B := Lib.hid hr2B; clear hr2B
            by_cases eB : 4294967296 ≤ r2B
            · have cB : decide ((4294967296 : Int) ≤ (r2B : Int)) = true := decide_eq_true (by omega)
              have HQB : Hid (kB = (u21 * 4294967296 + u0) / Y) := Lib.hid (by have h2 := HR2B.out; rw [HKB.out]; exact dig_break HN.out.eY2 HN.out.ly0 HU2.out HRB.out HOB.out (by omega))
              clear eB
              obtain ⟨b1, b2, b3, rm, wb1, wb2, wb3, wb4, hrm⟩ := sub_law (u := u21) (d := u0) (Y := Y) (Q := kB) (by have := HU1.out; omega) HN.out.lY HQB.out
              obtain ⟨c1, c2, c3, wc1, wc2, wc3, hc2, hc3⟩ := end_law (q1 := qA) (q0 := kB) (c := rm) (s := s) (by rw [HQA.out]; exact dig_lt HU1.out HL1.out) (by rw [HQB.out]; exact dig_lt HU2.out HL2.out)
              have HM2 := Lib.hid hrm; clear hrm
              have HC2 := Lib.hid hc2; clear hc2
              have HC3 := Lib.hid hc3; clear hc3
              go_wp2
              have HT := dig_two (by have := HH.out; omega) HN.out.eY HN.out.eu HN.out.ev HQA.out H21.out HQB.out
              rw [← HC2.out, ← HM2.out, ← HC3.out] at HT
              have HT1 := Lib.hid HT.1; have HT2 := Lib.hid HT.2; clear HT
              go_ret2
              exact ⟨by rw [cast_div HT1.out, cast_mod HT2.out]; rfl, 0, rfl⟩
            · have cB : decide ((4294967296 : Int) ≤ (r2B : Int)) = false := decide_eq_false (by omega)
              have HXB : Hid (Dig u21 u0 Y y1 kB r2B) := Lib.hid (by have h2 := HR2B.out; rw [HKB.out, HR2B.out]; exact dig_less HRB.out HOB.out (by omega))
              have hltB : kB < qB := by have h2 := HKB.out; have h3 := HOB.out; generalize (u21 * 4294967296 + u0) / Y = z at h3; omega
              clear eB
              go_wp2
              go_round
              case rel => exact ⟨kB, r2B, rfl, rfl, HXB⟩
              case measure => simp [intOf]; omega
          · have tB : decide ((4294967296 : Int) ≤ (qB : Int)) = false := decide_eq_false (by omega)
            obtain ⟨pB, lB, mB, wpB, wlB, wmB, hpB, hmB⟩ := test_law (q := qB) (y0 := y0) (r := rB) (d := u0) (by omega) HN.out.ly0 HRB.out.rb HL2.out
            have HPB := Lib.hid hpB; clear hpB
            have HMB := Lib.hid hmB; clear hmB
            clear gB
            by_cases fB : mB < pB
            · have sB : decide (mB < pB) = true := decide_eq_true fB
              have hoB := dig_over HN.out.eY2 HL2.out HU2.out HRB.out (Or.inr (by rw [← HPB.out, ← HMB.out]; exact fB))
              clear fB
              obtain ⟨kB, r2B, wkB, wr2B, hkB, hr2B⟩ := less_law (q := qB) (r := rB) (y1 := y1) (by have := hoB; generalize (u21 * 4294967296 + u0) / Y = z at this; omega) HRB.out.qb HRB.out.rb HN.out.ly1
              have HOB := Lib.hid hoB; clear hoB
              have HKB := Lib.hid hkB; clear hkB
              have HR2B := Lib.hid hr2B; clear hr2B
              by_cases eB : 4294967296 ≤ r2B
              · have cB : decide ((4294967296 : Int) ≤ (r2B : Int)) = true := decide_eq_true (by omega)
                have HQB : Hid (kB = (u21 * 4294967296 + u0) / Y) := Lib.hid (by have h2 := HR2B.out; rw [HKB.out]; exact dig_break HN.out.eY2 HN.out.ly0 HU2.out HRB.out HOB.out (by omega))
                clear eB
                obtain ⟨b1, b2, b3, rm, wb1, wb2, wb3, wb4, hrm⟩ := sub_law (u := u21) (d := u0) (Y := Y) (Q := kB) (by have := HU1.out; omega) HN.out.lY HQB.out
                obtain ⟨c1, c2, c3, wc1, wc2, wc3, hc2, hc3⟩ := end_law (q1 := qA) (q0 := kB) (c := rm) (s := s) (by rw [HQA.out]; exact dig_lt HU1.out HL1.out) (by rw [HQB.out]; exact dig_lt HU2.out HL2.out)
                have HM2 := Lib.hid hrm; clear hrm
                have HC2 := Lib.hid hc2; clear hc2
                have HC3 := Lib.hid hc3; clear hc3
                go_wp2
                have HT := dig_two (by have := HH.out; omega) HN.out.eY HN.out.eu HN.out.ev HQA.out H21.out HQB.out
                rw [← HC2.out, ← HM2.out, ← HC3.out] at HT
                have HT1 := Lib.hid HT.1; have HT2 := Lib.hid HT.2; clear HT
                go_ret2
                exact ⟨by rw [cast_div HT1.out, cast_mod HT2.out]; rfl, 0, rfl⟩
              · have cB : decide ((4294967296 : Int) ≤ (r2B : Int)) = false := decide_eq_false (by omega)
                have HXB : Hid (Dig u21 u0 Y y1 kB r2B) := Lib.hid (by have h2 := HR2B.out; rw [HKB.out, HR2B.out]; exact dig_less HRB.out HOB.out (by omega))
                have hltB : kB < qB := by have h2 := HKB.out; have h3 := HOB.out; generalize (u21 * 4294967296 + u0) / Y = z at h3; omega
                clear eB
                go_wp2
                go_round
                case rel => exact ⟨kB, r2B, rfl, rfl, HXB⟩
                case measure => simp [intOf]; omega
            · have sB : decide (mB < pB) = false := decide_eq_false fB
              have HQB : Hid (qB = (u21 * 4294967296 + u0) / Y) := Lib.hid (dig_test HN.out.eY2 HU2.out HRB.out (by rw [← HPB.out, ← HMB.out]; omega))
              clear fB
              obtain ⟨b1, b2, b3, rm, wb1, wb2, wb3, wb4, hrm⟩ := sub_law (u := u21) (d := u0) (Y := Y) (Q := qB) (by have := HU1.out; omega) HN.out.lY HQB.out
              obtain ⟨c1, c2, c3, wc1, wc2, wc3, hc2, hc3⟩ := end_law (q1 := qA) (q0 := qB) (c := rm) (s := s) (by rw [HQA.out]; exact dig_lt HU1.out HL1.out) (by rw [HQB.out]; exact dig_lt HU2.out HL2.out)
              have HM2 := Lib.hid hrm; clear hrm
              have HC2 := Lib.hid hc2; clear hc2
              have HC3 := Lib.hid hc3; clear hc3
              go_wp2
              have HT := dig_two (by have := HH.out; omega) HN.out.eY HN.out.eu HN.out.ev HQA.out H21.out HQB.out
              rw [← HC2.out, ← HM2.out, ← HC3.out] at HT
              have HT1 := Lib.hid HT.1; have HT2 := Lib.hid HT.2; clear HT
              go_ret2
              exact ⟨by rw [cast_div HT1.out, cast_mod HT2.out]; rfl, 0, rfl⟩

set_option maxRecDepth 100000 in
set_option maxHeartbeats 1000000 in
theorem div_any (hi lo y : Nat) (hh : hi < y) (hl : lo < 18446744073709551616) (hy : y < 18446744073709551616) (w : World) :
    Calls Tryd.prog 82 #[.int .u64 hi, .int .u64 lo, .int .u64 y] w fun e w' => e = .returned (.tuple #[.int .u64 ((hi * 18446744073709551616 + lo) / y : Nat), .int .u64 ((hi * 18446744073709551616 + lo) % y : Nat)]) ∧ ∃ n, w' = w.drewN n := by
  by_cases h0 : hi = 0
  · subst h0
    rw [Nat.zero_mul, Nat.zero_add]
    exact div_low lo y hh hl hy w
  · obtain ⟨s, t, Y, u, v, u1, u0, y1, y0, N⟩ := nrm hh hl hy
    exact div_big hi lo y s t Y u v u1 u0 y1 y0 hh h0 hl hy N w
end divW
end Go.Proofs.YtllbpanfhlbbgaaDoor
