namespace Go.Rt
/-- one digit of the long division: what its loop keeps -/
structure Dig (u d Y y1 q r : Nat) : Prop where
  sum : q * y1 + r = u
  hi : (u * 4294967296 + d) / Y ≤ q
  rb : r < 4294967296
  qb : q ≤ 4294967297

theorem dig_start {u d Y y1 y0 : Nat} (hY : Y = y1 * 4294967296 + y0) (h0 : y0 < 4294967296) (h1 : 2147483648 ≤ y1) (h2 : y1 < 4294967296) (hu : u < Y) (hd : d < 4294967296) : Dig u d Y y1 (u / y1) (u % y1) := by
  have e := Nat.div_add_mod u y1
  have l := Nat.mod_lt u (show 0 < y1 by omega)
  refine ⟨by rw [Nat.mul_comm]; exact e, ?_, by omega, ?_⟩
  · have h : (u * 4294967296 + d) / Y < u / y1 + 1 := by
      rw [Nat.div_lt_iff_lt_mul (by omega)]
      have a : (u / y1 + 1) * Y = (y1 * (u / y1) + y1) * 4294967296 + (u / y1 + 1) * y0 := by
        rw [hY, Nat.mul_add, Nat.add_mul, Nat.add_mul, Nat.add_mul, Nat.mul_comm (u / y1) (y1 * 4294967296), Nat.mul_right_comm]
        omega
      omega
    omega
  · have h : u / y1 < 4294967298 := by
      rw [Nat.div_lt_iff_lt_mul (by omega)]
      omega
    omega

theorem dig_over {u d Y y1 y0 q r : Nat} (hY : Y = y1 * 4294967296 + y0) (hd : d < 4294967296) (hu : u < Y) (h : Dig u d Y y1 q r)
    (ht : 4294967296 ≤ q ∨ 4294967296 * r + d < q * y0) : (u * 4294967296 + d) / Y + 1 ≤ q := by
  have hp : 0 < Y := by omega
  rcases ht with ht | ht
  · have : (u * 4294967296 + d) / Y < 4294967296 := by
      rw [Nat.div_lt_iff_lt_mul hp]
      omega
    omega
  · rw [Nat.add_one_le_iff, Nat.div_lt_iff_lt_mul hp]
    have e := h.sum
    have : q * Y = q * y1 * 4294967296 + q * y0 := by rw [hY, Nat.mul_add, Nat.mul_assoc]
    omega

theorem dig_less {u d Y y1 q r : Nat} (h : Dig u d Y y1 q r) (ho : (u * 4294967296 + d) / Y + 1 ≤ q) (hr : r + y1 < 4294967296) : Dig u d Y y1 (q - 1) (r + y1) := by
  obtain ⟨k, rfl⟩ : ∃ k, q = k + 1 := ⟨q - 1, by generalize (u * 4294967296 + d) / Y = z at ho; omega⟩
  have e := h.sum
  rw [Nat.add_mul] at e
  refine ⟨by simp only [Nat.add_sub_cancel]; omega, ?_, hr, by have := h.qb; omega⟩
  generalize (u * 4294967296 + d) / Y = z at ho ⊢
  omega

theorem dig_fin {u d Y y1 y0 q r : Nat} (hY : Y = y1 * 4294967296 + y0) (hu : u < Y) (hs : q * y1 + r = u) (hh : (u * 4294967296 + d) / Y ≤ q)
    (ht : q * y0 ≤ 4294967296 * r + d) : q = (u * 4294967296 + d) / Y := by
  have hp : 0 < Y := by omega
  refine Nat.le_antisymm ?_ hh
  rw [Nat.le_div_iff_mul_le hp]
  have : q * Y = q * y1 * 4294967296 + q * y0 := by rw [hY, Nat.mul_add, Nat.mul_assoc]
  omega

/-- the loop is left by its break -/
theorem dig_break {u d Y y1 y0 q r : Nat} (hY : Y = y1 * 4294967296 + y0) (h0 : y0 < 4294967296) (hu : u < Y) (h : Dig u d Y y1 q r) (ho : (u * 4294967296 + d) / Y + 1 ≤ q) (hr : 4294967296 ≤ r + y1) :
    q - 1 = (u * 4294967296 + d) / Y := by
  obtain ⟨k, rfl⟩ : ∃ k, q = k + 1 := ⟨q - 1, by generalize (u * 4294967296 + d) / Y = z at ho; omega⟩
  have e := h.sum
  rw [Nat.add_mul] at e
  have hk := h.qb
  have : k * y0 ≤ 4294967296 * y0 := Nat.mul_le_mul_right _ (by omega)
  refine dig_fin (r := r + y1) hY hu (by simp only [Nat.add_sub_cancel]; omega) ?_ (by simp only [Nat.add_sub_cancel]; omega)
  generalize (u * 4294967296 + d) / Y = z at ho ⊢
  omega

/-- the loop is left at its test -/
theorem dig_test {u d Y y1 y0 q r : Nat} (hY : Y = y1 * 4294967296 + y0) (hu : u < Y) (h : Dig u d Y y1 q r) (ht : q * y0 ≤ 4294967296 * r + d) : q = (u * 4294967296 + d) / Y :=
  dig_fin hY hu h.sum h.hi ht

set_option maxRecDepth 100000 in
/-- what is left behind a digit, as the code computes it -/
theorem dig_rest {u d Y q : Nat} (hp : 0 < Y) (hY : Y < 18446744073709551616) (hq : q = (u * 4294967296 + d) / Y) :
    ((u : Int) * 4294967296 + d - q * Y) % 18446744073709551616 = ((u * 4294967296 + d) % Y : Nat) := by
  have e := Nat.div_add_mod (u * 4294967296 + d) Y
  have l := Nat.mod_lt (u * 4294967296 + d) hp
  rw [← hq, Nat.mul_comm] at e
  generalize (u * 4294967296 + d) % Y = m at *
  rw [← Int.natCast_mul q Y]
  generalize q * Y = p at *
  omega

/-- two digits are the whole, to any base -/
theorem two_base {B W hi lo y s Y u32 un10 u1 u0 q1 q0 u21 : Nat} (hW : W = B * B) (hy : 0 < y) (hY : Y = y * 2 ^ s) (hu : u32 * W + un10 = (hi * W + lo) * 2 ^ s) (h10 : un10 = u1 * B + u0)
    (hq1 : q1 = (u32 * B + u1) / Y) (h21 : u21 = (u32 * B + u1) % Y) (hq0 : q0 = (u21 * B + u0) / Y) :
    q1 * B + q0 = (hi * W + lo) / y ∧ (u21 * B + u0) % Y / 2 ^ s = (hi * W + lo) % y := by
  have hs : 0 < 2 ^ s := Nat.two_pow_pos s
  have hp : 0 < Y := by rw [hY]; exact Nat.mul_pos hy hs
  have e1 := Nat.div_add_mod (u32 * B + u1) Y
  have e0 := Nat.div_add_mod (u21 * B + u0) Y
  have l0 := Nat.mod_lt (u21 * B + u0) hp
  rw [← hq1, ← h21] at e1
  rw [← hq0] at e0
  generalize (u21 * B + u0) % Y = R at *
  have tot : (hi * W + lo) * 2 ^ s = Y * (q1 * B + q0) + R := by
    rw [← hu, h10, hW]
    have : u32 * (B * B) + (u1 * B + u0) = (u32 * B + u1) * B + u0 := by grind
    rw [this, ← e1]
    have : (Y * q1 + u21) * B + u0 = Y * (q1 * B) + (u21 * B + u0) := by grind
    rw [this, ← e0]
    grind
  have dv : 2 ^ s ∣ R := by
    have h1 : 2 ^ s ∣ Y * (q1 * B + q0) + R := by rw [← tot]; exact Nat.dvd_mul_left _ _
    have h2 : 2 ^ s ∣ Y * (q1 * B + q0) := Nat.dvd_trans (by rw [hY]; exact Nat.dvd_mul_left _ _) (Nat.dvd_mul_right _ _)
    exact (Nat.dvd_add_right h2).mp h1
  obtain ⟨z, rfl⟩ := dv
  have tot2 : hi * W + lo = y * (q1 * B + q0) + z := by
    apply Nat.eq_of_mul_eq_mul_right hs
    rw [tot, hY, Nat.add_mul, Nat.mul_right_comm, Nat.mul_comm z]
  have zl : z < y := by
    rw [hY, Nat.mul_comm y] at l0
    exact Nat.lt_of_mul_lt_mul_left l0
  rw [tot2, Nat.mul_add_div hy, Nat.mul_add_mod, Nat.div_eq_of_lt zl, Nat.mod_eq_of_lt zl, Nat.mul_div_cancel_left _ hs]
  exact ⟨rfl, rfl⟩

theorem dig_two {hi lo y s Y u32 un10 u1 u0 q1 q0 u21 : Nat} (hy : 0 < y) (hY : Y = y * 2 ^ s) (hu : u32 * 18446744073709551616 + un10 = (hi * 18446744073709551616 + lo) * 2 ^ s) (h10 : un10 = u1 * 4294967296 + u0)
    (hq1 : q1 = (u32 * 4294967296 + u1) / Y) (h21 : u21 = (u32 * 4294967296 + u1) % Y) (hq0 : q0 = (u21 * 4294967296 + u0) / Y) :
    q1 * 4294967296 + q0 = (hi * 18446744073709551616 + lo) / y ∧ (u21 * 4294967296 + u0) % Y / 2 ^ s = (hi * 18446744073709551616 + lo) % y :=
  two_base (by decide) hy hY hu h10 hq1 h21 hq0

/-- the divisor's highest bit is moved up: what the dividend's two words are then -/
theorem norm_law {hi lo y s t : Nat} (hh : hi < y) (hl : lo < 2 ^ 64) (ht : s + t = 64) :
    lo / 2 ^ t < 2 ^ s ∧ hi * 2 ^ s + lo / 2 ^ t < y * 2 ^ s ∧ (hi * 2 ^ s + lo / 2 ^ t) * 2 ^ 64 + lo * 2 ^ s % 2 ^ 64 = (hi * 2 ^ 64 + lo) * 2 ^ s := by
  have e : 2 ^ 64 = 2 ^ t * 2 ^ s := by rw [← Nat.pow_add, Nat.add_comm t s, ht]
  have hs := Nat.two_pow_pos s
  have htp := Nat.two_pow_pos t
  have a : lo / 2 ^ t < 2 ^ s := by rw [Nat.div_lt_iff_lt_mul htp, Nat.mul_comm, ← e]; exact hl
  have b : lo * 2 ^ s / 2 ^ 64 = lo / 2 ^ t := by rw [e]; exact Nat.mul_div_mul_right _ _ hs
  refine ⟨a, ?_, ?_⟩
  · have : (hi + 1) * 2 ^ s ≤ y * 2 ^ s := Nat.mul_le_mul_right _ hh
    rw [Nat.add_mul, Nat.one_mul] at this
    omega
  · have d := Nat.div_add_mod (lo * 2 ^ s) (2 ^ 64)
    rw [b] at d
    generalize lo * 2 ^ s % 2 ^ 64 = m at *
    generalize lo / 2 ^ t = z at *
    generalize 2 ^ 64 = W at *
    grind

theorem norm_big {y s L : Nat} (h1 : 2 ^ (L - 1) ≤ y) (h2 : y < 2 ^ L) (hL : 1 ≤ L) (hs : 64 = L + s) : 2 ^ 63 ≤ y * 2 ^ s ∧ y * 2 ^ s < 2 ^ 64 := by
  have a : 2 ^ (L - 1) * 2 ^ s ≤ y * 2 ^ s := Nat.mul_le_mul_right _ h1
  have b : y * 2 ^ s < 2 ^ L * 2 ^ s := Nat.mul_lt_mul_of_pos_right h2 (Nat.two_pow_pos s)
  rw [← Nat.pow_add] at a b
  rw [show L - 1 + s = 63 by omega] at a
  rw [← hs] at b
  exact ⟨a, b⟩
end Go.Rt
