namespace Go.Nt
/-- the digits of a natural number to the base 2^32, the lowest first, the highest one not nought -/
def digs (n : Nat) : List Nat := if h : n = 0 then [] else (n % 4294967296) :: digs (n / 4294967296)
termination_by n
decreasing_by exact Nat.div_lt_self (Nat.pos_of_ne_zero h) (by decide)
/-- the number that a row of digits says -/
def val : List Nat → Nat
  | [] => 0
  | d :: l => d + 4294967296 * val l
theorem digs_zero : digs 0 = [] := by rw [digs]; simp
theorem digs_pos {n : Nat} (h : n ≠ 0) : digs n = (n % 4294967296) :: digs (n / 4294967296) := by rw [digs]; simp [h]
theorem val_digs (n : Nat) : val (digs n) = n := by
  induction n using Nat.strongRecOn with
  | ind n ih =>
    by_cases h : n = 0
    · subst h; rw [digs_zero]; rfl
    · rw [digs_pos h, val, ih _ (Nat.div_lt_self (Nat.pos_of_ne_zero h) (by decide))]
      omega
theorem digs_lt (n : Nat) : ∀ d ∈ digs n, d < 4294967296 := by
  induction n using Nat.strongRecOn with
  | ind n ih =>
    by_cases h : n = 0
    · subst h; rw [digs_zero]; intro d hd; cases hd
    · rw [digs_pos h]
      intro d hd
      rcases List.mem_cons.1 hd with rfl | h1
      · omega
      · exact ih _ (Nat.div_lt_self (Nat.pos_of_ne_zero h) (by decide)) d h1
theorem val_lt : ∀ (l : List Nat), (∀ d ∈ l, d < 4294967296) → val l < 4294967296 ^ l.length
  | [], _ => by simp [val]
  | d :: l, h => by
    have h1 := h d (List.mem_cons_self ..)
    have h2 := val_lt l (fun x hx => h x (List.mem_cons_of_mem _ hx))
    rw [val, List.length_cons, Nat.pow_succ, Nat.mul_comm _ 4294967296]
    omega
theorem digs_last (n : Nat) (h : n ≠ 0) : ∀ (hl : digs n ≠ []), (digs n).getLast hl ≠ 0 := by
  induction n using Nat.strongRecOn with
  | ind n ih =>
    intro hl
    by_cases h2 : n / 4294967296 = 0
    · have e : digs n = [n % 4294967296] := by rw [digs_pos h, h2, digs_zero]
      simp only [e, List.getLast_singleton]
      omega
    · have h3 : digs (n / 4294967296) ≠ [] := by rw [digs_pos h2]; simp
      have e : (digs n).getLast hl = (digs (n / 4294967296)).getLast h3 := by
        simp only [digs_pos h]
        rw [List.getLast_cons h3]
      rw [e]
      exact ih _ (Nat.div_lt_self (Nat.pos_of_ne_zero h) (by decide)) h2 h3
/-- a row of digits whose highest one is not nought is the number's digits -/
theorem digs_of : ∀ (l : List Nat), (∀ d ∈ l, d < 4294967296) → (∀ h : l ≠ [], l.getLast h ≠ 0) → digs (val l) = l
  | [], _, _ => by rw [val, digs_zero]
  | d :: l, h, hl => by
    have h1 := h d (List.mem_cons_self ..)
    have hrest : ∀ h : l ≠ [], l.getLast h ≠ 0 := by
      intro hn
      have := hl (by simp)
      rwa [List.getLast_cons hn] at this
    have ih := digs_of l (fun x hx => h x (List.mem_cons_of_mem _ hx)) hrest
    have hv : val (d :: l) ≠ 0 := by
      cases l with
      | nil =>
        have := hl (by simp)
        simp only [List.getLast_singleton] at this
        rw [val, val]; omega
      | cons x xs =>
        have h0 : val (x :: xs) ≠ 0 := by
          intro h0
          rw [h0, digs_zero] at ih
          cases ih
        rw [val]; omega
    rw [digs_pos hv, val]
    rw [show (d + 4294967296 * val l) % 4294967296 = d from by omega, show (d + 4294967296 * val l) / 4294967296 = val l from by omega, ih]
theorem val_append : ∀ (l m : List Nat), val (l ++ m) = val l + 4294967296 ^ l.length * val m
  | [], m => by simp [val]
  | d :: l, m => by
    rw [List.cons_append, val, val, val_append l m, List.length_cons, Nat.pow_succ, Nat.mul_add, ← Nat.mul_assoc, Nat.mul_comm (4294967296 ^ l.length) 4294967296]
    omega
theorem val_zero : ∀ (l : List Nat), (∀ d ∈ l, d = 0) → val l = 0
  | [], _ => rfl
  | d :: l, h => by
    rw [val, h d (List.mem_cons_self ..), val_zero l (fun x hx => h x (List.mem_cons_of_mem _ hx))]
/-- what trim answers -/
theorem trim_law {l : List Nat} {m : Nat} (hm : m ≤ l.length) (hlt : ∀ d ∈ l, d < 4294967296) (h0 : ∀ d ∈ l.drop m, d = 0) (hn : m = 0 ∨ ∃ d, l[m - 1]? = some d ∧ d ≠ 0) : l.take m = digs (val l) := by
  have e : val l = val (l.take m) := by
    have h1 : l = l.take m ++ l.drop m := (List.take_append_drop m l).symm
    have h2 := val_append (l.take m) (l.drop m)
    rw [← h1, val_zero _ h0, Nat.mul_zero, Nat.add_zero] at h2
    exact h2
  rw [e]
  refine (digs_of _ (fun d hd => hlt d (List.mem_of_mem_take hd)) ?_).symm
  intro hne
  rcases hn with rfl | ⟨d, hd, h2⟩
  · simp at hne
  · have hpos : 0 < m := by
      rcases Nat.eq_zero_or_pos m with h | h
      · subst h; simp at hne
      · exact h
    have hl : (l.take m).length = m := by rw [List.length_take]; omega
    have : (l.take m).getLast hne = d := by
      rw [List.getLast_eq_getElem]
      have hlt2 : m - 1 < l.length := by omega
      rw [List.getElem?_eq_getElem hlt2] at hd
      have : l[m - 1] = d := by simpa using hd
      rw [← this]
      simp [List.getElem_take, hl]
    rw [this]; exact h2
/-- the i-th digit -/
theorem digs_get (i : Nat) : ∀ n, (digs n).getD i 0 = n / 4294967296 ^ i % 4294967296 := by
  induction i with
  | zero =>
    intro n
    by_cases h : n = 0
    · subst h; rw [digs_zero]; simp
    · rw [digs_pos h]; simp
  | succ i ih =>
    intro n
    by_cases h : n = 0
    · subst h; rw [digs_zero]; simp
    · rw [digs_pos h]
      have := ih (n / 4294967296)
      rw [Nat.div_div_eq_div_mul, Nat.mul_comm, ← Nat.pow_succ] at this
      simpa using this
theorem digs_len (n : Nat) : n < 4294967296 ^ (digs n).length := by
  have := val_lt (digs n) (digs_lt n)
  rwa [val_digs] at this
theorem digs_len_le {n k : Nat} (h : n < 4294967296 ^ k) : (digs n).length ≤ k := by
  rcases Nat.lt_or_ge k (digs n).length with hlt | hge
  · exfalso
    have hn : n ≠ 0 := by intro h0; subst h0; rw [digs_zero] at hlt; simp at hlt
    have hne : digs n ≠ [] := by intro h0; rw [h0] at hlt; simp at hlt
    have hl := digs_last n hn hne
    have h1 := digs_get ((digs n).length - 1) n
    have h2 : (digs n).getD ((digs n).length - 1) 0 = (digs n).getLast hne := by
      rw [List.getLast_eq_getElem, List.getD_eq_getElem?_getD, List.getElem?_eq_getElem (by omega)]; rfl
    rw [h2] at h1
    have h3 : 4294967296 ^ k ≤ 4294967296 ^ ((digs n).length - 1) := Nat.pow_le_pow_right (by decide) (by omega)
    have h4 : n / 4294967296 ^ ((digs n).length - 1) = 0 := Nat.div_eq_of_lt (by omega)
    rw [h4] at h1
    exact hl (by rw [h1])
  · exact hge
theorem digs_len_iff (n k : Nat) : (digs n).length ≤ k ↔ n < 4294967296 ^ k :=
  ⟨fun h => Nat.lt_of_lt_of_le (digs_len n) (Nat.pow_le_pow_right (by decide) h), digs_len_le⟩
theorem digs_nil {n : Nat} : digs n = [] ↔ n = 0 := by
  constructor
  · intro h
    have := val_digs n
    rw [h] at this
    exact this.symm
  · rintro rfl; exact digs_zero
/-- k digits of a number, noughts behind -/
def rdigs (n k : Nat) : List Nat := (List.range k).map fun j => n / 4294967296 ^ j % 4294967296
theorem rdigs_len (n k : Nat) : (rdigs n k).length = k := by simp [rdigs]
theorem rdigs_succ (n k : Nat) : rdigs n (k + 1) = rdigs n k ++ [n / 4294967296 ^ k % 4294967296] := by
  unfold rdigs; rw [List.range_succ, List.map_append]; rfl
theorem rdigs_lt (n k : Nat) : ∀ d ∈ rdigs n k, d < 4294967296 := by
  intro d hd
  obtain ⟨j, _, rfl⟩ := List.mem_map.1 hd
  exact Nat.mod_lt _ (by decide)
theorem rdigs_val (n : Nat) : ∀ k, val (rdigs n k) = n % 4294967296 ^ k
  | 0 => by simp [rdigs, val, Nat.mod_one]
  | k + 1 => by
    rw [rdigs_succ, val_append, rdigs_val n k, rdigs_len, val, val, Nat.mul_zero, Nat.add_zero, Nat.pow_succ, Nat.mod_mul]
theorem rdigs_all {n k : Nat} (h : n < 4294967296 ^ k) : val (rdigs n k) = n := by rw [rdigs_val, Nat.mod_eq_of_lt h]
/-! ## plus -/
def carryP (a b k : Nat) : Nat := (a + b) / 4294967296 ^ k - a / 4294967296 ^ k - b / 4294967296 ^ k
theorem div_next (a k : Nat) : a / 4294967296 ^ k = 4294967296 * (a / 4294967296 ^ (k + 1)) + a / 4294967296 ^ k % 4294967296 := by
  rw [Nat.pow_succ, ← Nat.div_div_eq_div_mul]
  omega
theorem add_div_le (a b m : Nat) : a / m + b / m ≤ (a + b) / m := by
  rcases Nat.eq_zero_or_pos m with rfl | hm
  · simp
  · rw [Nat.le_div_iff_mul_le hm, Nat.add_mul]
    have h1 := Nat.div_mul_le_self a m
    have h2 := Nat.div_mul_le_self b m
    omega
theorem carryP_zero (a b : Nat) : carryP a b 0 = 0 := by unfold carryP; simp
theorem carryP_eq (a b k : Nat) : (a + b) / 4294967296 ^ k = a / 4294967296 ^ k + b / 4294967296 ^ k + carryP a b k := by
  have := add_div_le a b (4294967296 ^ k)
  unfold carryP
  omega
theorem carryP_step (a b k : Nat) : (a / 4294967296 ^ k % 4294967296 + b / 4294967296 ^ k % 4294967296 + carryP a b k) % 4294967296 = (a + b) / 4294967296 ^ k % 4294967296 ∧
    (a / 4294967296 ^ k % 4294967296 + b / 4294967296 ^ k % 4294967296 + carryP a b k) / 4294967296 = carryP a b (k + 1) := by
  have h1 := div_next a k
  have h2 := div_next b k
  have h3 := div_next (a + b) k
  have h4 := carryP_eq a b k
  have h5 := carryP_eq a b (k + 1)
  generalize a / 4294967296 ^ k = A at *
  generalize b / 4294967296 ^ k = B at *
  generalize (a + b) / 4294967296 ^ k = C at *
  generalize a / 4294967296 ^ (k + 1) = A1 at *
  generalize b / 4294967296 ^ (k + 1) = B1 at *
  generalize (a + b) / 4294967296 ^ (k + 1) = C1 at *
  generalize carryP a b k = c at *
  generalize carryP a b (k + 1) = c1 at *
  omega
theorem carryP_le (a b k : Nat) : carryP a b k ≤ 1 := by
  induction k with
  | zero => rw [carryP_zero]; omega
  | succ k ih => have := (carryP_step a b k).2; omega
/-! ## less -/
def borrowL (a b k : Nat) : Nat := if a % 4294967296 ^ k < b % 4294967296 ^ k then 1 else 0
theorem mod_next (a k : Nat) : a % 4294967296 ^ (k + 1) = a % 4294967296 ^ k + 4294967296 ^ k * (a / 4294967296 ^ k % 4294967296) := by
  rw [Nat.pow_succ, Nat.mod_mul]
theorem borrowL_zero (a b : Nat) : borrowL a b 0 = 0 := by unfold borrowL; simp [Nat.mod_one]
theorem borrowL_le (a b k : Nat) : borrowL a b k ≤ 1 := by unfold borrowL; split <;> omega
theorem sub_div {a b P : Nat} (hP : 0 < P) (h : b ≤ a) : (a - b) / P + b / P + (if a % P < b % P then 1 else 0) = a / P := by
  have h1 := Nat.div_add_mod a P
  have h2 := Nat.div_add_mod b P
  have h3 := Nat.mod_lt a hP
  have h4 := Nat.mod_lt b hP
  have h5 : b / P ≤ a / P := Nat.div_le_div_right h
  obtain ⟨D, hD⟩ : ∃ D, a / P = b / P + D := ⟨a / P - b / P, by omega⟩
  rw [hD, Nat.mul_add] at h1
  generalize a % P = r at *
  generalize b % P = s at *
  generalize P * (b / P) = y at *
  split
  · rename_i hlt
    have hD0 : D ≠ 0 := by intro h0; subst h0; omega
    obtain ⟨E, rfl⟩ : ∃ E, D = E + 1 := ⟨D - 1, by omega⟩
    have e : a - b = (P + r - s) + P * E := by rw [Nat.mul_add] at h1; omega
    rw [e, Nat.add_mul_div_left _ _ hP, Nat.div_eq_of_lt (by omega), hD]
    omega
  · have e : a - b = (r - s) + P * D := by omega
    rw [e, Nat.add_mul_div_left _ _ hP, Nat.div_eq_of_lt (by omega), hD]
    omega
theorem borrowL_step {a b : Nat} (h : b ≤ a) (k : Nat) : (4294967296 + a / 4294967296 ^ k % 4294967296 - b / 4294967296 ^ k % 4294967296 - borrowL a b k) % 4294967296 = (a - b) / 4294967296 ^ k % 4294967296 ∧
    1 - (4294967296 + a / 4294967296 ^ k % 4294967296 - b / 4294967296 ^ k % 4294967296 - borrowL a b k) / 4294967296 = borrowL a b (k + 1) := by
  have h1 := div_next a k
  have h2 := div_next b k
  have h3 := div_next (a - b) k
  have h4 := sub_div (P := 4294967296 ^ k) (Nat.pow_pos (by decide)) h
  have h5 := sub_div (P := 4294967296 ^ (k + 1)) (Nat.pow_pos (by decide)) h
  have l1 := borrowL_le a b k
  have l2 := borrowL_le a b (k + 1)
  have d1 : a / 4294967296 ^ k % 4294967296 < 4294967296 := Nat.mod_lt _ (by decide)
  have d2 : b / 4294967296 ^ k % 4294967296 < 4294967296 := Nat.mod_lt _ (by decide)
  have d3 : (a - b) / 4294967296 ^ k % 4294967296 < 4294967296 := Nat.mod_lt _ (by decide)
  change _ + borrowL a b k = _ at h4
  change _ + borrowL a b (k + 1) = _ at h5
  generalize a / 4294967296 ^ k % 4294967296 = da at *
  generalize b / 4294967296 ^ k % 4294967296 = db at *
  generalize (a - b) / 4294967296 ^ k % 4294967296 = dc at *
  generalize a / 4294967296 ^ k = A at *
  generalize b / 4294967296 ^ k = B at *
  generalize (a - b) / 4294967296 ^ k = C at *
  generalize a / 4294967296 ^ (k + 1) = A1 at *
  generalize b / 4294967296 ^ (k + 1) = B1 at *
  generalize (a - b) / 4294967296 ^ (k + 1) = C1 at *
  generalize borrowL a b k = c at *
  generalize borrowL a b (k + 1) = c1 at *
  omega
/-! ## a row written in place -/
theorem val_get : ∀ (l : List Nat) (i : Nat), (∀ d ∈ l, d < 4294967296) → l.getD i 0 = val l / 4294967296 ^ i % 4294967296
  | [], i, _ => by simp [val]
  | d :: l, 0, h => by
    have h1 := h d (List.mem_cons_self ..)
    simp only [List.getD_cons_zero, Nat.pow_zero, Nat.div_one, val]
    omega
  | d :: l, i + 1, h => by
    have h1 := h d (List.mem_cons_self ..)
    have := val_get l i (fun x hx => h x (List.mem_cons_of_mem _ hx))
    simp only [List.getD_cons_succ, val]
    rw [this, Nat.pow_succ, Nat.mul_comm _ 4294967296, ← Nat.div_div_eq_div_mul]
    congr 2
    omega
theorem val_high {l : List Nat} {m : Nat} (h : ∀ d ∈ l, d < 4294967296) (hv : val l < 4294967296 ^ m) {j : Nat} (hj : m ≤ j) : l.getD j 0 = 0 := by
  rw [val_get l j h, Nat.div_eq_of_lt (Nat.lt_of_lt_of_le hv (Nat.pow_le_pow_right (by decide) hj))]
theorem val_set : ∀ (l : List Nat) (p d : Nat), p < l.length → val (l.set p d) + l.getD p 0 * 4294967296 ^ p = val l + d * 4294967296 ^ p
  | [], p, d, h => absurd h (Nat.not_lt_zero _)
  | x :: l, 0, d, _ => by simp only [List.set_cons_zero, List.getD_cons_zero, Nat.pow_zero, Nat.mul_one, val]; omega
  | x :: l, p + 1, d, h => by
    have ih := val_set l p d (by simpa using h)
    simp only [List.set_cons_succ, List.getD_cons_succ, val, Nat.pow_succ]
    have e1 : l.getD p 0 * (4294967296 ^ p * 4294967296) = 4294967296 * (l.getD p 0 * 4294967296 ^ p) := by rw [← Nat.mul_assoc, Nat.mul_comm]
    have e2 : d * (4294967296 ^ p * 4294967296) = 4294967296 * (d * 4294967296 ^ p) := by rw [← Nat.mul_assoc, Nat.mul_comm]
    rw [e1, e2]
    omega
theorem set_lt {l : List Nat} (h : ∀ d ∈ l, d < 4294967296) {p d : Nat} (hd : d < 4294967296) : ∀ x ∈ l.set p d, x < 4294967296 := by
  intro x hx
  rcases List.mem_or_eq_of_mem_set hx with h1 | rfl
  · exact h x h1
  · exact hd
/-- one step of the inner loop of a product -/
theorem times_in {V V' a b i k ai bk old c n d c' : Nat} (hset : V' + old * 4294967296 ^ (i + k) = V + d * 4294967296 ^ (i + k)) (hn : n = ai * bk + old + c) (hd : d = n % 4294967296) (hc : c' = n / 4294967296) (hbk : bk = b / 4294967296 ^ k % 4294967296)
    (h : V + c * 4294967296 ^ (i + k) = a * b + ai * (b % 4294967296 ^ k) * 4294967296 ^ i) : V' + c' * 4294967296 ^ (i + (k + 1)) = a * b + ai * (b % 4294967296 ^ (k + 1)) * 4294967296 ^ i := by
  have hm := mod_next b k
  rw [← hbk] at hm
  rw [hm]
  have hdn : d + c' * 4294967296 = n := by omega
  have e1 : 4294967296 ^ (i + (k + 1)) = 4294967296 * 4294967296 ^ (i + k) := by rw [← Nat.add_assoc, Nat.pow_succ, Nat.mul_comm]
  have e2 : ai * (b % 4294967296 ^ k + 4294967296 ^ k * bk) * 4294967296 ^ i = ai * (b % 4294967296 ^ k) * 4294967296 ^ i + (ai * bk) * 4294967296 ^ (i + k) := by
    rw [Nat.pow_add]; grind
  rw [e1, e2, ← Nat.add_assoc, ← h]
  generalize 4294967296 ^ (i + k) = P at *
  have e3 : c' * (4294967296 * P) + d * P = (ai * bk + old + c) * P := by rw [← hn, ← hdn]; grind
  grind
theorem times_out {V ai a0 a b i y c : Nat} (hai : ai = a0 / 4294967296 ^ i % 4294967296) (ha : a = a0 % 4294967296 ^ i) (hb : b < 4294967296 ^ y) (h : V + c * 4294967296 ^ (i + y) = a * b + ai * (b % 4294967296 ^ y) * 4294967296 ^ i) :
    V + c * 4294967296 ^ (i + y) = (a0 % 4294967296 ^ (i + 1)) * b := by
  rw [h, Nat.mod_eq_of_lt hb, mod_next a0 i, ← hai, ← ha]
  generalize 4294967296 ^ i = P
  grind
/-! ## divided, bit by bit -/
theorem half_next (a i : Nat) : a / 2 ^ i = 2 * (a / 2 ^ (i + 1)) + a / 2 ^ i % 2 := by
  rw [Nat.pow_succ, ← Nat.div_div_eq_div_mul]
  omega
theorem div_step {a b i r Q bit : Nat} (hb : 0 < b) (hr : r = a / 2 ^ (i + 1) % b) (hQ : Q = a / 2 ^ (i + 1) / b) (hbit : bit = a / 2 ^ i % 2) :
    (b ≤ 2 * r + bit → a / 2 ^ i % b = 2 * r + bit - b ∧ a / 2 ^ i / b = 2 * Q + 1) ∧ (2 * r + bit < b → a / 2 ^ i % b = 2 * r + bit ∧ a / 2 ^ i / b = 2 * Q) := by
  have h1 := half_next a i
  rw [← hbit] at h1
  have h2 := Nat.div_add_mod (a / 2 ^ (i + 1)) b
  rw [← hr, ← hQ] at h2
  have h3 : r < b := by rw [hr]; exact Nat.mod_lt _ hb
  have h4 : bit < 2 := by rw [hbit]; exact Nat.mod_lt _ (by decide)
  rw [← h2] at h1
  rw [h1]
  refine ⟨fun h => ?_, fun h => ?_⟩
  · have e : 2 * (b * Q + r) + bit = (2 * r + bit - b) + b * (2 * Q + 1) := by
      rw [Nat.mul_add, Nat.mul_add, Nat.mul_one]
      have : 2 * (b * Q) = b * (2 * Q) := by rw [← Nat.mul_assoc, Nat.mul_comm 2 b, Nat.mul_assoc]
      omega
    rw [e, Nat.add_mul_mod_self_left, Nat.mod_eq_of_lt (by omega), Nat.add_mul_div_left _ _ hb, Nat.div_eq_of_lt (by omega)]
    omega
  · have e : 2 * (b * Q + r) + bit = (2 * r + bit) + b * (2 * Q) := by
      have : 2 * (b * Q) = b * (2 * Q) := by rw [← Nat.mul_assoc, Nat.mul_comm 2 b, Nat.mul_assoc]
      omega
    rw [e, Nat.add_mul_mod_self_left, Nat.mod_eq_of_lt (by omega), Nat.add_mul_div_left _ _ hb, Nat.div_eq_of_lt (by omega)]
    omega
theorem pow_split (q s : Nat) : 4294967296 ^ q * 2 ^ s = 2 ^ (32 * q + s) := by
  rw [Nat.pow_add, Nat.pow_mul]
theorem bit_of (a i : Nat) : a / 4294967296 ^ (i / 32) % 4294967296 / 2 ^ (i % 32) % 2 = a / 2 ^ i % 2 := by
  have hs : i % 32 < 32 := Nat.mod_lt _ (by decide)
  have hi : 32 * (i / 32) + i % 32 = i := Nat.div_add_mod i 32
  have h1 : a / 2 ^ i = a / 4294967296 ^ (i / 32) / 2 ^ (i % 32) := by rw [Nat.div_div_eq_div_mul, pow_split, hi]
  rw [h1]
  generalize a / 4294967296 ^ (i / 32) = A
  generalize i % 32 = s at *
  have h2 : 4294967296 = 2 ^ s * (2 * 2 ^ (31 - s)) := by
    rw [show (4294967296 : Nat) = 2 ^ 32 from by decide, show 2 * 2 ^ (31 - s) = 2 ^ (32 - s) from by rw [show 32 - s = (31 - s) + 1 from by omega, Nat.pow_succ, Nat.mul_comm], ← Nat.pow_add]
    congr 1; omega
  rw [h2, Nat.mod_mul, Nat.add_mul_div_left _ _ (Nat.pow_pos (by decide)), Nat.div_eq_of_lt (Nat.mod_lt _ (Nat.pow_pos (by decide))), Nat.zero_add, Nat.mod_mul_right_mod]
theorem or_bit {d s : Nat} (h : d % 2 ^ (s + 1) = 0) : d ||| 2 ^ s = d + 2 ^ s := by
  have h1 := Nat.two_pow_add_eq_or_of_lt (i := s + 1) (b := 2 ^ s) (by rw [Nat.pow_succ]; have := Nat.pow_pos (n := s) (show 0 < 2 by decide); omega) (d / 2 ^ (s + 1))
  have h2 := Nat.div_add_mod d (2 ^ (s + 1))
  rw [h, Nat.add_zero] at h2
  rw [h2] at h1
  exact h1.symm
/-- the quotient's row: its bits from i + 1 on are there; the digit of bit i is divisible -/
theorem quo_digit {l : List Nat} {Q i : Nat} (hl : ∀ d ∈ l, d < 4294967296) (hv : val l = Q * 2 ^ (i + 1)) : l.getD (i / 32) 0 % 2 ^ (i % 32 + 1) = 0 := by
  rw [val_get l _ hl, hv]
  have hs : i % 32 < 32 := Nat.mod_lt _ (by decide)
  have hi : 32 * (i / 32) + i % 32 = i := Nat.div_add_mod i 32
  have e : Q * 2 ^ (i + 1) = 4294967296 ^ (i / 32) * (2 ^ (i % 32 + 1) * Q) := by
    rw [← Nat.mul_assoc, pow_split, show 32 * (i / 32) + (i % 32 + 1) = i + 1 from by omega, Nat.mul_comm]
  rw [e, Nat.mul_div_cancel_left _ (Nat.pow_pos (by decide))]
  generalize i % 32 = s at *
  have h2 : 4294967296 = 2 ^ (s + 1) * 2 ^ (31 - s) := by
    rw [← Nat.pow_add, show s + 1 + (31 - s) = 32 from by omega]
  rw [h2, Nat.mul_mod_mul_left, Nat.mul_mod_right]
theorem quo_set {V V' Q i d : Nat} (hset : V' + d * 4294967296 ^ (i / 32) = V + (d + 2 ^ (i % 32)) * 4294967296 ^ (i / 32)) (hv : V = Q * 2 ^ (i + 1)) : V' = (2 * Q + 1) * 2 ^ i := by
  have hi : 32 * (i / 32) + i % 32 = i := Nat.div_add_mod i 32
  have e : 2 ^ (i % 32) * 4294967296 ^ (i / 32) = 2 ^ i := by rw [Nat.mul_comm, pow_split, hi]
  rw [Nat.add_mul, e] at hset
  rw [Nat.pow_succ] at hv
  have : V' = V + 2 ^ i := by omega
  rw [this, hv]
  grind
end Go.Nt
