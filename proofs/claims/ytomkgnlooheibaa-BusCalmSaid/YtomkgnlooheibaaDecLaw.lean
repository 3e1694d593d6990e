/- Reading a frame's bits, as a function; it answers a frame just where the bits are that frame's. Plain. -/
import Derived.Test.YtomkgnlooheibaaNumLaw
namespace Go.Bus.decK
open Go.RowKit Go.Bus.bitK Go.Bus.crcLaw Go.Bus.numK
set_option linter.unusedVariables false
def seg (m : List Bool) (a n : Nat) : List Bool := (m.drop a).take n
def nb (m : List Bool) (a n : Nat) : Nat := numF (seg m a n)
def bytesF (m : List Bool) (a n : Nat) : List Int := (List.range n).map fun i => (nb m (a + 8 * i) 8 : Int)
/-- From the length on. -/
def tailF (m : List Bool) (id : Int) (wide : Bool) (a : Nat) : Except Nat (Int × Bool × List Int) :=
  if 8 < nb m a 4 then .error 15
  else if m.length - (a + 4) < 8 * nb m a 4 + 15 then .error 2
  else if 8 * nb m a 4 + 15 < m.length - (a + 4) then .error 3
  else if (nb m (a + 4 + 8 * nb m a 4) 15 : Int) ≠ crcS (m.take (a + 4 + 8 * nb m a 4)) then .error 23
  else .ok (id, wide, bytesF m (a + 4) (nb m a 4))
def decF (m : List Bool) : Except Nat (Int × Bool × List Int) :=
  if m.length < 14 then .error 2
  else if nb m 0 1 ≠ 0 ∨ nb m 12 1 ≠ nb m 13 1 then .error 4
  else if nb m 13 1 = 0 then
    if m.length - 14 < 5 then .error 2 else if nb m 14 1 ≠ 0 then .error 4 else tailF m (nb m 1 11) false 15
  else
    if m.length - 14 < 25 then .error 2 else if nb m 32 3 ≠ 0 then .error 4 else tailF m (nb m 1 11 * 262144 + nb m 14 18 : Nat) true 35

theorem bit_num (l : List Bool) : msb (numF l : Int) l.length = l := by
  have : ∀ (k : Nat) (l : List Bool), l.length = k → msb (numF l : Int) l.length = l := by
    intro k
    induction k with
    | zero => intro l h; obtain rfl := List.eq_nil_of_length_eq_zero h; rfl
    | succ k ih =>
      intro l h
      obtain ⟨r, b, rfl⟩ : ∃ r b, l = r ++ [b] := by
        rcases List.eq_nil_or_concat l with rfl | ⟨r, b, h⟩
        · simp at h
        · exact ⟨r, b, by simpa using h⟩
      have hr : r.length = k := by simpa using h
      have hi := ih r hr
      rw [hr] at hi
      rw [num_snoc, h]
      unfold msb
      rw [List.range_succ, List.map_append, List.map_cons, List.map_nil]
      have h1 : ((List.range k).map fun j => bitI ((stepNum (numF r) b : Nat) : Int) (k + 1 - 1 - j)) = r := by
        rw [← hi]
        unfold msb
        apply List.map_congr_left
        intro j hj
        rw [List.mem_range] at hj
        have e : k + 1 - 1 - j = (k - 1 - j) + 1 := by omega
        rw [e]
        have := hi
        unfold msb at this
        rw [this]
        unfold bitI
        rw [← rawK.cast_pow, ← rawK.cast_pow, ← Int.natCast_ediv, ← Int.natCast_ediv, Nat.pow_succ, Nat.mul_comm, ← Nat.div_div_eq_div_mul]
        have h2 : stepNum (numF r) b / 2 = numF r := by unfold stepNum; cases b <;> simp <;> omega
        rw [h2]
      have h3 : bitI ((stepNum (numF r) b : Nat) : Int) (k + 1 - 1 - k) = b := by
        have e : k + 1 - 1 - k = 0 := by omega
        rw [e]
        unfold bitI stepNum
        cases b <;> simp <;> omega
      rw [h1, h3]
  exact this _ l rfl
theorem seg_length {m : List Bool} {a n : Nat} (h : a + n ≤ m.length) : (seg m a n).length = n := by unfold seg; rw [List.length_take, List.length_drop]; omega
theorem seg_num {m : List Bool} {a n : Nat} (h : a + n ≤ m.length) : msb (nb m a n : Int) n = seg m a n := by
  have := bit_num (seg m a n)
  rw [seg_length h] at this
  exact this
theorem nb_lt {m : List Bool} {a n : Nat} (h : a + n ≤ m.length) : nb m a n < 2 ^ n := by
  have := num_lt (seg m a n)
  rw [seg_length h] at this
  exact this
theorem seg_add (m : List Bool) (a n k : Nat) : seg m a n ++ seg m (a + n) k = seg m a (n + k) := by
  unfold seg
  rw [List.take_add, List.drop_drop]
theorem seg_take (m : List Bool) (n : Nat) : seg m 0 n = m.take n := by simp [seg]
theorem seg_all {m : List Bool} {n : Nat} (h : n = m.length) : seg m 0 n = m := by rw [seg_take, List.take_of_length_le (by omega)]
theorem data_seg {m : List Bool} {a : Nat} : ∀ (n : Nat), a + 8 * n ≤ m.length → dataF (bytesF m a n) = seg m a (8 * n)
  | 0, _ => by simp [bytesF, dataF, seg]
  | n + 1, h => by
    have ih := data_seg (m := m) (a := a) n (by omega)
    unfold bytesF at ih ⊢
    rw [List.range_succ, List.map_append, List.map_cons, List.map_nil]
    unfold dataF at ih ⊢
    rw [List.flatMap_append, ih, List.flatMap_cons, List.flatMap_nil, List.append_nil, seg_num (by omega), seg_add]
    rfl
/-- What the tail answers stands in the bits. -/
theorem tail_only {m : List Bool} {id : Int} {wide : Bool} {a : Nat} {i : Int} {w : Bool} {l : List Int} (ha : a + 4 ≤ m.length) (h : tailF m id wide a = .ok (i, w, l)) :
    i = id ∧ w = wide ∧ l.length ≤ 8 ∧ (∀ x ∈ l, 0 ≤ x ∧ x < 256) ∧ m.take a ++ (msb l.length 4 ++ dataF l) = m.take (a + 4 + 8 * l.length) ∧ m = m.take (a + 4 + 8 * l.length) ++ msb (crcS (m.take (a + 4 + 8 * l.length))) 15 := by
  unfold tailF at h
  split at h
  · cases h
  rename_i h1
  split at h
  · cases h
  rename_i h2
  split at h
  · cases h
  rename_i h3
  split at h
  · cases h
  rename_i h4
  simp only [Except.ok.injEq, Prod.mk.injEq] at h
  obtain ⟨rfl, rfl, rfl⟩ := h
  have hl : (bytesF m (a + 4) (nb m a 4)).length = nb m a 4 := by simp [bytesF]
  have hlen : a + 4 + 8 * nb m a 4 + 15 = m.length := by omega
  refine ⟨rfl, rfl, by omega, ?_, ?_, ?_⟩
  · intro x hx
    unfold bytesF at hx
    rw [List.mem_map] at hx
    obtain ⟨k, hk, rfl⟩ := hx
    rw [List.mem_range] at hk
    have := nb_lt (m := m) (a := a + 4 + 8 * k) (n := 8) (by omega)
    omega
  · rw [hl, data_seg _ (by omega), seg_num (by omega), seg_add, ← seg_take, ← seg_take]
    have := seg_add m 0 a (4 + 8 * nb m a 4)
    rw [Nat.zero_add] at this
    rw [this]
    congr 1
    omega
  · rw [hl]
    have h5 : (nb m (a + 4 + 8 * nb m a 4) 15 : Int) = crcS (m.take (a + 4 + 8 * nb m a 4)) := by
      rcases Decidable.em ((nb m (a + 4 + 8 * nb m a 4) 15 : Int) = crcS (m.take (a + 4 + 8 * nb m a 4))) with h | h
      · exact h
      · exact absurd h h4
    rw [← h5, seg_num (by omega), ← seg_take]
    have := seg_add m 0 (a + 4 + 8 * nb m a 4) 15
    rw [Nat.zero_add] at this
    rw [this, seg_all hlen]
theorem one_bit {m : List Bool} {a : Nat} (h : a + 1 ≤ m.length) : nb m a 1 = 0 ∨ nb m a 1 = 1 := by have := nb_lt h; omega
theorem dec_only {m : List Bool} {i : Int} {w : Bool} {l : List Int} (h : decF m = .ok (i, w, l)) :
    l.length ≤ 8 ∧ (∀ x ∈ l, 0 ≤ x ∧ x < 256) ∧ 0 ≤ i ∧ i < (if w = true then 536870912 else 2048) ∧ m = bitsF i w l := by
  unfold decF at h
  split at h
  · cases h
  rename_i h1
  split at h
  · cases h
  rename_i h2
  have h2a : nb m 0 1 = 0 := by omega
  have h2b : nb m 12 1 = nb m 13 1 := by omega
  have s0 := seg_num (m := m) (a := 0) (n := 1) (by omega)
  have s1 := seg_num (m := m) (a := 1) (n := 11) (by omega)
  have s12 := seg_num (m := m) (a := 12) (n := 1) (by omega)
  have s13 := seg_num (m := m) (a := 13) (n := 1) (by omega)
  have b1 := nb_lt (m := m) (a := 1) (n := 11) (by omega)
  rw [h2a] at s0
  split at h
  · rename_i h3
    split at h
    · cases h
    rename_i h4
    split at h
    · cases h
    rename_i h5
    obtain ⟨rfl, rfl, hl, hb, e1, e2⟩ := tail_only (by omega) h
    refine ⟨hl, hb, by omega, by simp; omega, ?_⟩
    have h5a : nb m 14 1 = 0 := by omega
    have s14 := seg_num (m := m) (a := 14) (n := 1) (by omega)
    rw [h5a] at s14
    rw [h2b, h3] at s12
    rw [h3] at s13
    have hp : preF (nb m 1 11 : Int) false l = m.take (15 + 4 + 8 * l.length) := by
      rw [← e1]
      unfold preF headF
      simp only [Bool.false_eq_true, if_false]
      have hh : m.take 15 = [false] ++ (msb (nb m 1 11 : Int) 11 ++ msb 0 3) := by
        have z0 : msb ((0 : Nat) : Int) 1 = [false] := by decide
        have z3 : msb 0 3 = seg m 12 1 ++ (seg m 13 1 ++ seg m 14 1) := by rw [← s12, ← s13, ← s14]; decide
        rw [z3, seg_add, seg_add, s1, seg_add, ← z0, s0, seg_add, ← seg_take]
      rw [hh]
      simp only [List.append_assoc]
    unfold bitsF
    rw [hp]
    exact e2
  · rename_i h3
    have h3a : nb m 13 1 = 1 := by have := one_bit (m := m) (a := 13) (by omega); omega
    split at h
    · cases h
    rename_i h4
    split at h
    · cases h
    rename_i h5
    obtain ⟨rfl, rfl, hl, hb, e1, e2⟩ := tail_only (by omega) h
    have b2 := nb_lt (m := m) (a := 14) (n := 18) (by omega)
    have e18 : (2 : Nat) ^ 18 = 262144 := by decide
    have e11 : (2 : Nat) ^ 11 = 2048 := by decide
    rw [e18] at b2
    rw [e11] at b1
    refine ⟨hl, hb, by omega, by simp; omega, ?_⟩
    have h5a : nb m 32 3 = 0 := by omega
    have s32 := seg_num (m := m) (a := 32) (n := 3) (by omega)
    have s14 := seg_num (m := m) (a := 14) (n := 18) (by omega)
    rw [h5a] at s32
    rw [h2b, h3a] at s12
    rw [h3a] at s13
    have q1 : ((nb m 1 11 * 262144 + nb m 14 18 : Nat) : Int) / 262144 = (nb m 1 11 : Int) := by omega
    have q2 : msb ((nb m 1 11 * 262144 + nb m 14 18 : Nat) : Int) 18 = msb (nb m 14 18 : Int) 18 := by
      unfold msb
      apply List.map_congr_left
      intro j hj
      rw [List.mem_range] at hj
      unfold bitI
      rw [← rawK.cast_pow, ← Int.natCast_ediv, ← Int.natCast_ediv]
      have hk : ∃ r, 262144 = 2 ^ (18 - 1 - j) * (2 * r) := by
        refine ⟨2 ^ j, ?_⟩
        rw [show 2 ^ (18 - 1 - j) * (2 * 2 ^ j) = 2 ^ (18 - 1 - j) * 2 ^ (j + 1) from by rw [Nat.pow_succ, Nat.mul_comm 2], ← Nat.pow_add, show 18 - 1 - j + (j + 1) = 18 from by omega]
      obtain ⟨r, hr⟩ := hk
      have : (nb m 1 11 * 262144 + nb m 14 18) / 2 ^ (18 - 1 - j) % 2 = nb m 14 18 / 2 ^ (18 - 1 - j) % 2 := by
        rw [hr, show nb m 1 11 * (2 ^ (18 - 1 - j) * (2 * r)) = 2 ^ (18 - 1 - j) * (nb m 1 11 * (2 * r)) from by rw [← Nat.mul_assoc, Nat.mul_comm (nb m 1 11), Nat.mul_assoc], Nat.mul_add_div (Nat.two_pow_pos _)]
        have : nb m 1 11 * (2 * r) = 2 * (nb m 1 11 * r) := by rw [← Nat.mul_assoc, Nat.mul_comm (nb m 1 11) 2, Nat.mul_assoc]
        omega
      rw [Bool.eq_iff_iff]
      simp only [decide_eq_true_eq]
      omega
    have hp : preF ((nb m 1 11 * 262144 + nb m 14 18 : Nat) : Int) true l = m.take (35 + 4 + 8 * l.length) := by
      rw [← e1]
      unfold preF headF
      simp only [if_true]
      rw [q1, q2]
      have hh : m.take 35 = [false] ++ (msb (nb m 1 11 : Int) 11 ++ (msb 3 2 ++ (msb (nb m 14 18 : Int) 18 ++ msb 0 3))) := by
        have z0 : msb ((0 : Nat) : Int) 1 = [false] := by decide
        have z2 : msb 3 2 = seg m 12 1 ++ seg m 13 1 := by rw [← s12, ← s13]; decide
        have z3 : msb 0 3 = seg m 32 3 := by rw [← s32]; decide
        rw [z2, z3, s14, List.append_assoc, seg_add, seg_add, seg_add, s1, seg_add, ← z0, s0, seg_add, ← seg_take]
      rw [hh]
      simp only [List.append_assoc]
    unfold bitsF
    rw [hp]
    exact e2
end Go.Bus.decK
