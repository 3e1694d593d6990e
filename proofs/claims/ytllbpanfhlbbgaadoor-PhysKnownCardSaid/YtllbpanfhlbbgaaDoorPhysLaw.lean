/- What the layer phys answers, as plain numbers: there and back, and the nearest one. Plain. No condition. -/
import Derived.Test.YtllbpanfhlbbgaaDoorRatC
import Derived.Test.YtllbpanfhlbbgaaDoorDbData
import Derived.Test.YtllbpanfhlbbgaaDoorRawLaw
namespace Go.Proofs.YtllbpanfhlbbgaaDoor
open Go.RowKit Go.Bus Go.Rt Go.Bus.dbK Go.Bus.rawK
set_option linter.unusedVariables false
namespace ratW
theorem fitR_right {q : Rat} {n d : Int} (h : fitR q = some (n, d)) : rightB n d = true ∧ Q n d = q ∧ -9223372036854775808 ≤ n ∧ n < 9223372036854775808 ∧ 1 ≤ d ∧ d < 9223372036854775808 := by
  unfold fitR at h
  split at h
  · rename_i hb
    obtain ⟨rfl, rfl⟩ : q.num = n ∧ (q.den : Int) = d := by simpa using h
    have hp := q.den_pos
    refine ⟨?_, ?_, by omega, by omega, by omega, by omega⟩
    · unfold rightB
      rw [Int.toNat_natCast, Bool.and_eq_true, decide_eq_true_eq, beq_iff_eq]
      exact ⟨by omega, q.reduced⟩
    · unfold Q; exact Rat.num_divInt_den q
  · exact absurd h (by simp)
theorem fitR_of {n d : Int} (hr : rightB n d = true) (h1 : -9223372036854775808 ≤ n) (h2 : n < 9223372036854775808) (h3 : d < 9223372036854775808) : fitR (Q n d) = some (n, d) := by
  obtain ⟨p1, p2⟩ := right_no hr
  obtain ⟨k, rfl⟩ : ∃ k : Nat, d = k := ⟨d.toNat, by omega⟩
  rw [Int.toNat_natCast] at p2
  obtain ⟨e1, e2⟩ := rat_of (n := n) (d := k) (by omega) p2
  unfold fitR Q
  rw [e1, e2, if_pos (by omega)]
theorem right_one (n : Int) : rightB n 1 = true := by
  unfold rightB; simp
theorem Q_ne {n d : Int} (hr : rightB n d = true) (h : n ≠ 0) : Q n d ≠ 0 := by
  obtain ⟨p1, p2⟩ := right_no hr
  obtain ⟨k, rfl⟩ : ∃ k : Nat, d = k := ⟨d.toNat, by omega⟩
  rw [Int.toNat_natCast] at p2
  obtain ⟨e1, _⟩ := rat_of (n := n) (d := k) (by omega) p2
  intro h0
  unfold Q at h0
  rw [h0] at e1
  exact h e1.symm
theorem back_sub {p1n p1d on od n d : Int} (hp : fitR (Q p1n p1d + Q on od) = some (n, d)) (hr : rightB p1n p1d = true) (h1 : -9223372036854775808 ≤ p1n) (h2 : p1n < 9223372036854775808) (h3 : p1d < 9223372036854775808) :
    fitR (Q n d - Q on od) = some (p1n, p1d) := by
  obtain ⟨_, e, _⟩ := fitR_right hp
  rw [e, Rat.add_sub_cancel]
  exact fitR_of hr h1 h2 h3
theorem back_div {sn sd k p1n p1d : Int} (hs : rightB sn sd = true) (h0 : sn ≠ 0) (hm : fitR (Q sn sd * Q k 1) = some (p1n, p1d)) (h1 : -9223372036854775808 ≤ k) (h2 : k < 9223372036854775808) :
    fitR (Q p1n p1d / Q sn sd) = some (k, 1) := by
  obtain ⟨_, e, _⟩ := fitR_right hm
  rw [e, Rat.div_def, Rat.mul_comm (Q sn sd), Rat.mul_assoc, Rat.mul_inv_cancel _ (Q_ne hs h0), Rat.mul_one]
  exact fitR_of (right_one k) h1 h2 (by omega)
theorem rndZ_one (k : Int) : rndZ k 1 = k := by
  unfold rndZ rndN
  simp only [Int.toNat_one, Nat.mod_one, Nat.div_one, Nat.lt_irrefl, false_and, if_false]
  split <;> omega
theorem rndN_le (n d : Nat) (h : 0 < d) (hn : n ≤ 9223372036854775808) : rndN n d ≤ 9223372036854775808 ∧ (n < 9223372036854775808 → rndN n d < 9223372036854775808) := by
  unfold rndN
  rcases (by omega : d = 1 ∨ 2 ≤ d) with e | e
  · subst e; rw [if_neg (by omega), Nat.div_one]; omega
  · have h2 : n / d ≤ n / 2 := Nat.div_le_div_left e (by omega)
    split <;> omega
theorem rndZ_rng {n d : Int} (hd : 1 ≤ d) (h1 : -9223372036854775808 ≤ n) (h2 : n < 9223372036854775808) : -9223372036854775808 ≤ rndZ n d ∧ rndZ n d < 9223372036854775808 := by
  have := rndN_le n.natAbs d.toNat (by omega) (by omega)
  unfold rndZ
  split <;> omega
theorem rndZ_near {n : Int} {d : Nat} (hd : 0 < d) : rndZ n d = if (d : Int) - (n.tmod d).natAbs ≤ (n.tmod d).natAbs then n.tdiv d + (if n.tmod d < 0 then -1 else 1) else n.tdiv d := by
  unfold rndZ rndN
  rw [Int.toNat_natCast]
  rcases (by omega : n < 0 ∨ 0 ≤ n) with hn | hn
  · obtain ⟨m, rfl⟩ : ∃ m : Nat, n = -(m : Int) := ⟨n.natAbs, by omega⟩
    rw [if_pos hn, Int.neg_tmod, Int.neg_tdiv, ← Int.ofNat_tmod, ← Int.ofNat_tdiv, Int.natAbs_neg, Int.natAbs_neg, Int.natAbs_natCast, Int.natAbs_natCast]
    have hl := Nat.mod_lt m hd
    generalize m % d = r at *
    generalize m / d = q at *
    rcases (by omega : r = 0 ∨ 0 < r ∧ d - r ≤ r ∨ 0 < r ∧ r < d - r) with o | ⟨o, o'⟩ | ⟨o, o'⟩
    · rw [if_neg (by omega), if_neg (by omega)]
    · rw [if_pos ⟨o, o'⟩, if_pos (by omega), if_pos (by omega)]; omega
    · rw [if_neg (by omega), if_neg (by omega)]
  · obtain ⟨m, rfl⟩ : ∃ m : Nat, n = (m : Int) := ⟨n.natAbs, by omega⟩
    rw [if_neg (by omega), ← Int.ofNat_tmod, ← Int.ofNat_tdiv, Int.natAbs_natCast, Int.natAbs_natCast]
    have hl := Nat.mod_lt m hd
    generalize m % d = r at *
    generalize m / d = q at *
    rcases (by omega : r = 0 ∨ 0 < r ∧ d - r ≤ r ∨ 0 < r ∧ r < d - r) with o | ⟨o, o'⟩ | ⟨o, o'⟩
    · rw [if_neg (by omega), if_neg (by omega)]
    · rw [if_pos ⟨o, o'⟩, if_pos (by omega), if_neg (by omega)]; omega
    · rw [if_neg (by omega), if_neg (by omega)]
end ratW
namespace physW
open ratW
def lowB (an ad bn bd : Int) : Bool := rightB an ad && rightB bn bd && decide (an * bd < bn * ad)
def sgR (s : Sig) : Bool := rightB s.sn s.sd && rightB s.on s.od && rightB s.mn s.md && rightB s.xn s.xd
def rgE (s : Sig) : Int := if sgR s then (if s.sn = 0 then 10 else 0) else 1
def inB (s : Sig) (n d : Int) : Bool := if s.mn = 0 ∧ s.xn = 0 then true else !lowB n d s.mn s.md && !lowB s.xn s.xd n d
def hasB (s : Sig) (n : Int) : Bool := (s.sgn || decide (0 ≤ n)) && fitsB (n % 18446744073709551616) s.size s.sgn
/- what ToPhys comes to: the fraction, or which error -/
def toP (s : Sig) (v : Int) : Except Int (Int × Int) :=
  if rgE s ≠ 0 then .error (rgE s) else if fitsB v s.size s.sgn = false then .error 18 else if s.sgn = false ∧ 9223372036854775807 < v then .error 9 else
  match mulO s.sn s.sd (wrap64 v) 1 with
  | none => .error 9
  | some p => match sumO false p.1 p.2 s.on s.od with
    | none => .error 9
    | some r => if inB s r.1 r.2 then .ok r else .error 18
def toR (s : Sig) (n d : Int) : Except Int Int :=
  if rightB n d = false then .error 1 else if rgE s ≠ 0 then .error (rgE s) else if inB s n d = false then .error 18 else
  match sumO true n d s.on s.od with
  | none => .error 9
  | some q => match divO q.1 q.2 s.sn s.sd with
    | none => .error 9
    | some r => if hasB s (rndZ r.1 r.2) then .ok (rndZ r.1 r.2 % 18446744073709551616) else .error 18
theorem wrap_back {v : Int} (h0 : 0 ≤ v) (h1 : v < 18446744073709551616) : wrap64 v % 18446744073709551616 = v ∧ -9223372036854775808 ≤ wrap64 v ∧ wrap64 v < 9223372036854775808 := by unfold wrap64; omega
theorem wrap_back2 {n : Int} (h0 : -9223372036854775808 ≤ n) (h1 : n < 9223372036854775808) : wrap64 (n % 18446744073709551616) = n := by unfold wrap64; omega
theorem rg_no {s : Sig} (h : rgE s = 0) : sgR s = true ∧ s.sn ≠ 0 := by
  unfold rgE at h; split at h
  · split at h
    · omega
    · exact ⟨by assumption, by assumption⟩
  · omega
theorem phys_back {s : Sig} {v n d : Int} (h0 : 0 ≤ v) (h1 : v < 18446744073709551616) (h : toP s v = .ok (n, d)) : toR s n d = .ok v := by
  unfold toP at h
  split at h
  · exact absurd h (by simp)
  rename_i g1
  split at h
  · exact absurd h (by simp)
  rename_i g2
  split at h
  · exact absurd h (by simp)
  rename_i g3
  have g1' : rgE s = 0 := by omega
  obtain ⟨hs, hz⟩ := rg_no g1'
  have hs1 : rightB s.sn s.sd = true := by unfold sgR at hs; simp only [Bool.and_eq_true] at hs; exact hs.1.1.1
  obtain ⟨w1, w2, w3⟩ := wrap_back h0 h1
  split at h
  · exact absurd h (by simp)
  rename_i p hm
  split at h
  · exact absurd h (by simp)
  rename_i r ha
  split at h
  · rename_i hi
    obtain rfl : r = (n, d) := by simpa using h
    obtain ⟨pn, pd⟩ := p
    obtain ⟨m1, m2, m3, m4, m5, m6⟩ := fitR_right hm
    have hsub := back_sub (p1n := pn) (p1d := pd) (on := s.on) (od := s.od) ha m1 m3 m4 m6
    have hdiv := back_div hs1 hz hm w2 w3
    obtain ⟨r1, _⟩ := fitR_right ha
    unfold toR
    have hh : hasB s (wrap64 v) = true := by
      unfold hasB
      rw [w1]
      have : fitsB v s.size s.sgn = true := by simpa using g2
      rw [this, Bool.and_true]
      cases hg : s.sgn
      · have : v ≤ 9223372036854775807 := by have := g3; simp [hg] at this; omega
        simp only [Bool.false_or, decide_eq_true_eq]; unfold wrap64; omega
      · rfl
    have e1 : sumO true n d s.on s.od = some (pn, pd) := hsub
    have e2 : divO pn pd s.sn s.sd = some (wrap64 v, 1) := hdiv
    rw [if_neg (by rw [r1]; simp), if_neg (by omega), if_neg (by rw [hi]; simp), e1]
    simp only [e2, rndZ_one, hh, if_true, w1]
  · exact absurd h (by simp)
structure Near (s : Sig) (n d v : Int) (q r : Int × Int) : Prop where
  fit : fitsB v s.size s.sgn = true
  pos : s.sgn = false → v < 9223372036854775808
  sub : sumO true n d s.on s.od = some q
  dv : divO q.1 q.2 s.sn s.sd = some r
  num : wrap64 v = rndZ r.1 r.2
  den : 1 ≤ r.2
  bd : r.2 < 9223372036854775808
  b1 : -9223372036854775808 ≤ r.1
  b2 : r.1 < 9223372036854775808
  qr : rightB q.1 q.2 = true
  c1 : -9223372036854775808 ≤ q.1
  c2 : q.1 < 9223372036854775808
  c3 : q.2 < 9223372036854775808
  hr : rightB n d = true
  hs : sgR s = true
  hz : s.sn ≠ 0
  v0 : 0 ≤ v
  v1 : v < 18446744073709551616
theorem phys_near {s : Sig} {v n d : Int} (h : toR s n d = .ok v) : ∃ q r, Near s n d v q r := by
  unfold toR at h
  split at h
  · exact absurd h (by simp)
  rename_i g1
  split at h
  · exact absurd h (by simp)
  rename_i g2
  split at h
  · exact absurd h (by simp)
  rename_i g3
  have g2' : rgE s = 0 := by omega
  obtain ⟨hs, hz⟩ := rg_no g2'
  split at h
  · exact absurd h (by simp)
  rename_i q hq
  split at h
  · exact absurd h (by simp)
  rename_i r hr
  split at h
  · rename_i hh
    obtain rfl : rndZ r.1 r.2 % 18446744073709551616 = v := by simpa using h
    obtain ⟨q1, q2⟩ := q
    obtain ⟨r1, r2⟩ := r
    obtain ⟨m1, m2, m3, m4, m5, m6⟩ := fitR_right hq
    obtain ⟨k1, k2, k3, k4, k5, k6⟩ := fitR_right hr
    obtain ⟨z1, z2⟩ := rndZ_rng k5 k3 k4
    unfold hasB at hh
    rw [Bool.and_eq_true] at hh
    refine ⟨_, _, ⟨hh.2, ?_, hq, hr, wrap_back2 z1 z2, k5, k6, k3, k4, m1, m3, m4, m6, by simpa using g1, hs, hz, by omega, by omega⟩⟩
    intro hg
    have := hh.1
    rw [hg] at this
    simp only [Bool.false_or, decide_eq_true_eq] at this
    simp only at this ⊢
    omega
  · exact absurd h (by simp)
end physW
end Go.Proofs.YtllbpanfhlbbgaaDoor
