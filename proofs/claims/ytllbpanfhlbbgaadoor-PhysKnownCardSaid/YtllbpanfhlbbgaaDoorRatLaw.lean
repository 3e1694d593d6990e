namespace Go.Rt
def fitN (neg : Bool) (N D : Nat) : Option (Int × Int) :=
  if N = 0 then some (0, 1) else if D < 9223372036854775808 ∧ (N < 9223372036854775808 ∨ N = 9223372036854775808 ∧ neg = true) then some (if neg then -(N : Int) else N, (D : Int)) else none

def fitR (q : Rat) : Option (Int × Int) :=
  if q.den < 9223372036854775808 ∧ -9223372036854775808 ≤ q.num ∧ q.num < 9223372036854775808 then some (q.num, (q.den : Int)) else none

def sg (neg : Bool) (N : Nat) : Int := if neg then -(N : Int) else N

theorem sg_abs (neg N) : (sg neg N).natAbs = N := by unfold sg; split <;> omega

theorem rat_of {n : Int} {d : Nat} (h : 0 < d) (c : Nat.Coprime n.natAbs d) : (Rat.divInt n d).num = n ∧ (Rat.divInt n d).den = d := by
  have := Rat.mk_eq_divInt (num := n) (den := d) (nz := by omega) (c := c)
  rw [← this]
  exact ⟨rfl, rfl⟩

theorem fit_rat {neg : Bool} {N D : Nat} (h : 0 < D) (c : Nat.Coprime N D) : fitN neg N D = fitR (Rat.divInt (sg neg N) D) := by
  have c' : Nat.Coprime (sg neg N).natAbs D := by rw [sg_abs]; exact c
  obtain ⟨hn, hd⟩ := rat_of h c'
  unfold fitN fitR
  rw [hn, hd]
  unfold sg
  by_cases h0 : N = 0
  · subst h0
    have : D = 1 := by simpa [Nat.Coprime] using c
    subst this
    cases neg <;> simp
  · rw [if_neg h0]
    cases neg
    · simp only [Bool.false_eq_true, if_false, and_false, or_false]
      by_cases hb : D < 9223372036854775808 ∧ N < 9223372036854775808
      · rw [if_pos hb, if_pos (by omega)]
      · rw [if_neg hb, if_neg (by omega)]
    · simp only [if_true, and_true]
      by_cases hb : D < 9223372036854775808 ∧ N ≤ 9223372036854775808
      · rw [if_pos (by omega), if_pos (by omega)]
      · rw [if_neg (by omega), if_neg (by omega)]

/-- the product's terms are lowest -/
theorem prod_cop {an ad bn bd : Nat} (ha : 0 < ad) (hb : 0 < bd) (ca : Nat.Coprime an ad) (cb : Nat.Coprime bn bd) :
    Nat.Coprime ((an / Nat.gcd an bd) * (bn / Nat.gcd bn ad)) ((ad / Nat.gcd bn ad) * (bd / Nat.gcd an bd)) := by
  have g1 : 0 < Nat.gcd an bd := Nat.gcd_pos_of_pos_right _ hb
  have g2 : 0 < Nat.gcd bn ad := Nat.gcd_pos_of_pos_right _ ha
  have d1 : an / Nat.gcd an bd ∣ an := Nat.div_dvd_of_dvd (Nat.gcd_dvd_left _ _)
  have d2 : bd / Nat.gcd an bd ∣ bd := Nat.div_dvd_of_dvd (Nat.gcd_dvd_right _ _)
  have d3 : bn / Nat.gcd bn ad ∣ bn := Nat.div_dvd_of_dvd (Nat.gcd_dvd_left _ _)
  have d4 : ad / Nat.gcd bn ad ∣ ad := Nat.div_dvd_of_dvd (Nat.gcd_dvd_right _ _)
  refine Nat.Coprime.mul_left ?_ ?_
  · refine Nat.Coprime.mul_right ?_ (Nat.coprime_div_gcd_div_gcd g1)
    exact Nat.Coprime.coprime_dvd_left d1 (Nat.Coprime.coprime_dvd_right d4 ca)
  · refine Nat.Coprime.mul_right (Nat.coprime_div_gcd_div_gcd g2) ?_
    exact Nat.Coprime.coprime_dvd_left d3 (Nat.Coprime.coprime_dvd_right d2 cb)

theorem prod_cross {an ad bn bd : Nat} :
    ((an / Nat.gcd an bd) * (bn / Nat.gcd bn ad)) * (ad * bd) = (an * bn) * ((ad / Nat.gcd bn ad) * (bd / Nat.gcd an bd)) := by
  have e1 := Nat.div_mul_cancel (Nat.gcd_dvd_left an bd)
  have e2 := Nat.div_mul_cancel (Nat.gcd_dvd_right an bd)
  have e3 := Nat.div_mul_cancel (Nat.gcd_dvd_left bn ad)
  have e4 := Nat.div_mul_cancel (Nat.gcd_dvd_right bn ad)
  generalize an / Nat.gcd an bd = p at *
  generalize bd / Nat.gcd an bd = q at *
  generalize bn / Nat.gcd bn ad = r at *
  generalize ad / Nat.gcd bn ad = s at *
  generalize Nat.gcd an bd = g at *
  generalize Nat.gcd bn ad = k at *
  subst e1; subst e2; subst e3; subst e4
  grind

theorem prod_rat {neg : Bool} {an ad bn bd : Nat} (ha : 0 < ad) (hb : 0 < bd) (ca : Nat.Coprime an ad) (cb : Nat.Coprime bn bd) :
    fitN neg ((an / Nat.gcd an bd) * (bn / Nat.gcd bn ad)) ((ad / Nat.gcd bn ad) * (bd / Nat.gcd an bd)) = fitR (Rat.divInt (sg neg (an * bn)) ((ad * bd : Nat) : Int)) := by
  have hD : 0 < (ad / Nat.gcd bn ad) * (bd / Nat.gcd an bd) := Nat.mul_pos (Nat.div_pos (Nat.le_of_dvd ha (Nat.gcd_dvd_right _ _)) (Nat.gcd_pos_of_pos_right _ ha)) (Nat.div_pos (Nat.le_of_dvd hb (Nat.gcd_dvd_right _ _)) (Nat.gcd_pos_of_pos_right _ hb))
  rw [fit_rat hD (prod_cop ha hb ca cb)]
  congr 1
  have hc := prod_cross (an := an) (ad := ad) (bn := bn) (bd := bd)
  have hab : 0 < ad * bd := Nat.mul_pos ha hb
  generalize (an / Nat.gcd an bd) * (bn / Nat.gcd bn ad) = N at *
  generalize (ad / Nat.gcd bn ad) * (bd / Nat.gcd an bd) = D at *
  rw [Rat.divInt_eq_divInt_iff (by omega) (by omega)]
  have hc' : (N : Int) * ((ad * bd : Nat) : Int) = ((an * bn : Nat) : Int) * (D : Int) := by exact_mod_cast hc
  unfold sg
  cases neg
  · simpa using hc'
  · simp only [if_true]; rw [Int.neg_mul, Int.neg_mul, hc']

theorem sum_cop_aux {a : Int} {x y : Nat} {b : Int} (h1 : Nat.Coprime a.natAbs y) (h2 : Nat.Coprime x y) : Nat.Coprime (a * x + b * y).natAbs y := by
  have : Int.gcd (a * x + b * y) y = Int.gcd (a * x) y := by
    rw [Int.gcd_comm, Int.gcd_comm (a * x)]
    exact Int.gcd_add_mul_right_right _ _ _
  have h3 : Nat.Coprime (a.natAbs * x) y := Nat.Coprime.mul_left h1 h2
  have : Nat.gcd (a * x + b * y).natAbs y = Nat.gcd (a.natAbs * x) y := by
    have e := this
    unfold Int.gcd at e
    simpa [Int.natAbs_mul] using e
  unfold Nat.Coprime at *
  omega

theorem sum_cop {a b : Int} {ad bd : Nat} (ha : 0 < ad) (hb : 0 < bd) (ca : Nat.Coprime a.natAbs ad) (cb : Nat.Coprime b.natAbs bd) {g k : Nat} (hg : g = Nat.gcd ad bd) {T : Int} (hT : T = a * (bd / g : Nat) + b * (ad / g : Nat)) (hk : k = Nat.gcd g T.natAbs) :
    Nat.Coprime (T.natAbs / k) ((ad / g) * (bd / k)) := by
  subst hg
  have g0 : 0 < Nat.gcd ad bd := Nat.gcd_pos_of_pos_left _ ha
  have cxy : Nat.Coprime (bd / Nat.gcd ad bd) (ad / Nat.gcd ad bd) := (Nat.coprime_div_gcd_div_gcd g0).symm
  have dy : ad / Nat.gcd ad bd ∣ ad := Nat.div_dvd_of_dvd (Nat.gcd_dvd_left _ _)
  have dx : bd / Nat.gcd ad bd ∣ bd := Nat.div_dvd_of_dvd (Nat.gcd_dvd_right _ _)
  have cy : Nat.Coprime T.natAbs (ad / Nat.gcd ad bd) := by
    rw [hT]; exact sum_cop_aux (Nat.Coprime.coprime_dvd_right dy ca) cxy
  have cx : Nat.Coprime T.natAbs (bd / Nat.gcd ad bd) := by
    rw [hT, Int.add_comm]; exact sum_cop_aux (Nat.Coprime.coprime_dvd_right dx cb) cxy.symm
  have hkb : k = Nat.gcd T.natAbs bd := by
    have e : bd = (bd / Nat.gcd ad bd) * Nat.gcd ad bd := (Nat.div_mul_cancel (Nat.gcd_dvd_right _ _)).symm
    have e2 : Nat.gcd T.natAbs ((bd / Nat.gcd ad bd) * Nat.gcd ad bd) = Nat.gcd T.natAbs (Nat.gcd ad bd) := Nat.Coprime.gcd_mul_left_cancel_right _ cx.symm
    rw [← e] at e2
    rw [e2, hk, Nat.gcd_comm]
  have k0 : 0 < Nat.gcd T.natAbs bd := Nat.gcd_pos_of_pos_right _ hb
  have dT : T.natAbs / k ∣ T.natAbs := by rw [hkb]; exact Nat.div_dvd_of_dvd (Nat.gcd_dvd_left _ _)
  refine Nat.Coprime.mul_right (Nat.Coprime.coprime_dvd_left dT cy) ?_
  rw [hkb]
  exact Nat.coprime_div_gcd_div_gcd k0

theorem sum_rat {a b : Int} {ad bd : Nat} (ha : 0 < ad) (hb : 0 < bd) (ca : Nat.Coprime a.natAbs ad) (cb : Nat.Coprime b.natAbs bd) {g k : Nat} (hg : g = Nat.gcd ad bd) {T : Int} (hT : T = a * (bd / g : Nat) + b * (ad / g : Nat)) (hk : k = Nat.gcd g T.natAbs) {neg : Bool} (hn : sg neg T.natAbs = T) :
    fitN neg (T.natAbs / k) ((ad / g) * (bd / k)) = fitR (Rat.divInt a ad + Rat.divInt b bd) := by
  have g0 : 0 < g := by rw [hg]; exact Nat.gcd_pos_of_pos_left _ ha
  have k0 : 0 < k := by rw [hk]; exact Nat.gcd_pos_of_pos_left _ g0
  have gd1 : g ∣ ad := by rw [hg]; exact Nat.gcd_dvd_left _ _
  have gd2 : g ∣ bd := by rw [hg]; exact Nat.gcd_dvd_right _ _
  have kd : k ∣ bd := Nat.dvd_trans (by rw [hk]; exact Nat.gcd_dvd_left _ _) gd2
  have kT : k ∣ T.natAbs := by rw [hk]; exact Nat.gcd_dvd_right _ _
  have hD : 0 < (ad / g) * (bd / k) := Nat.mul_pos (Nat.div_pos (Nat.le_of_dvd ha gd1) g0) (Nat.div_pos (Nat.le_of_dvd hb kd) k0)
  rw [fit_rat hD (sum_cop ha hb ca cb hg hT hk), Rat.divInt_add_divInt _ _ (by omega) (by omega)]
  congr 1
  have hab : 0 < ad * bd := Nat.mul_pos ha hb
  have hab' : ((ad : Int) * bd) ≠ 0 := by have := hab; rw [← Int.natCast_mul]; omega
  rw [Rat.divInt_eq_divInt_iff (by omega) hab']
  have e1 := Nat.div_mul_cancel gd1
  have e2 := Nat.div_mul_cancel gd2
  have e3 := Nat.div_mul_cancel kd
  have e4 := Nat.div_mul_cancel kT
  have hs : (if neg then (-1 : Int) else 1) * (T.natAbs : Int) = T := by
    unfold sg at hn; cases neg <;> simp at hn ⊢ <;> omega
  have hs2 : sg neg (T.natAbs / k) = (if neg then (-1 : Int) else 1) * ((T.natAbs / k : Nat) : Int) := by
    unfold sg; cases neg <;> simp
  rw [hs2]
  generalize (if neg then (-1 : Int) else 1) = s at *
  generalize T.natAbs / k = t at *
  generalize bd / k = e at *
  have hT2 : T * (g : Int) = a * bd + b * ad := by
    rw [hT]
    have f1 : ((bd / g : Nat) : Int) * g = bd := by exact_mod_cast e2
    have f2 : ((ad / g : Nat) : Int) * g = ad := by exact_mod_cast e1
    rw [Int.add_mul, Int.mul_assoc, Int.mul_assoc, f1, f2]
  rw [← hT2]
  generalize ad / g = y at *
  have f4 : (t : Int) * k = T.natAbs := by exact_mod_cast e4
  have f1 : (y : Int) * g = ad := by exact_mod_cast e1
  have f3 : (e : Int) * k = bd := by exact_mod_cast e3
  have hs3 : s * (t * k) = T := by rw [f4]; exact hs
  rw [← hs3, ← f1, ← f3, Int.natCast_mul]
  grind
end Go.Rt
