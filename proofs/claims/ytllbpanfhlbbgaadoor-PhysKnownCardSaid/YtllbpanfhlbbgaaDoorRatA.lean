/- What rat.Add and rat.Sub answer: the rational's lowest terms. No condition. -/
import Derived.Test.YtllbpanfhlbbgaaDoorRatS
namespace Go.Rt
theorem sg_zero (neg : Bool) : sg neg 0 = 0 := by unfold sg; cases neg <;> rfl
theorem of_sg {one : Bool} {n : Int} (h : decide (n < 0) = one) : n = sg one n.natAbs := by
  subst h; unfold sg
  rcases (by omega : n < 0 ∨ 0 ≤ n) with h | h
  · rw [decide_eq_true h]; simp; omega
  · rw [decide_eq_false (by omega)]; simp; omega
theorem of_sg2 {sb less two : Bool} {n : Int} (h : decide (n < 0) = sb) (h2 : (!(sb == less)) = two) : (if less then -n else n) = sg two n.natAbs := by
  subst h; subst h2; unfold sg
  rcases (by omega : n < 0 ∨ 0 ≤ n) with h | h
  · rw [decide_eq_true h]; cases less <;> simp <;> omega
  · rw [decide_eq_false (by omega)]; cases less <;> simp <;> omega
theorem sg_mul (b : Bool) (n x : Nat) : sg b n * (x : Int) = sg b (n * x) := by
  unfold sg; cases b
  · simp
  · simp [Int.neg_mul]
theorem sg_same (b : Bool) (A B : Nat) : sg b A + sg b B = sg b (A + B) := by unfold sg; cases b <;> simp <;> omega
theorem sg_big {one two : Bool} {A B : Nat} (h : (one == two) = false) (hl : B ≤ A) : sg one A + sg two B = sg one (A - B) := by
  unfold sg; cases one <;> cases two <;> simp at h ⊢ <;> omega
theorem sg_less {one two : Bool} {A B : Nat} (h : (one == two) = false) (hl : A ≤ B) : sg one A + sg two B = sg two (B - A) := by
  unfold sg; cases one <;> cases two <;> simp at h ⊢ <;> omega
/-- The tail's law: of the sum S, with its sign. -/
theorem tail_rat {an bn : Int} {ad bd : Nat} (ha : 0 < ad) (hb : 0 < bd) (ca : Nat.Coprime an.natAbs ad) (cb : Nat.Coprime bn.natAbs bd) {less one sb two neg : Bool} {g S k : Nat} (hg : g = Nat.gcd ad bd)
    (s1 : decide (an < 0) = one) (s2 : decide (bn < 0) = sb) (s3 : (!(sb == less)) = two) (hS : sg one (an.natAbs * (bd / g)) + sg two (bn.natAbs * (ad / g)) = sg neg S) (hk : k = Nat.gcd g (S % g)) :
    fitN neg (S / k) ((ad / g) * (bd / k)) = fitR (Rat.divInt an ad + Rat.divInt (if less then -bn else bn) bd) := by
  have h1 := of_sg s1
  have h2 := of_sg2 s2 s3
  obtain ⟨b', hb'⟩ : ∃ b', b' = (if less then -bn else bn) := ⟨_, rfl⟩
  have hn : b'.natAbs = bn.natAbs := by rw [hb']; cases less <;> simp
  have hT : sg neg S = an * (bd / g : Nat) + b' * (ad / g : Nat) := by
    rw [hb', h2]
    conv => rhs; lhs; lhs; rw [h1]
    rw [sg_mul, sg_mul]; exact hS.symm
  have hTn : (sg neg S).natAbs = S := sg_abs neg S
  rw [← hb']
  have := sum_rat (a := an) (b := b') ha hb ca (by rw [hn]; exact cb) hg (T := sg neg S) hT (k := k) (by rw [hTn, hk, Nat.gcd_comm, ← Nat.gcd_rec, Nat.gcd_comm]) (neg := neg) (by rw [hTn])
  rwa [hTn] at this
end Go.Rt
namespace Go.Proofs.YtllbpanfhlbbgaaDoor
open Go.RowKit Go.Bus Go.Rt
set_option linter.unusedVariables false
namespace ratW
theorem u_of (r : Option (Int × Int)) : ∃ u v er, ratV r = .tuple #[.agg #[.int .i64 u, .int .i64 v], er] := by
  cases r with
  | none => exact ⟨_, _, _, rfl⟩
  | some q => exact ⟨q.1, q.2, _, rfl⟩
structure Tl (S g y bd p q0 rest k r2 low q1 bk hd ld top : Nat) (neg : Bool) (r : Option (Int × Int)) : Prop where
  hp : p = S / 18446744073709551616 % g
  hk : k = Nat.gcd g rest
  k0 : 0 < k
  hr2 : r2 = S / 18446744073709551616 % k
  hbk : bk = bd / k
  htop : top = S / 18446744073709551616 / k
  D1 : ∀ w, Calls Tryd.prog 82 #[.int .u64 (p : Int), .int .u64 (S % 18446744073709551616 : Nat), .int .u64 g] w fun e w' => e = .returned (.tuple #[.int .u64 (q0 : Int), .int .u64 (rest : Int)]) ∧ ∃ n, w' = w.drewN n
  G2 : ∀ w, Calls Tryd.prog 69 #[.int .u64 g, .int .u64 rest] w fun e w' => e = .returned (.int .u64 (k : Int)) ∧ ∃ n, w' = w.drewN n
  D2 : ∀ w, Calls Tryd.prog 82 #[.int .u64 (r2 : Int), .int .u64 (S % 18446744073709551616 : Nat), .int .u64 k] w fun e w' => e = .returned (.tuple #[.int .u64 (low : Int), .int .u64 (q1 : Int)]) ∧ ∃ n, w' = w.drewN n
  M3 : ∀ w, Calls Tryd.prog 78 #[.int .u64 y, .int .u64 bk] w fun e w' => e = .returned (.tuple #[.int .u64 (hd : Int), .int .u64 (ld : Int)]) ∧ w = w'
  F1 : ∀ w, Calls Tryd.prog 79 #[.bool neg, .int .u64 top, .int .u64 low, .int .u64 hd, .int .u64 ld] w fun e w' => e = .returned (ratV r) ∧ Below w.heap.size w w'
theorem low_lt {h l k W : Nat} (hk : 0 < k) (hl : l < W) : (h % k * W + l) / k < W := by
  apply Nat.div_lt_of_lt_mul
  have h1 := Nat.mod_lt h hk
  have h2 : (h % k + 1) * W ≤ k * W := Nat.mul_le_mul_right W h1
  rw [Nat.add_mul, Nat.one_mul] at h2
  omega
theorem tl_of (S g y bd : Nat) (neg : Bool) (hS : S / 18446744073709551616 < 18446744073709551616) (hg : 0 < g) (hg2 : g < 18446744073709551616) (hy : y < 18446744073709551616) (hbd : bd < 18446744073709551616) (r : Option (Int × Int))
    (hr : fitN neg (S / Nat.gcd g (S % g)) (y * (bd / Nat.gcd g (S % g))) = r) : ∃ p q0 rest k r2 low q1 bk hd ld top, Tl S g y bd p q0 rest k r2 low q1 bk hd ld top neg r ∧ rest = S % g := by
  obtain ⟨sh, hsh⟩ : ∃ sh, sh = S / 18446744073709551616 := ⟨_, rfl⟩
  obtain ⟨sl, hsl⟩ : ∃ sl, sl = S % 18446744073709551616 := ⟨_, rfl⟩
  have hSj : S = sh * 18446744073709551616 + sl := (join hsh hsl).symm
  have hslt : sl < 18446744073709551616 := by rw [hsl]; exact Nat.mod_lt _ (by decide)
  obtain ⟨k, hk⟩ : ∃ k, k = Nat.gcd g (S % g) := ⟨_, rfl⟩
  have k0 : 0 < k := by rw [hk]; exact Nat.gcd_pos_of_pos_left _ hg
  have kg : k ≤ g := by rw [hk]; exact Nat.gcd_le_left _ hg
  have kd : k ∣ S := by
    have h1 : k ∣ g := by rw [hk]; exact Nat.gcd_dvd_left _ _
    have h2 : k ∣ S % g := by rw [hk]; exact Nat.gcd_dvd_right _ _
    exact (Nat.dvd_mod_iff h1).1 h2
  rw [← hk] at hr
  have hmj := mod_join (g := g) hSj
  have hdj := div_join k0 hSj kd
  have hll := low_lt (h := sh) k0 hslt
  have hrest : S % g < 18446744073709551616 := Nat.lt_trans (Nat.mod_lt _ hg) hg2
  have htw : sh / k < 18446744073709551616 := Nat.lt_of_le_of_lt (Nat.div_le_self _ _) (by omega)
  obtain ⟨low, hlow⟩ : ∃ low, low = (sh % k * 18446744073709551616 + sl) / k := ⟨_, rfl⟩
  rw [← hlow] at hdj hll
  have ht1 : sh / k = S / k / 18446744073709551616 := by rw [← hdj]; omega
  have ht2 : low = S / k % 18446744073709551616 := by rw [← hdj]; omega
  refine ⟨sh % g, (sh % g * 18446744073709551616 + sl) / g, S % g, k, sh % k, low, (sh % k * 18446744073709551616 + sl) % k, bd / k, y * (bd / k) / 18446744073709551616, y * (bd / k) % 18446744073709551616, sh / k, ⟨by rw [hsh], hk, k0, by rw [hsh], rfl, by rw [hsh], ?_, ?_, ?_, ?_, ?_⟩, rfl⟩
  · intro w
    have := divW.div_any (sh % g) sl g (Nat.mod_lt _ hg) hslt hg2 w
    rw [hmj] at this
    rw [← hsl]; exact this
  · intro w; exact gcd_g _ _ _ hg2 hrest hk w
  · intro w
    have := divW.div_any (sh % k) sl k (Nat.mod_lt _ k0) hslt (by omega) w
    rw [← hlow] at this
    rw [← hsl]; exact this
  · intro w
    exact mul_any _ _ _ _ hy (by have := Nat.div_le_self bd k; omega) rfl rfl w
  · intro w
    exact fit_v neg _ _ _ _ (S / k) (y * (bd / k)) r ht1 ht2 rfl rfl (by rw [← ht1]; exact htw) (hi_lt hy (by have := Nat.div_le_self bd k; omega)) hr w

def sumO (less : Bool) (an ad bn bd : Int) : Option (Int × Int) := fitR (if less then Q an ad - Q bn bd else Q an ad + Q bn bd)
def sumV (less : Bool) (an ad bn bd : Int) : Value := if rightB an ad && rightB bn bd then ratV (sumO less an ad bn bd) else ratE 1
theorem Q_neg (n d : Int) : Rat.divInt (-n) d = - Q n d := by unfold Q; exact Rat.neg_divInt n d |>.symm
theorem sumO_eq (less : Bool) (an ad bn bd : Int) : fitR (Rat.divInt an ad + Rat.divInt (if less then -bn else bn) bd) = sumO less an ad bn bd := by
  unfold sumO
  cases less
  · rfl
  · simp only [if_true]; rw [Q_neg, Rat.sub_eq_add_neg]; rfl
theorem hidf {p : Prop} (h : p) : Hid p := Lib.hid h
theorem beqN_ff {x : Nat} (h : x ≠ 0) : ((x : Int) == 0) = false := by simp; omega
theorem beqI {x y : Nat} : ((x : Int) == (y : Int)) = (x == y) := by
  rw [Bool.eq_iff_iff, beq_iff_eq, beq_iff_eq]; omega
set_option maxRecDepth 100000 in
set_option maxHeartbeats 4000000 in
theorem sum_go (less : Bool) (an bn : Int) (ad bd : Nat) (w : World) (h1 : -9223372036854775808 ≤ an) (h2 : an < 9223372036854775808) (h3 : ad < 9223372036854775808) (h4 : -9223372036854775808 ≤ bn) (h5 : bn < 9223372036854775808) (h6 : bd < 9223372036854775808)
    (ha : rightB an ad = true) (hb : rightB bn bd = true) :
    Calls Tryd.prog 54 #[.agg #[.int .i64 an, .int .i64 ad], .agg #[.int .i64 bn, .int .i64 bd], .bool less] w fun e w' => e = .returned (ratV (sumO less an ad bn bd)) ∧ Below w.heap.size w w' := by
  obtain ⟨p1, p2⟩ := right_no ha
  obtain ⟨p3, p4⟩ := right_no hb
  rw [Int.toNat_natCast] at p2 p4
  have ad0 : 0 < ad := by omega
  have bd0 : 0 < bd := by omega
  obtain ⟨g, hg⟩ : ∃ g, g = Nat.gcd ad bd := ⟨_, rfl⟩
  have g0 : 0 < g := by rw [hg]; exact Nat.gcd_pos_of_pos_left _ ad0
  have gl : g < 9223372036854775808 := by have := Nat.gcd_le_left bd ad0; omega
  obtain ⟨x, hx⟩ : ∃ x, x = bd / g := ⟨_, rfl⟩
  obtain ⟨y, hy⟩ : ∃ y, y = ad / g := ⟨_, rfl⟩
  have xl : x < 9223372036854775808 := by have := Nat.div_le_self bd g; omega
  have yl : y < 9223372036854775808 := by have := Nat.div_le_self ad g; omega
  obtain ⟨a, hA⟩ : ∃ a, a = an.natAbs := ⟨_, rfl⟩
  obtain ⟨b, hB⟩ : ∃ b, b = bn.natAbs := ⟨_, rfl⟩
  have al : a ≤ 9223372036854775808 := by omega
  have bl0 : b ≤ 9223372036854775808 := by omega
  obtain ⟨A, hAx⟩ : ∃ A, A = a * x := ⟨_, rfl⟩
  obtain ⟨B, hBy⟩ : ∃ B, B = b * y := ⟨_, rfl⟩
  have Al : A ≤ 85070591730234615865843651857942052864 := by rw [hAx]; exact Nat.le_trans (Nat.mul_le_mul al (Nat.le_of_lt xl)) (by decide)
  have Bl : B ≤ 85070591730234615865843651857942052864 := by rw [hBy]; exact Nat.le_trans (Nat.mul_le_mul bl0 (Nat.le_of_lt yl)) (by decide)
  have wx := wquo (a := bd) (g := g) (p := x) (by omega) hx
  have wy := wquo (a := ad) (g := g) (p := y) (by omega) hy
  obtain ⟨h, hh⟩ : ∃ h, h = A / 18446744073709551616 := ⟨_, rfl⟩
  obtain ⟨l, hl⟩ : ∃ l, l = A % 18446744073709551616 := ⟨_, rfl⟩
  obtain ⟨i, hi⟩ : ∃ i, i = B / 18446744073709551616 := ⟨_, rfl⟩
  obtain ⟨m, hm⟩ : ∃ m, m = B % 18446744073709551616 := ⟨_, rfl⟩
  have M1 : ∀ w, Calls Tryd.prog 78 #[.int .u64 a, .int .u64 x] w fun e w' => e = .returned (.tuple #[.int .u64 (h : Int), .int .u64 (l : Int)]) ∧ w = w' := fun w => mul_any a x h l (by omega) (by omega) (by rw [hh, hAx]) (by rw [hl, hAx]) w
  have M2 : ∀ w, Calls Tryd.prog 78 #[.int .u64 b, .int .u64 y] w fun e w' => e = .returned (.tuple #[.int .u64 (i : Int), .int .u64 (m : Int)]) ∧ w = w' := fun w => mul_any b y i m (by omega) (by omega) (by rw [hi, hBy]) (by rw [hm, hBy]) w
  have bh : h < 18446744073709551616 := by omega
  have bl : l < 18446744073709551616 := by omega
  have bi : i < 18446744073709551616 := by omega
  have bm : m < 18446744073709551616 := by omega
  have AJ : A = h * 18446744073709551616 + l := by omega
  have BJ : B = i * 18446744073709551616 + m := by omega
  obtain ⟨one, s1⟩ : ∃ one, decide (an < 0) = one := ⟨_, rfl⟩
  obtain ⟨sb, s2⟩ : ∃ sb, decide (bn < 0) = sb := ⟨_, rfl⟩
  obtain ⟨two, s3⟩ : ∃ two, (!(sb == less)) = two := ⟨_, rfl⟩
  have key : ∀ (neg : Bool) (S : Nat), sg one A + sg two B = sg neg S → fitN neg (S / Nat.gcd g (S % g)) (y * (bd / Nat.gcd g (S % g))) = sumO less an ad bn bd := by
    intro neg S hS
    rw [← sumO_eq, hy]
    exact tail_rat ad0 bd0 p2 p4 hg s1 s2 s3 (by rw [← hx, ← hy, ← hA, ← hB, ← hAx, ← hBy]; exact hS) rfl
  have zero : ∀ neg, sg one A + sg two B = sg neg 0 → sumO less an ad bn bd = some (0, 1) := by
    intro neg hS
    rw [← key neg 0 hS]
    simp [fitN]
  by_cases e1 : (one == two) = true
  · have hsum : sg one A + sg two B = sg one (A + B) := by rw [← beq_iff_eq.1 e1]; exact sg_same _ _ _
    obtain ⟨sh, hsh⟩ : ∃ sh, sh = (A + B) / 18446744073709551616 := ⟨_, rfl⟩
    obtain ⟨sl, hsl⟩ : ∃ sl, sl = (A + B) % 18446744073709551616 := ⟨_, rfl⟩
    obtain ⟨c, hc⟩ : ∃ c, c = (l + m) / 18446744073709551616 := ⟨_, rfl⟩
    have c1 : c ≤ 1 := by omega
    have bsh : sh < 18446744073709551616 := by omega
    have bsl : sl < 18446744073709551616 := by omega
    have A1 : ∀ w, (callFunc 80 #[.int .u64 l, .int .u64 m, .int .u64 0]).run Tryd.prog w = .ok (.value (.tuple #[.int .u64 (sl : Int), .int .u64 (c : Int)])) w := fun w => add64_0 l m sl c bl bm (by omega) hc w
    have A2 : ∀ w, (callFunc 80 #[.int .u64 h, .int .u64 i, .int .u64 c]).run Tryd.prog w = .ok (.value (.tuple #[.int .u64 (sh : Int), .int .u64 ((0 : Nat) : Int)])) w := fun w => add64_v h i c sh 0 bh bi c1 (by omega) (by omega) w
    by_cases z : A + B = 0
    · rw [zero one (by rw [hsum, z])]
      exact sum_c1z an bn ad bd a b g x y h l i m c 0 sh sl 0 0 0 0 0 0 0 0 0 0 0 0 0 .nilIface less one sb two w h1 h2 h3 h4 h5 h6 (hidf ha) (hidf hb) (hidf hA) (hidf hB) (hidf hg) (by omega) wx wy (hidf M1) (hidf M2) s1 s2 s3 bh bl bi bm e1 c1 (hidf A1) (hidf A2) bsh bsl (by omega) (by omega)
    · obtain ⟨p, q0, rest, k, r2, low, q1, bk, hd, ld, top, T, _⟩ := tl_of (A + B) g y bd one (by omega) g0 (by omega) (by omega) (by omega) _ (key one (A + B) hsum)
      obtain ⟨u, v, er, hv⟩ := u_of (sumO less an ad bn bd)
      rw [hv]
      have F1 := T.F1; rw [hv] at F1
      have D1 := T.D1; rw [← hsl] at D1
      have D2 := T.D2; rw [← hsl] at D2
      have tp := T.hp; have tt := T.htop; have tr := T.hr2
      rw [← hsh] at tp tt tr
      have k0 := T.k0
      have wb := wquo (a := bd) (g := k) (p := bk) (by omega) T.hbk
      by_cases z1 : sh = 0
      · have P0 : p = 0 := by rw [tp, z1]; exact Nat.zero_mod _
        have T0 : top = 0 := by rw [tt, z1]; exact Nat.zero_div _
        have R0 : r2 = 0 := by rw [tr, z1]; exact Nat.zero_mod _
        subst P0; subst T0; subst R0
        exact sum_c1l an bn ad bd a b g x y h l i m c 0 sh sl 0 q0 rest k 0 low q1 bk hd ld 0 u v er less one sb two w h1 h2 h3 h4 h5 h6 (hidf ha) (hidf hb) (hidf hA) (hidf hB) (hidf hg) (by omega) wx wy (hidf M1) (hidf M2) s1 s2 s3 bh bl bi bm e1 c1 (hidf A1) (hidf A2) bsh bsl z1 (beqN_ff (by omega)) (hidf D1) (hidf T.G2) (by omega) (hidf D2) wb (hidf T.M3) (hidf F1)
      · exact sum_c1h an bn ad bd a b g x y h l i m c 0 sh sl p q0 rest k r2 low q1 bk hd ld top u v er less one sb two w h1 h2 h3 h4 h5 h6 (hidf ha) (hidf hb) (hidf hA) (hidf hB) (hidf hg) (by omega) wx wy (hidf M1) (hidf M2) s1 s2 s3 bh bl bi bm e1 c1 (hidf A1) (hidf A2) bsh bsl (beqN_ff z1) (hidf D1) (hidf T.G2) (by omega) (hidf D2) wb (hidf T.M3) (hidf F1) (wrem bsh g0 tp).2 (wquo bsh tt) (wrem bsh k0 tr).2
  · have e1 : (one == two) = false := by simpa using e1
    by_cases ho : A < B
    · have hsum : sg one A + sg two B = sg two (B - A) := sg_less e1 (by omega)
      obtain ⟨sh, hsh⟩ : ∃ sh, sh = (B - A) / 18446744073709551616 := ⟨_, rfl⟩
      obtain ⟨sl, hsl⟩ : ∃ sl, sl = (B - A) % 18446744073709551616 := ⟨_, rfl⟩
      obtain ⟨c, hc⟩ : ∃ c, c = if m < l then 1 else 0 := ⟨_, rfl⟩
      have hcc : (m < l ∧ c = 1) ∨ (l ≤ m ∧ c = 0) := by rw [hc]; split <;> omega
      have c1 : c ≤ 1 := by omega
      have bsh : sh < 18446744073709551616 := by omega
      have bsl : sl < 18446744073709551616 := by omega
      have A1 : ∀ w, (callFunc 81 #[.int .u64 m, .int .u64 l, .int .u64 0]).run Tryd.prog w = .ok (.value (.tuple #[.int .u64 (sl : Int), .int .u64 (c : Int)])) w := fun w => sub64_0 m l sl c (by omega) hc w
      have A2 : ∀ w, (callFunc 81 #[.int .u64 i, .int .u64 h, .int .u64 c]).run Tryd.prog w = .ok (.value (.tuple #[.int .u64 (sh : Int), .int .u64 ((0 : Nat) : Int)])) w := fun w => sub64_v i h c sh 0 c1 (by omega) (by rw [if_neg (by omega)]) w
      have z : A ≠ B := by omega
      obtain ⟨p, q0, rest, k, r2, low, q1, bk, hd, ld, top, T, _⟩ := tl_of (B - A) g y bd two (by omega) g0 (by omega) (by omega) (by omega) _ (key two (B - A) hsum)
      obtain ⟨u, v, er, hv⟩ := u_of (sumO less an ad bn bd)
      rw [hv]
      have F1 := T.F1; rw [hv] at F1
      have D1 := T.D1; rw [← hsl] at D1
      have D2 := T.D2; rw [← hsl] at D2
      have tp := T.hp; have tt := T.htop; have tr := T.hr2
      rw [← hsh] at tp tt tr
      have k0 := T.k0
      have wb := wquo (a := bd) (g := k) (p := bk) (by omega) T.hbk
      by_cases z1 : sh = 0
      · have P0 : p = 0 := by rw [tp, z1]; exact Nat.zero_mod _
        have T0 : top = 0 := by rw [tt, z1]; exact Nat.zero_div _
        have R0 : r2 = 0 := by rw [tr, z1]; exact Nat.zero_mod _
        subst P0; subst T0; subst R0
        by_cases o : h = i
        · exact sum_c2bl an bn ad bd a b g x y h l i m c 0 sh sl 0 q0 rest k 0 low q1 bk hd ld 0 u v er less one sb two w h1 h2 h3 h4 h5 h6 (hidf ha) (hidf hb) (hidf hA) (hidf hB) (hidf hg) (by omega) wx wy (hidf M1) (hidf M2) s1 s2 s3 bh bl bi bm e1 c1 (hidf A1) (hidf A2) (decide_eq_false (by omega)) (by rw [beqI]; exact beq_iff_eq.2 (by omega)) (beq_iff_eq.2 (by omega)) (decide_eq_true (by omega)) bsh bsl z1 (beqN_ff (by omega)) (hidf D1) (hidf T.G2) (by omega) (hidf D2) wb (hidf T.M3) (hidf F1)
        · exact sum_c2al an bn ad bd a b g x y h l i m c 0 sh sl 0 q0 rest k 0 low q1 bk hd ld 0 u v er less one sb two w h1 h2 h3 h4 h5 h6 (hidf ha) (hidf hb) (hidf hA) (hidf hB) (hidf hg) (by omega) wx wy (hidf M1) (hidf M2) s1 s2 s3 bh bl bi bm e1 c1 (hidf A1) (hidf A2) (decide_eq_true (by omega)) bsh bsl z1 (beqN_ff (by omega)) (hidf D1) (hidf T.G2) (by omega) (hidf D2) wb (hidf T.M3) (hidf F1)
      · exact sum_c2ah an bn ad bd a b g x y h l i m c 0 sh sl p q0 rest k r2 low q1 bk hd ld top u v er less one sb two w h1 h2 h3 h4 h5 h6 (hidf ha) (hidf hb) (hidf hA) (hidf hB) (hidf hg) (by omega) wx wy (hidf M1) (hidf M2) s1 s2 s3 bh bl bi bm e1 c1 (hidf A1) (hidf A2) (decide_eq_true (by omega)) bsh bsl (beqN_ff z1) (hidf D1) (hidf T.G2) (by omega) (hidf D2) wb (hidf T.M3) (hidf F1) (wrem bsh g0 tp).2 (wquo bsh tt) (wrem bsh k0 tr).2
    · have hsum : sg one A + sg two B = sg one (A - B) := sg_big e1 (by omega)
      obtain ⟨sh, hsh⟩ : ∃ sh, sh = (A - B) / 18446744073709551616 := ⟨_, rfl⟩
      obtain ⟨sl, hsl⟩ : ∃ sl, sl = (A - B) % 18446744073709551616 := ⟨_, rfl⟩
      obtain ⟨c, hc⟩ : ∃ c, c = if l < m then 1 else 0 := ⟨_, rfl⟩
      have hcc : (l < m ∧ c = 1) ∨ (m ≤ l ∧ c = 0) := by rw [hc]; split <;> omega
      have c1 : c ≤ 1 := by omega
      have bsh : sh < 18446744073709551616 := by omega
      have bsl : sl < 18446744073709551616 := by omega
      have A1 : ∀ w, (callFunc 81 #[.int .u64 l, .int .u64 m, .int .u64 0]).run Tryd.prog w = .ok (.value (.tuple #[.int .u64 (sl : Int), .int .u64 (c : Int)])) w := fun w => sub64_0 l m sl c (by omega) hc w
      have A2 : ∀ w, (callFunc 81 #[.int .u64 h, .int .u64 i, .int .u64 c]).run Tryd.prog w = .ok (.value (.tuple #[.int .u64 (sh : Int), .int .u64 ((0 : Nat) : Int)])) w := fun w => sub64_v h i c sh 0 c1 (by omega) (by rw [if_neg (by omega)]) w
      by_cases z : A = B
      · rw [zero one (by rw [hsum, z, Nat.sub_self])]
        exact sum_c3bz an bn ad bd a b g x y h l i m c 0 sh sl 0 0 0 0 0 0 0 0 0 0 0 0 0 .nilIface less one sb two w h1 h2 h3 h4 h5 h6 (hidf ha) (hidf hb) (hidf hA) (hidf hB) (hidf hg) (by omega) wx wy (hidf M1) (hidf M2) s1 s2 s3 bh bl bi bm e1 c1 (hidf A1) (hidf A2) (decide_eq_false (by omega)) (by rw [beqI]; exact beq_iff_eq.2 (by omega)) (beq_iff_eq.2 (by omega)) (decide_eq_false (by omega)) bsh bsl (by omega) (by omega)
      · obtain ⟨p, q0, rest, k, r2, low, q1, bk, hd, ld, top, T, _⟩ := tl_of (A - B) g y bd one (by omega) g0 (by omega) (by omega) (by omega) _ (key one (A - B) hsum)
        obtain ⟨u, v, er, hv⟩ := u_of (sumO less an ad bn bd)
        rw [hv]
        have F1 := T.F1; rw [hv] at F1
        have D1 := T.D1; rw [← hsl] at D1
        have D2 := T.D2; rw [← hsl] at D2
        have tp := T.hp; have tt := T.htop; have tr := T.hr2
        rw [← hsh] at tp tt tr
        have k0 := T.k0
        have wb := wquo (a := bd) (g := k) (p := bk) (by omega) T.hbk
        by_cases z1 : sh = 0
        · have P0 : p = 0 := by rw [tp, z1]; exact Nat.zero_mod _
          have T0 : top = 0 := by rw [tt, z1]; exact Nat.zero_div _
          have R0 : r2 = 0 := by rw [tr, z1]; exact Nat.zero_mod _
          subst P0; subst T0; subst R0
          by_cases o : h = i
          · exact sum_c3bl an bn ad bd a b g x y h l i m c 0 sh sl 0 q0 rest k 0 low q1 bk hd ld 0 u v er less one sb two w h1 h2 h3 h4 h5 h6 (hidf ha) (hidf hb) (hidf hA) (hidf hB) (hidf hg) (by omega) wx wy (hidf M1) (hidf M2) s1 s2 s3 bh bl bi bm e1 c1 (hidf A1) (hidf A2) (decide_eq_false (by omega)) (by rw [beqI]; exact beq_iff_eq.2 (by omega)) (beq_iff_eq.2 (by omega)) (decide_eq_false (by omega)) bsh bsl z1 (beqN_ff (by omega)) (hidf D1) (hidf T.G2) (by omega) (hidf D2) wb (hidf T.M3) (hidf F1)
          · exact sum_c3al an bn ad bd a b g x y h l i m c 0 sh sl 0 q0 rest k 0 low q1 bk hd ld 0 u v er less one sb two w h1 h2 h3 h4 h5 h6 (hidf ha) (hidf hb) (hidf hA) (hidf hB) (hidf hg) (by omega) wx wy (hidf M1) (hidf M2) s1 s2 s3 bh bl bi bm e1 c1 (hidf A1) (hidf A2) (decide_eq_false (by omega)) (by rw [beqI]; exact beq_eq_false_iff_ne.2 (by omega)) (beq_eq_false_iff_ne.2 (by omega)) bsh bsl z1 (beqN_ff (by omega)) (hidf D1) (hidf T.G2) (by omega) (hidf D2) wb (hidf T.M3) (hidf F1)
        · exact sum_c3ah an bn ad bd a b g x y h l i m c 0 sh sl p q0 rest k r2 low q1 bk hd ld top u v er less one sb two w h1 h2 h3 h4 h5 h6 (hidf ha) (hidf hb) (hidf hA) (hidf hB) (hidf hg) (by omega) wx wy (hidf M1) (hidf M2) s1 s2 s3 bh bl bi bm e1 c1 (hidf A1) (hidf A2) (decide_eq_false (by omega)) (by rw [beqI]; exact beq_eq_false_iff_ne.2 (by omega)) (beq_eq_false_iff_ne.2 (by omega)) bsh bsl (beqN_ff z1) (hidf D1) (hidf T.G2) (by omega) (hidf D2) wb (hidf T.M3) (hidf F1) (wrem bsh g0 tp).2 (wquo bsh tt) (wrem bsh k0 tr).2
theorem sum_val (less : Bool) (an ad bn bd : Int) (w : World) (h1 : -9223372036854775808 ≤ an) (h2 : an < 9223372036854775808) (h3 : ad < 9223372036854775808) (h4 : -9223372036854775808 ≤ bn) (h5 : bn < 9223372036854775808) (h6 : bd < 9223372036854775808) :
    Calls Tryd.prog 54 #[.agg #[.int .i64 an, .int .i64 ad], .agg #[.int .i64 bn, .int .i64 bd], .bool less] w fun e w' => e = .returned (sumV less an ad bn bd) ∧ Below w.heap.size w w' := by
  unfold sumV
  by_cases h : (rightB an ad && rightB bn bd) = true
  · rw [if_pos h]
    obtain ⟨ha, hb⟩ := Bool.and_eq_true_iff.1 h
    obtain ⟨p1, _⟩ := right_no ha
    obtain ⟨p3, _⟩ := right_no hb
    obtain ⟨x, rfl⟩ : ∃ x : Nat, ad = x := ⟨ad.toNat, by omega⟩
    obtain ⟨y, rfl⟩ : ∃ y : Nat, bd = y := ⟨bd.toNat, by omega⟩
    exact sum_go less an bn x y w h1 h2 (by omega) h4 h5 (by omega) ha hb
  · rw [if_neg h]
    exact sum_wrong an ad bn bd less w h1 h2 h3 h4 h5 h6 (by simpa using h)
end ratW
end Go.Proofs.YtllbpanfhlbbgaaDoor
