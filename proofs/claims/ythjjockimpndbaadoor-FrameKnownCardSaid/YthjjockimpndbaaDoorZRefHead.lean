/- busbarref22.take, some, Header, head: the document's way to read a frame's header. -/
import Derived.Test.YthjjockimpndbaaDoorZRefBits
import Derived.Test.YthjjockimpndbaaDoorZRefUn
import Derived.Test.YthjjockimpndbaaDoorZReadData
import Derived.Test.YthjjockimpndbaaDoorZDecBits
namespace Go.Bus.decK
open Go.RowKit Go.Bus.bitK Go.Bus.crcLaw Go.Bus.numK
set_option linter.unusedVariables false
theorem or_one64 {a : Nat} (h : a < 1073741824) : bits BinOp.or IntKind.u64 ((a : Int) * 2) 1 = ((2 * a + 1 : Nat) : Int) := by
  rw [show ((a : Int) * 2) = ((2 * a : Nat) : Int) by omega, show (1 : Int) = ((1 : Nat) : Int) from rfl, u64_or_nat _ _ (by omega) (by omega)]
  have := Nat.two_pow_add_eq_or_of_lt (i := 1) (b := 1) (by decide) a
  rw [show 2 * a ||| 1 = 2 * a + 1 by simpa [Nat.mul_comm] using this.symm]
theorem num_zero (l : List Bool) : (numF l = 0) ↔ l.any (fun b => b) = false := by
  have : ∀ (l : List Bool) (a : Nat), l.foldl stepNum a = 0 ↔ (a = 0 ∧ l.any (fun b => b) = false) := by
    intro l
    induction l with
    | nil => intro a; simp
    | cons b l ih =>
      intro a
      rw [List.foldl_cons, ih]
      cases b
      · simp [stepNum]; intro _; omega
      · simp [stepNum]
  have h := this l 0
  simpa [numF] using h
theorem nb_one {m : List Bool} {k : Nat} (h : k < m.length) : nb m k 1 = m[k].toNat := by
  have : seg m k 1 = [m[k]] := by
    unfold seg
    rw [List.drop_eq_getElem_cons h]; rfl
  unfold nb
  rw [this]
  simp [numF, stepNum]
def noOf {α : Type} : Except Nat α → Nat
  | .error k => k
  | .ok _ => 0
def headNo (m : List Bool) : Nat := noOf (decF m)
theorem head_short {m : List Bool} (h : m.length < 14) : headNo m = 2 := by unfold headNo decF; rw [if_pos h]; rfl
theorem head_form {m : List Bool} (h : ¬ m.length < 14) (h2 : nb m 0 1 ≠ 0 ∨ nb m 12 1 ≠ nb m 13 1) : headNo m = 4 := by unfold headNo decF; rw [if_neg h, if_pos h2]; rfl
def headT (m : List Bool) (a : Nat) : Nat := noOf (tailF m 0 false a)
theorem tail_no (m : List Bool) (i : Int) (W : Bool) (a : Nat) : noOf (tailF m i W a) = headT m a := by
  unfold headT tailF
  simp only [apply_ite noOf]
  rfl
theorem head_plain {m : List Bool} (h : ¬ m.length < 14) (h2 : ¬ (nb m 0 1 ≠ 0 ∨ nb m 12 1 ≠ nb m 13 1)) (h3 : nb m 13 1 = 0) :
    headNo m = if m.length - 14 < 5 then 2 else if nb m 14 1 ≠ 0 then 4 else headT m 15 := by
  unfold headNo decF
  rw [if_neg h, if_neg h2, if_pos h3]
  simp only [apply_ite noOf, tail_no]
  rfl
theorem head_wide {m : List Bool} (h : ¬ m.length < 14) (h2 : ¬ (nb m 0 1 ≠ 0 ∨ nb m 12 1 ≠ nb m 13 1)) (h3 : ¬ nb m 13 1 = 0) :
    headNo m = if m.length - 14 < 25 then 2 else if nb m 32 3 ≠ 0 then 4 else headT m 35 := by
  unfold headNo decF
  rw [if_neg h, if_neg h2, if_neg h3]
  simp only [apply_ite noOf, tail_no]
  rfl
end Go.Bus.decK
namespace Go.Proofs.YthjjockimpndbaaDoor
open Go.RowKit Go.Bus Go.Bus.bitK Go.Bus.numK Go.Bus.decK
set_option linter.unusedVariables false
namespace refW
set_option maxRecDepth 100000 in
set_option maxHeartbeats 1000000 in
theorem rtake_any (v : Value) (m : List Bool) (w : World) (a n : Nat) (x z : Int) (h : Sl w w.heap.size Value.bool v m) (hx : x = a) (hz : z = n) (hn : a + n ≤ m.length) (h30 : n ≤ 30) :
    Calls Tryd.prog 59 #[v, .int .i64 x, .int .i64 z] w fun e w' => e = .returned (.int .u64 (nb m a n)) ∧ w = w' := by
  subst hx
  subst hz
  obtain ⟨A, cap, rfl, hcap, hmax⟩ := h.form
  have HS := Lib.hid h; clear h
  unfold maxLen at hmax
  have hsl : (seg m a n).length = n := seg_length hn
  have HSL := Lib.hid hsl; clear hsl
  go_enter Tryd.func59, Tryd.ntmps59
  go_wp2
  go_loop [7, 8] (fun s i => ∃ k : Nat, k ≤ n ∧ s = .int .u64 (numF ((seg m a n).take k) : Nat) ∧ i = .int .i64 ((a : Int) + (k : Int))) (fun _ i => (a + n) - (intOf i).toNat)
  case atStart => exact ⟨0, Nat.zero_le _, rfl, by go_num⟩
  case round =>
    obtain ⟨k, hk, rfl, rfl⟩ := hrel
    by_cases hlt : k < n
    · obtain ⟨b, off, rfl, hb, hc⟩ := HS.out.at_ (show a + k < m.length by omega)
      have hx : (seg m a n)[k]'(by rw [HSL.out]; exact hlt) = m[a + k] := by simp [seg]
      have hnum : numF ((seg m a n).take (k + 1)) = stepNum (numF ((seg m a n).take k)) m[a + k] := by
        rw [List.take_succ_eq_append_getElem (by rw [HSL.out]; exact hlt), num_snoc, hx]
      have hlt2 := num_lt ((seg m a n).take k)
      have hk2 : ((seg m a n).take k).length = k := by rw [List.length_take, HSL.out]; omega
      have hpw : 2 ^ k ≤ 2 ^ 29 := Nat.pow_le_pow_right (by decide) (by omega)
      have e29 : (2 ^ 29 : Nat) = 536870912 := by decide
      rw [hk2] at hlt2
      have hN : numF ((seg m a n).take k) < 536870912 := by omega
      have HN := Lib.hid hnum
      have e1 : ((a : Int) + (k : Int)).toNat = a + k := by omega
      clear hnum hx hlt2 hk2 hpw e29
      generalize numF ((seg m a n).take k) = N at *
      generalize m[a + k] = x1 at *
      have hor := or_one64 (a := N) (by omega)
      cases x1
      all_goals
        go_wp2
        go_round
      all_goals first
        | exact ⟨k + 1, by omega, by rw [HN.out]; simp [stepNum]; try omega, by go_num⟩
        | (simp [intOf]; done)
        | (simp [intOf]; omega)
    · obtain rfl : k = n := by omega
      rw [List.take_of_length_le (by rw [HSL.out]; exact Nat.le_refl _)]
      go_wp2
      go_ret
      exact ⟨rfl, rfl⟩

set_option maxRecDepth 100000 in
set_option maxHeartbeats 1000000 in
theorem rsome_any (v : Value) (m : List Bool) (w : World) (a n : Nat) (x z : Int) (h : Sl w w.heap.size Value.bool v m) (hx : x = a) (hz : z = (a : Int) + (n : Int)) (hn : a + n ≤ m.length) :
    Calls Tryd.prog 90 #[v, .int .i64 x, .int .i64 z] w fun e w' => e = .returned (.bool (!decide (nb m a n = 0))) ∧ w = w' := by
  subst hx
  subst hz
  obtain ⟨A, cap, rfl, hcap, hmax⟩ := h.form
  have HS := Lib.hid h; clear h
  unfold maxLen at hmax
  have hsl : (seg m a n).length = n := seg_length hn
  have HSL := Lib.hid hsl; clear hsl
  have hres : (!decide (nb m a n = 0)) = (seg m a n).any (fun b => b) := by
    have h := num_zero (seg m a n)
    unfold nb
    cases ha : (seg m a n).any (fun b => b)
    · rw [decide_eq_true (h.2 ha)]; rfl
    · rw [decide_eq_false (fun hh => by rw [h.1 hh] at ha; cases ha)]; rfl
  rw [hres]
  clear hres
  go_enter Tryd.func90, Tryd.ntmps90
  go_wp2
  go_loop [7] (fun i => ∃ k : Nat, k ≤ n ∧ i = .int .i64 ((a : Int) + (k : Int)) ∧ Hid (((seg m a n).take k).any (fun b => b) = false)) (fun i => (a + n) - (intOf i).toNat)
  case atStart => exact ⟨0, Nat.zero_le _, by go_num, Lib.hid rfl⟩
  case round =>
    obtain ⟨k, hk, rfl, HA⟩ := hrel
    by_cases hlt : k < n
    · obtain ⟨b, off, rfl, hb, hc⟩ := HS.out.at_ (show a + k < m.length by omega)
      have hx : (seg m a n)[k]'(by rw [HSL.out]; exact hlt) = m[a + k] := by simp [seg]
      have HX := Lib.hid hx
      have e1 : ((a : Int) + (k : Int)).toNat = a + k := by omega
      have hany : ((seg m a n).take (k + 1)).any (fun b => b) = m[a + k] := by
        rw [List.take_succ_eq_append_getElem (by rw [HSL.out]; exact hlt), List.any_append, HA.out, hx]; simp
      have HANY := Lib.hid hany
      clear hx hany
      cases hbit : m[a + k]
      · rw [hbit] at hc
        have HB := Lib.hid hbit
        clear hbit
        go_wp2
        go_round
        case rel => exact ⟨k + 1, by omega, by go_num, Lib.hid (by rw [HANY.out]; exact HB.out)⟩
        case measure => first | (simp [intOf]; done) | (simp [intOf]; omega)
      · rw [hbit] at hc
        have HB := Lib.hid hbit
        clear hbit
        have HT : Hid ((seg m a n).any (fun b => b) = true) := by
          unfold Hid
          rw [List.any_eq_true]
          exact ⟨_, List.getElem_mem (l := seg m a n) (n := k) (by rw [HSL.out]; exact hlt), by rw [HX.out]; exact HB.out⟩
        go_wp2
        go_ret
        exact ⟨ret_bool HT.out.symm, rfl⟩
    · obtain rfl : k = n := by omega
      rw [List.take_of_length_le (by rw [HSL.out]; exact Nat.le_refl _)] at HA
      go_wp2
      go_ret
      exact ⟨ret_bool HA.out.symm, rfl⟩

set_option maxRecDepth 100000 in
set_option maxHeartbeats 1000000 in
theorem hdr_plain (w : World) : Calls Tryd.prog 89 #[.bool false] w fun e w' => e = .returned (.int .i64 19) ∧ w = w' := by
  go_enter Tryd.func89, Tryd.ntmps89
  go_wp2
  go_ret
  exact ⟨rfl, rfl⟩
set_option maxRecDepth 100000 in
set_option maxHeartbeats 1000000 in
theorem hdr_wide (w : World) : Calls Tryd.prog 89 #[.bool true] w fun e w' => e = .returned (.int .i64 39) ∧ w = w' := by
  go_enter Tryd.func89, Tryd.ntmps89
  go_wp2
  go_ret
  exact ⟨rfl, rfl⟩
def HeadPost (m : List Bool) (w : World) (e : Ending) (w' : World) : Prop := e = .returned (.int .i64 (headNo m)) ∧ ∃ q, w' = w.drewN q

set_option maxRecDepth 100000 in
set_option maxHeartbeats 4000000 in
theorem rhead_any (v : Value) (m : List Bool) (w : World) (h : Sl w w.heap.size Value.bool v m) :
    Calls Tryd.prog 61 #[v] w (HeadPost m w) := by
  obtain ⟨A, cap, rfl, hcap, hmax⟩ := h.form
  have HS := Lib.hid h; clear h
  unfold maxLen at hmax
  by_cases h14 : m.length < 14
  · have HF := Lib.hid (head_short h14)
    go_enter Tryd.func61, Tryd.ntmps61
    go_wp2
    go_ret
    exact ⟨ret_int (by rw [HF.out]; rfl), 0, rfl⟩
  obtain ⟨b, off, rfl, hb, hc0⟩ := HS.out.at_ (show 0 < m.length by omega)
  obtain ⟨b2, o2, he2, -, hc12⟩ := HS.out.at_ (show 12 < m.length by omega)
  obtain ⟨b3, o3, he3, -, hc13⟩ := HS.out.at_ (show 13 < m.length by omega)
  obtain ⟨rfl, rfl⟩ : b = b2 ∧ off = o2 := by simpa using he2
  obtain ⟨rfl, rfl⟩ : b = b3 ∧ off = o3 := by simpa using he3
  rw [Nat.add_zero] at hc0
  have n0 := nb_one (m := m) (k := 0) (by omega)
  have n12 := nb_one (m := m) (k := 12) (by omega)
  have n13 := nb_one (m := m) (k := 13) (by omega)
  generalize m[0] = m0 at *
  generalize m[12] = m12 at *
  generalize m[13] = m13 at *
  clear he2 he3
  by_cases hbad : m0 = true ∨ m12 ≠ m13
  · have HF := Lib.hid (head_form h14 (by
      rw [n0, n12, n13]
      rcases hbad with rfl | hne
      · exact .inl (by decide)
      · refine .inr ?_
        cases m12 <;> cases m13 <;> simp_all))
    clear n0 n12 n13
    cases m0 <;> cases m12 <;> cases m13
    all_goals first
      | (exfalso; simp at hbad; done)
      | (clear hbad
         go_enter Tryd.func61, Tryd.ntmps61
         go_wp2
         go_quiet (fail)
         go_wp2
         go_ret
         exact ⟨ret_int (by rw [HF.out]; rfl), _, rfl⟩)
  · have hm0 : m0 = false := by cases m0 <;> simp_all
    have hmm : m12 = m13 := by cases m12 <;> cases m13 <;> simp_all
    subst hm0
    subst hmm
    have h2 : ¬ (nb m 0 1 ≠ 0 ∨ nb m 12 1 ≠ nb m 13 1) := by rw [n0, n12, n13]; simp
    clear hbad
    cases m12
    · have HH := Lib.hid (head_plain h14 h2 (by rw [n13]; rfl))
      clear n0 n12 n13 h2
      by_cases h19 : m.length < 19
      · have HF : Hid (headNo m = 2) := by unfold Hid; rw [HH.out, if_pos (by omega)]
        clear HH
        go_enter Tryd.func61, Tryd.ntmps61
        go_wp2
        go_quiet (fail)
        go_wp2
        go_ret
        exact ⟨ret_int (by rw [HF.out]; rfl), _, rfl⟩
      obtain ⟨b4, o4, he4, -, hc14⟩ := HS.out.at_ (show 14 < m.length by omega)
      obtain ⟨rfl, rfl⟩ : b = b4 ∧ off = o4 := by simpa using he4
      have n14 := nb_one (m := m) (k := 14) (by omega)
      generalize m[14] = m14 at *
      clear he4
      cases m14
      · have HH2 : Hid (headNo m = headT m 15) := by unfold Hid; rw [HH.out, if_neg (by omega), if_neg (by rw [n14]; simp)]
        clear HH n14
        have HH := HH2
        clear HH2
        go_enter Tryd.func61, Tryd.ntmps61
        go_wp2
        go_quiet (fail)
        have h19 : 19 ≤ m.length := by omega
        have hs15 : 15 + 4 ≤ m.length := by omega
        obtain ⟨s, hs⟩ : ∃ s, s = nb m 15 4 := ⟨_, rfl⟩
        have hsb := nb_lt (m := m) (a := 15) (n := 4) hs15
        rw [← hs, show (2 : Nat) ^ 4 = 16 from by decide] at hsb
        have HSS := Lib.hid hs
        have hT : headT m 15 = if 8 < s then 15 else if m.length - 19 < 8 * s + 15 then 2 else if 8 * s + 15 < m.length - 19 then 3 else if (nb m (m.length - 15) 15 : Int) ≠ crcS (m.take (m.length - 15)) then 23 else 0 := by
          unfold headT tailF
          rw [← hs]
          by_cases g1 : 8 < s
          · rw [if_pos g1, if_pos g1]; rfl
          rw [if_neg g1, if_neg g1]
          by_cases g2 : m.length - (15 + 4) < 8 * s + 15
          · rw [if_pos g2, if_pos (by omega)]; rfl
          rw [if_neg g2, if_neg (show ¬ m.length - 19 < 8 * s + 15 by omega)]
          by_cases g3 : 8 * s + 15 < m.length - (15 + 4)
          · rw [if_pos g3, if_pos (show 8 * s + 15 < m.length - 19 by omega)]; rfl
          rw [if_neg g3, if_neg (show ¬ 8 * s + 15 < m.length - 19 by omega), show 15 + 4 + 8 * s = m.length - 15 by omega]
          by_cases g4 : (nb m (m.length - 15) 15 : Int) ≠ crcS (m.take (m.length - 15))
          · rw [if_pos g4, if_pos g4]; rfl
          · rw [if_neg g4, if_neg g4]; rfl
        have HT := Lib.hid hT
        clear hT hs
        by_cases g1 : 8 < s
        · have HF : Hid (headNo m = 15) := by unfold Hid; rw [HH.out, HT.out, if_pos g1]
          go_wp2_with (first
            | (go_at_call 89; refine (hdr_plain _).mono ?_; rintro e w9 ⟨rfl, rfl⟩)
            | (go_at_call 59; refine (rtake_any _ m _ 15 4 _ _ (by exact HS.out) (by rfl) (by rfl) hs15 (by omega)).mono ?_; rintro e w9 ⟨rfl, rfl⟩; rw [← HSS.out]))
          go_ret
          exact ⟨ret_int (by rw [HF.out]; rfl), _, rfl⟩
        by_cases g2 : m.length < 19 + 8 * s + 15
        · have HF : Hid (headNo m = 2) := by unfold Hid; rw [HH.out, HT.out, if_neg g1, if_pos (by omega)]
          go_wp2_with (first
            | (go_at_call 89; refine (hdr_plain _).mono ?_; rintro e w9 ⟨rfl, rfl⟩)
            | (go_at_call 59; refine (rtake_any _ m _ 15 4 _ _ (by exact HS.out) (by rfl) (by rfl) hs15 (by omega)).mono ?_; rintro e w9 ⟨rfl, rfl⟩; rw [← HSS.out]))
          go_ret
          exact ⟨ret_int (by rw [HF.out]; rfl), _, rfl⟩
        by_cases g3 : 19 + 8 * s + 15 < m.length
        · have HF : Hid (headNo m = 3) := by unfold Hid; rw [HH.out, HT.out, if_neg g1, if_neg (by omega), if_pos (by omega)]
          go_wp2_with (first
            | (go_at_call 89; refine (hdr_plain _).mono ?_; rintro e w9 ⟨rfl, rfl⟩)
            | (go_at_call 59; refine (rtake_any _ m _ 15 4 _ _ (by exact HS.out) (by rfl) (by rfl) hs15 (by omega)).mono ?_; rintro e w9 ⟨rfl, rfl⟩; rw [← HSS.out]))
          go_ret
          exact ⟨ret_int (by rw [HF.out]; rfl), _, rfl⟩
        have HF0 : Hid (headNo m = if (nb m (m.length - 15) 15 : Int) ≠ crcS (m.take (m.length - 15)) then 23 else 0) := by unfold Hid; rw [HH.out, HT.out, if_neg g1, if_neg (by omega), if_neg (by omega)]
        have hc15 : m.length - 15 + 15 ≤ m.length := by omega
        have e15 : ((m.length : Int) - 15).toNat = m.length - 15 := by omega
        have e15' : (m.length : Int) - 15 = ((m.length - 15 : Nat) : Int) := by omega
        have E15 := Lib.hid e15'
        have hcb := crcS_bd (m.take (m.length - 15))
        have htb := nb_lt (m := m) (a := m.length - 15) (n := 15) hc15
        rw [show (2 : Nat) ^ 15 = 32768 from by decide] at htb
        obtain ⟨c, hc⟩ : ∃ c, c = crcS (m.take (m.length - 15)) := ⟨_, rfl⟩
        obtain ⟨t, ht⟩ : ∃ t, t = nb m (m.length - 15) 15 := ⟨_, rfl⟩
        rw [← hc] at hcb HF0
        rw [← ht] at htb HF0
        have HC := Lib.hid hc
        have HTT := Lib.hid ht
        have HST := Lib.hid (readW.Sl.take_ HS.out (m.length - 15) (by omega))
        clear hc ht e15' HT HH
        by_cases g4 : (t : Int) = c
        · have HF : Hid (headNo m = 0) := by unfold Hid; rw [HF0.out, if_neg (by simpa using g4)]
          clear HF0
          subst g4
          go_wp2_with (first
            | (go_at_call 89; refine (hdr_plain _).mono ?_; rintro e w9 ⟨rfl, rfl⟩)
            | (go_at_call 59; refine (rtake_any _ m _ 15 4 _ _ (by exact HS.out) (by rfl) (by rfl) hs15 (by omega)).mono ?_; rintro e w9 ⟨rfl, rfl⟩; rw [← HSS.out])
            | (go_at_call 84; refine (rsum_any _ (m.take (m.length - 15)) _ (by exact HST.out)).mono ?_; rintro e w9 ⟨rfl, rfl⟩; rw [← HC.out])
            | (go_at_call 59; refine (rtake_any _ m _ (m.length - 15) 15 _ _ (by exact HS.out) (by first | exact E15.out | rfl) (by rfl) hc15 (by omega)).mono ?_; rintro e w9 ⟨rfl, rfl⟩; rw [← HTT.out]))
          go_ret
          exact ⟨ret_int (by rw [HF.out]; rfl), _, rfl⟩
        · have HF : Hid (headNo m = 23) := by unfold Hid; rw [HF0.out, if_pos (by simpa using g4)]
          clear HF0
          have d4 : (c != (t : Int)) = true := by rw [bne_iff_ne]; exact fun h => g4 h.symm
          clear g4
          go_wp2_with (first
            | (go_at_call 89; refine (hdr_plain _).mono ?_; rintro e w9 ⟨rfl, rfl⟩)
            | (go_at_call 59; refine (rtake_any _ m _ 15 4 _ _ (by exact HS.out) (by rfl) (by rfl) hs15 (by omega)).mono ?_; rintro e w9 ⟨rfl, rfl⟩; rw [← HSS.out])
            | (go_at_call 84; refine (rsum_any _ (m.take (m.length - 15)) _ (by exact HST.out)).mono ?_; rintro e w9 ⟨rfl, rfl⟩; rw [← HC.out])
            | (go_at_call 59; refine (rtake_any _ m _ (m.length - 15) 15 _ _ (by exact HS.out) (by first | exact E15.out | rfl) (by rfl) hc15 (by omega)).mono ?_; rintro e w9 ⟨rfl, rfl⟩; rw [← HTT.out]))
          go_ret
          exact ⟨ret_int (by rw [HF.out]; rfl), _, rfl⟩
      · have HF : Hid (headNo m = 4) := by unfold Hid; rw [HH.out, if_neg (by omega), if_pos (by rw [n14]; decide)]
        clear HH n14
        go_enter Tryd.func61, Tryd.ntmps61
        go_wp2
        go_quiet (fail)
        go_wp2
        go_ret
        exact ⟨ret_int (by rw [HF.out]; rfl), _, rfl⟩
    · have HH := Lib.hid (head_wide h14 h2 (by rw [n13]; decide))
      clear n0 n12 n13 h2
      by_cases h39 : m.length < 39
      · have HF : Hid (headNo m = 2) := by unfold Hid; rw [HH.out, if_pos (by omega)]
        clear HH
        go_enter Tryd.func61, Tryd.ntmps61
        go_wp2
        go_quiet (fail)
        go_wp2
        go_ret
        exact ⟨ret_int (by rw [HF.out]; rfl), _, rfl⟩
      have h35 : 32 + 3 ≤ m.length := by omega
      by_cases h32 : nb m 32 3 = 0
      · have HH2 : Hid (headNo m = headT m 35) := by unfold Hid; rw [HH.out, if_neg (by omega), if_neg (by simpa using h32)]
        clear HH
        have HH := HH2
        clear HH2
        have HSO : Hid (∀ W : World, Sl W W.heap.size Value.bool (.slice (some ⟨b, off, none⟩) m.length cap) m → Calls Tryd.prog 90 #[.slice (some ⟨b, off, none⟩) m.length cap, .int .i64 32, .int .i64 35] W fun e w' => e = .returned (.bool false) ∧ w' = W) :=
          Lib.hid fun W hs => (rsome_any _ m W 32 3 32 35 hs rfl rfl h35).mono fun e w' ⟨h1, h2⟩ => ⟨by rw [h1, h32]; rfl, h2.symm⟩
        clear h32
        go_enter Tryd.func61, Tryd.ntmps61
        go_wp2
        go_quiet (fail)
        have h19 : 39 ≤ m.length := by omega
        have hs15 : 35 + 4 ≤ m.length := by omega
        obtain ⟨s, hs⟩ : ∃ s, s = nb m 35 4 := ⟨_, rfl⟩
        have hsb := nb_lt (m := m) (a := 35) (n := 4) hs15
        rw [← hs, show (2 : Nat) ^ 4 = 16 from by decide] at hsb
        have HSS := Lib.hid hs
        have hT : headT m 35 = if 8 < s then 15 else if m.length - 39 < 8 * s + 15 then 2 else if 8 * s + 15 < m.length - 39 then 3 else if (nb m (m.length - 15) 15 : Int) ≠ crcS (m.take (m.length - 15)) then 23 else 0 := by
          unfold headT tailF
          rw [← hs]
          by_cases g1 : 8 < s
          · rw [if_pos g1, if_pos g1]; rfl
          rw [if_neg g1, if_neg g1]
          by_cases g2 : m.length - (35 + 4) < 8 * s + 15
          · rw [if_pos g2, if_pos (by omega)]; rfl
          rw [if_neg g2, if_neg (show ¬ m.length - 39 < 8 * s + 15 by omega)]
          by_cases g3 : 8 * s + 15 < m.length - (35 + 4)
          · rw [if_pos g3, if_pos (show 8 * s + 15 < m.length - 39 by omega)]; rfl
          rw [if_neg g3, if_neg (show ¬ 8 * s + 15 < m.length - 39 by omega), show 35 + 4 + 8 * s = m.length - 15 by omega]
          by_cases g4 : (nb m (m.length - 15) 15 : Int) ≠ crcS (m.take (m.length - 15))
          · rw [if_pos g4, if_pos g4]; rfl
          · rw [if_neg g4, if_neg g4]; rfl
        have HT := Lib.hid hT
        clear hT hs
        by_cases g1 : 8 < s
        · have HF : Hid (headNo m = 15) := by unfold Hid; rw [HH.out, HT.out, if_pos g1]
          go_wp2_with (first
            | (go_at_call 89; refine (hdr_wide _).mono ?_; rintro e w9 ⟨rfl, rfl⟩)
            | (go_at_call 90; refine (HSO.out _ (by exact HS.out)).mono ?_; rintro e w9 ⟨rfl, rfl⟩)
            | (go_at_call 59; refine (rtake_any _ m _ 35 4 _ _ (by exact HS.out) (by rfl) (by rfl) hs15 (by omega)).mono ?_; rintro e w9 ⟨rfl, rfl⟩; rw [← HSS.out]))
          go_ret
          exact ⟨ret_int (by rw [HF.out]; rfl), _, rfl⟩
        by_cases g2 : m.length < 39 + 8 * s + 15
        · have HF : Hid (headNo m = 2) := by unfold Hid; rw [HH.out, HT.out, if_neg g1, if_pos (by omega)]
          go_wp2_with (first
            | (go_at_call 89; refine (hdr_wide _).mono ?_; rintro e w9 ⟨rfl, rfl⟩)
            | (go_at_call 90; refine (HSO.out _ (by exact HS.out)).mono ?_; rintro e w9 ⟨rfl, rfl⟩)
            | (go_at_call 59; refine (rtake_any _ m _ 35 4 _ _ (by exact HS.out) (by rfl) (by rfl) hs15 (by omega)).mono ?_; rintro e w9 ⟨rfl, rfl⟩; rw [← HSS.out]))
          go_ret
          exact ⟨ret_int (by rw [HF.out]; rfl), _, rfl⟩
        by_cases g3 : 39 + 8 * s + 15 < m.length
        · have HF : Hid (headNo m = 3) := by unfold Hid; rw [HH.out, HT.out, if_neg g1, if_neg (by omega), if_pos (by omega)]
          go_wp2_with (first
            | (go_at_call 89; refine (hdr_wide _).mono ?_; rintro e w9 ⟨rfl, rfl⟩)
            | (go_at_call 90; refine (HSO.out _ (by exact HS.out)).mono ?_; rintro e w9 ⟨rfl, rfl⟩)
            | (go_at_call 59; refine (rtake_any _ m _ 35 4 _ _ (by exact HS.out) (by rfl) (by rfl) hs15 (by omega)).mono ?_; rintro e w9 ⟨rfl, rfl⟩; rw [← HSS.out]))
          go_ret
          exact ⟨ret_int (by rw [HF.out]; rfl), _, rfl⟩
        have HF0 : Hid (headNo m = if (nb m (m.length - 15) 15 : Int) ≠ crcS (m.take (m.length - 15)) then 23 else 0) := by unfold Hid; rw [HH.out, HT.out, if_neg g1, if_neg (by omega), if_neg (by omega)]
        have hc15 : m.length - 15 + 15 ≤ m.length := by omega
        have e15 : ((m.length : Int) - 15).toNat = m.length - 15 := by omega
        have e15' : (m.length : Int) - 15 = ((m.length - 15 : Nat) : Int) := by omega
        have E15 := Lib.hid e15'
        have hcb := crcS_bd (m.take (m.length - 15))
        have htb := nb_lt (m := m) (a := m.length - 15) (n := 15) hc15
        rw [show (2 : Nat) ^ 15 = 32768 from by decide] at htb
        obtain ⟨c, hc⟩ : ∃ c, c = crcS (m.take (m.length - 15)) := ⟨_, rfl⟩
        obtain ⟨t, ht⟩ : ∃ t, t = nb m (m.length - 15) 15 := ⟨_, rfl⟩
        rw [← hc] at hcb HF0
        rw [← ht] at htb HF0
        have HC := Lib.hid hc
        have HTT := Lib.hid ht
        have HST := Lib.hid (readW.Sl.take_ HS.out (m.length - 15) (by omega))
        clear hc ht e15' HT HH
        by_cases g4 : (t : Int) = c
        · have HF : Hid (headNo m = 0) := by unfold Hid; rw [HF0.out, if_neg (by simpa using g4)]
          clear HF0
          subst g4
          go_wp2_with (first
            | (go_at_call 89; refine (hdr_wide _).mono ?_; rintro e w9 ⟨rfl, rfl⟩)
            | (go_at_call 90; refine (HSO.out _ (by exact HS.out)).mono ?_; rintro e w9 ⟨rfl, rfl⟩)
            | (go_at_call 59; refine (rtake_any _ m _ 35 4 _ _ (by exact HS.out) (by rfl) (by rfl) hs15 (by omega)).mono ?_; rintro e w9 ⟨rfl, rfl⟩; rw [← HSS.out])
            | (go_at_call 84; refine (rsum_any _ (m.take (m.length - 15)) _ (by exact HST.out)).mono ?_; rintro e w9 ⟨rfl, rfl⟩; rw [← HC.out])
            | (go_at_call 59; refine (rtake_any _ m _ (m.length - 15) 15 _ _ (by exact HS.out) (by first | exact E15.out | rfl) (by rfl) hc15 (by omega)).mono ?_; rintro e w9 ⟨rfl, rfl⟩; rw [← HTT.out]))
          go_ret
          exact ⟨ret_int (by rw [HF.out]; rfl), _, rfl⟩
        · have HF : Hid (headNo m = 23) := by unfold Hid; rw [HF0.out, if_pos (by simpa using g4)]
          clear HF0
          have d4 : (c != (t : Int)) = true := by rw [bne_iff_ne]; exact fun h => g4 h.symm
          clear g4
          go_wp2_with (first
            | (go_at_call 89; refine (hdr_wide _).mono ?_; rintro e w9 ⟨rfl, rfl⟩)
            | (go_at_call 90; refine (HSO.out _ (by exact HS.out)).mono ?_; rintro e w9 ⟨rfl, rfl⟩)
            | (go_at_call 59; refine (rtake_any _ m _ 35 4 _ _ (by exact HS.out) (by rfl) (by rfl) hs15 (by omega)).mono ?_; rintro e w9 ⟨rfl, rfl⟩; rw [← HSS.out])
            | (go_at_call 84; refine (rsum_any _ (m.take (m.length - 15)) _ (by exact HST.out)).mono ?_; rintro e w9 ⟨rfl, rfl⟩; rw [← HC.out])
            | (go_at_call 59; refine (rtake_any _ m _ (m.length - 15) 15 _ _ (by exact HS.out) (by first | exact E15.out | rfl) (by rfl) hc15 (by omega)).mono ?_; rintro e w9 ⟨rfl, rfl⟩; rw [← HTT.out]))
          go_ret
          exact ⟨ret_int (by rw [HF.out]; rfl), _, rfl⟩
      · have HF : Hid (headNo m = 4) := by unfold Hid; rw [HH.out, if_neg (by omega), if_pos h32]
        clear HH
        have HSO : Hid (∀ W : World, Sl W W.heap.size Value.bool (.slice (some ⟨b, off, none⟩) m.length cap) m → Calls Tryd.prog 90 #[.slice (some ⟨b, off, none⟩) m.length cap, .int .i64 32, .int .i64 35] W fun e w' => e = .returned (.bool true) ∧ w' = W) :=
          Lib.hid fun W hs => (rsome_any _ m W 32 3 32 35 hs rfl rfl h35).mono fun e w' ⟨h1, h2⟩ => ⟨by rw [h1, decide_eq_false h32]; rfl, h2.symm⟩
        clear h32
        go_enter Tryd.func61, Tryd.ntmps61
        go_wp2
        go_quiet (fail)
        go_wp2_with (first
          | (go_at_call 89; refine (hdr_wide _).mono ?_; rintro e w9 ⟨rfl, rfl⟩)
          | (go_at_call 90; refine (HSO.out _ (by exact HS.out)).mono ?_; rintro e w9 ⟨rfl, rfl⟩))
        go_ret
        exact ⟨ret_int (by rw [HF.out]; rfl), _, rfl⟩
end refW
end Go.Proofs.YthjjockimpndbaaDoor
