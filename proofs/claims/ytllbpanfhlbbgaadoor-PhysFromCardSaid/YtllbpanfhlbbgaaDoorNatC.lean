/- Walk of busbarref02.common. Condition: at most 100 digits. -/
import Derived.Test.YtllbpanfhlbbgaaDoorNatD
import Derived.Test.YtllbpanfhlbbgaaDoorNatG
namespace Go.Proofs.YtllbpanfhlbbgaaDoor
open Go.RowKit Go.Bus Go.Nt
set_option linter.unusedVariables false
set_option linter.unusedSimpArgs false
namespace natW
theorem digs_len_mono {a b : Nat} (h : a ≤ b) : (digs a).length ≤ (digs b).length := (digs_len_iff a _).2 (Nat.lt_of_le_of_lt h (digs_len b))
theorem len_pos {n : Nat} (h : 0 < n) : 1 ≤ (digs n).length := by
  rcases Nat.eq_zero_or_pos (digs n).length with h0 | h0
  · have := digs_nil.1 (List.eq_nil_of_length_eq_zero h0); omega
  · exact h0

set_option maxRecDepth 100000 in
set_option maxHeartbeats 2000000 in
theorem common_any (v u : Value) (a b : Nat) (w : World) (h : Nt w v a) (h' : Nt w u b) (ha : (digs a).length ≤ 100) (hb : (digs b).length ≤ 100) :
    Calls Tryd.prog 62 #[v, u] w fun e w' => ∃ x g, e = .returned x ∧ Nt w' x g ∧ Com a b g ∧ Below w.heap.size w w' := by
  have H0 : Hid (∃ x y : Nat, Cst a b 0 x y ∧ (digs x).length ≤ 100 ∧ (digs y).length ≤ 100 ∧ Nt w v x ∧ Nt w u y ∧ Below w.heap.size w w) := Lib.hid ⟨a, b, Cst.start a b, ha, hb, h, h', Below.refl _ _⟩
  clear h h' ha hb
  go_enter Tryd.func62, Tryd.ntmps62
  go_wp2
  go_loopw [0, 1, 5] (fun o p i wr => ∃ k : Nat, i = .int .i64 (k : Int) ∧ k ≤ 20000 ∧ Hid (∃ x y : Nat, Cst a b k x y ∧ (digs x).length ≤ 100 ∧ (digs y).length ≤ 100 ∧ Nt wr o x ∧ Nt wr p y ∧ Below w.heap.size w wr)) (fun _ _ i _ => 20000 - (intOf i).toNat)
  case atStart => exact ⟨0, rfl, by omega, H0⟩
  case round =>
    clear H0
    obtain ⟨k, rfl, hk, HR⟩ := hrel
    obtain ⟨x, y, hc, lx, ly, nx, ny, hb⟩ := HR.out
    obtain ⟨A, cx, rfl, p1, p2⟩ := Sl.form nx
    obtain ⟨B, cy, rfl, p3, p4⟩ := Sl.form ny
    have p5 : cx ≤ 9223372036854775807 := by unfold maxLen at p2; omega
    have p6 : cy ≤ 9223372036854775807 := by unfold maxLen at p4; omega
    have HC := Lib.hid hc
    have HX := Lib.hid nx
    have HY := Lib.hid ny
    have HB := Lib.hid hb
    have LX : Hid (0 < x → 1 ≤ (digs x).length) := Lib.hid len_pos
    have LY : Hid (0 < y → 1 ≤ (digs y).length) := Lib.hid len_pos
    have LY0 : Hid (1 ≤ (digs y).length → 0 < y) := Lib.hid (fun h => by rcases Nat.eq_zero_or_pos y with h0 | h0; subst h0; rw [digs_zero] at h; simp at h; exact h0)
    have HLX := Lib.hid (Nat.le_trans lx (show 100 ≤ 500 by decide))
    have HLY := Lib.hid (Nat.le_trans ly (show 100 ≤ 500 by decide))
    have MR : Hid ((digs (x % y)).length ≤ 100) := Lib.hid (Nat.le_trans (digs_len_mono (Nat.mod_le x y)) lx)
    have HLY2 := Lib.hid ly
    clear hc nx ny hb HR p2 p4
    generalize hlx : (digs x).length = m at *
    generalize hly : (digs y).length = n at *
    have HLXE := Lib.hid hlx
    have HLYE := Lib.hid hly
    clear hlx hly
    by_cases h1 : k < 64 * (m + n) + 2
    · have d1 : decide ((k : Int) < 64 * ((m : Int) + (n : Int)) + 2) = true := decide_eq_true (by omega)
      by_cases h2 : 0 < n
      · have d2 : decide (0 < n) = true := decide_eq_true h2
        have hy := LY0.out h2
        have CD : Hid (Calls Tryd.prog 67 #[.slice A m cx, .slice B n cy] wr fun e w' => ∃ q r, e = .returned (.tuple #[q, r]) ∧ Nt w' q (x / y) ∧ Nt w' r (x % y) ∧ Below wr.heap.size wr w') := Lib.hid (divided_any _ _ x y wr HX.out HY.out (by rw [HLXE.out]; exact HLX.out) (by rw [HLYE.out]; exact HLY.out) hy)
        have HS := Lib.hid (HC.out.step hy)
        clear hy
        go_wp2_with fail
        refine CD.out.mono ?_
        rintro e w1 ⟨q, r, rfl, hq, hr, hb1⟩
        have HR1 := Lib.hid hr
        have HY1 := Lib.hid (HY.out.at_below hb1)
        have HB1 := Lib.hid (HB.out.trans (hb1.mono HB.out.size))
        clear hq hr hb1 CD
        go_wp2
        go_roundw
        case rel => exact ⟨k + 1, by go_num, by omega, Lib.hid ⟨y, x % y, HS.out, by rw [HLYE.out]; exact HLY2.out, MR.out, HY1.out, HR1.out, HB1.out⟩⟩
        case measure => simp [intOf]; omega
      · obtain rfl : n = 0 := by omega
        have HY0 : Hid (y = 0) := Lib.hid (digs_nil.1 (List.eq_nil_of_length_eq_zero HLYE.out))
        go_wp2
        go_ret
        have hz := HC.out
        rw [HY0.out] at hz
        exact ⟨_, x, rfl, HX.out, hz.zero, HB.out⟩
    · have d1 : decide ((k : Int) < 64 * ((m : Int) + (n : Int)) + 2) = false := decide_eq_false (by omega)
      have HCOM : Hid (Com a b x) := Lib.hid (by
        rcases Nat.eq_zero_or_pos y with h0 | h0
        · have hz := HC.out; rw [h0] at hz; exact hz.zero
        · have hn := LY.out h0
          have hx0 : 0 < x := by
            rcases HC.out.2 with ⟨hk0, _⟩ | ⟨_, h3, _⟩
            · omega
            · omega
          have hm := LX.out hx0
          exact HC.out.early h0 (by omega))
      go_wp2
      go_ret
      exact ⟨_, x, rfl, HX.out, HCOM.out, HB.out⟩
end natW
end Go.Proofs.YtllbpanfhlbbgaaDoor
