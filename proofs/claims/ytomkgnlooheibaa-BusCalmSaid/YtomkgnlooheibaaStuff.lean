/- stuff.Stuff, frame.Wire: a row, stuffed, with what stands behind it. -/
import Derived.Test.YtomkgnlooheibaaPut
import Derived.Test.YtomkgnlooheibaaStuffLaw
import Derived.Laws.CopyOwn
namespace Go.Proofs.Ytomkgnlooheibaa
open Go.RowKit Go.Bus Go.Bus.bitK Go.Bus.stuffK
set_option linter.unusedVariables false
namespace stuffW
/-- What a call of see leaves. -/
def Seen (w : World) (b : Nat) (s : Bool × Nat) (bit : Bool) (e : Ending) (w' : World) : Prop :=
  e = .returned (.bool (decide ((seeN s bit).2 = 5))) ∧ Has w' b 144 #[.bool (seeN s bit).1, .int .i64 (seeN s bit).2] ∧ w.grownBy w' (some b) ∧ w'.heap.size = w.heap.size

set_option maxRecDepth 100000 in
set_option maxHeartbeats 1000000 in
theorem see_any (b : Nat) (s : Bool × Nat) (bit : Bool) (w : World) (h : Has w b 144 #[.bool s.1, .int .i64 s.2]) (hn : s.2 ≤ 1000000) :
    Calls Try.prog 61 #[.pointer (some ⟨b, 0, none⟩), .bool bit] w (Seen w b s bit) := by
  obtain ⟨last, n⟩ := s
  have hc0 := h.cell 0
  have hc1 := h.cell 1
  have hf0 := h.frozen 0
  have hf1 := h.frozen 1
  simp only [List.getElem?_toArray, List.getElem?_cons_zero, List.getElem?_cons_succ] at hc0 hc1
  have hn' : n ≤ 1000000 := hn
  have HH := Lib.hid h; clear h hn
  by_cases h0 : 0 < n
  · have d0 : decide (0 < (n : Int)) = true := by simp; omega
    by_cases hl : last = bit
    · subst hl
      have h2 := (HH.out).set 1 (.int .i64 ((n : Int) + 1))
      have H2 := Lib.hid h2; clear h2
      go_enter Try.func61, Try.ntmps61
      go_wp2
      go_ret
      have hs : seeN (last, n) last = (last, n + 1) := by simp [seeN, h0]
      refine ⟨ret_bool ?_, ?_, ?_, by simp⟩
      · rw [hs, Bool.eq_iff_iff]; simp only [beq_iff_eq, decide_eq_true_eq]; omega
      · rw [hs]; simpa using H2.out
      · exact only_set (World.grownBy.refl _ _) _ _
    · have d1 : (last == bit) = false := by simpa using hl
      have h2 := ((HH.out).set 0 (.bool bit)).set 1 (.int .i64 1)
      have H2 := Lib.hid h2; clear h2
      go_enter Try.func61, Try.ntmps61
      go_wp2
      go_ret
      have hs : seeN (last, n) bit = (bit, 1) := by simp [seeN, hl]
      refine ⟨ret_bool (by rw [hs]; rfl), ?_, ?_, by simp⟩
      · rw [hs]; simpa using H2.out
      · exact only_set (only_set (World.grownBy.refl _ _) _ _) _ _
  · obtain rfl : n = 0 := by omega
    have h2 := ((HH.out).set 0 (.bool bit)).set 1 (.int .i64 1)
    have H2 := Lib.hid h2; clear h2
    go_enter Try.func61, Try.ntmps61
    go_wp2
    go_ret
    have hs : seeN (last, 0) bit = (bit, 1) := by simp [seeN]
    refine ⟨ret_bool (by rw [hs]; rfl), ?_, ?_, by simp⟩
    · rw [hs]; simpa using H2.out
    · exact only_set (only_set (World.grownBy.refl _ _) _ _) _ _

set_option maxRecDepth 100000 in
set_option maxHeartbeats 1000000 in
theorem stuff_any (v : Value) (l : List Bool) (w : World) (h : Sl w w.heap.size Value.bool v l) (hlen : l.length ≤ 1000000000) :
    Calls Try.prog 49 #[v] w (putK.Own w.heap.size w (stuffF l)) := by
  obtain ⟨A, cap, rfl, hcap, hmax⟩ := h.form
  obtain ⟨i0, hi, hz0, hz1, hz2⟩ := info_parts Try.infoBool
  have hmk := fun W => run_make (P := Try.prog) W 52 4 i0 (.bool false) Try.underlying52 hi hz0 .i64 .i64 0 ((l.length : Int) + (l.length : Int) / 4 + 1) (by omega) (by omega) (by rw [hz2]; omega) (by omega)
  rw [hz1] at hmk
  have HL := Lib.hid h; clear h
  unfold maxLen at hmax
  go_enter Try.func49, Try.ntmps49
  go_wp2
  go_loopw [3, 6, 18] (fun o _ i wr => ∃ k : Nat, k ≤ l.length ∧ i = .int .i64 k ∧ wr.ownsRow w.heap.size 4 1 o (runS (l.take k)).2.length ((runS (l.take k)).2.map Value.bool) ∧
      Has wr (w.heap.size + 1) 144 #[.bool (runS (l.take k)).1.1, .int .i64 (runS (l.take k)).1.2] ∧ Below w.heap.size w wr) (fun _ _ i _ => l.length - (intOf i).toNat)
  case atStart => exact ⟨0, Nat.zero_le _, rfl, (own_made 0 _ (by omega) (by omega) (Nat.le_refl _)).alloc _, by simpa [runS] using Has.new (w.alloc _) _ _, (by repeat' (first | (with_reducible assumption) | (with_reducible refine Below.setCell ?_ ?_ _) | (with_reducible refine Below.alloc ?_ ?_ _) | (with_reducible refine Below.drew ?_) | (with_reducible refine below_drewN ?_ _) | (with_reducible exact Below.refl _ _) | (show _ ≤ _; (try simp); (try omega); done) | exact Below.refl _ _ | assumption))⟩
  case round =>
    obtain ⟨k, hk, rfl, hown, hhas, hbel⟩ := hrel
    have hbs := hbel.size
    have hbd := run_bd (l.take k)
    rw [List.length_take, Nat.min_eq_left hk] at hbd
    by_cases hlt : k < l.length
    · obtain ⟨b, off, rfl, hb, hc0⟩ := HL.out.at_ hlt
      have hc : wr.cell? ⟨b, off + k, none⟩ = some (.bool l[k]) := (hbel.cell (p := ⟨b, off + k, none⟩) hb).trans hc0
      clear hc0
      have hst := runS_take l k hlt
      generalize l[k] = bit at *
      obtain ⟨⟨s, out⟩, hrs⟩ : ∃ p, p = runS (l.take k) := ⟨_, rfl⟩
      rw [← hrs] at hown hhas hbd hst
      have HR := Lib.hid hrs; clear hrs
      have HST := Lib.hid hst; clear hst
      simp only at hown hhas hbd
      obtain ⟨hbd1, hbd2⟩ := hbd
      have HH := Lib.hid hhas; clear hhas
      have HO := Lib.hid hown; clear hown
      go_wp2_with (at_builtin; refine wpList_append_own _ rfl _ _ 52 rfl w.heap.size 4 i0 (.bool false) 1 1 Try.underlying52 hi hz0 hz1 hz2 rfl (by decide) _ _ _ rfl (HO.out.alloc _) ⟨wr.heap.size, 0, none⟩ 1 1 [.bool bit] rfl rfl ?c1 ?c2 ?c3 ?c4 ?c5 ?_)
      case c1 => exact one_new wr _ _
      case c2 => intro u hu; simp at hu; subst hu; rfl
      case c3 => (try simp only [List.length_append, List.length_cons, List.length_nil]); unfold maxLen; omega
      case c4 => (try simp only [List.length_append, List.length_cons, List.length_nil]); omega
      case c5 => simp; omega
      intro v1 w1 hown1 hg1 _
      have hne := own_has_ne (HO.out.alloc (.cells #[.bool bit] 4)) (HH.out.alloc _) (by decide)
      have hh1 : Has w1 _ _ _ := (HH.out.alloc _).grown hg1 (fun e => hne e.symm)
      have hr := Round.step hbel HO.out hown1 hg1 (hxs := rfl)
      obtain ⟨_, hbel1⟩ := hr
      have HO1 : Hid (w1.ownsRow w.heap.size 4 1 v1 (out ++ [bit]).length ((out ++ [bit]).map Value.bool)) := by simpa [Hid] using hown1
      have HH1 := Lib.hid hh1
      clear hown1 hg1 hne hh1 hc hbel HO HH
      go_wp2_with fail
      refine (see_any (w.heap.size + 1) s bit w1 HH1.out (by omega)).mono ?_
      rintro e w2 ⟨rfl, hh2, hg2, hz2⟩
      have hbel2 := below_only hbel1 hg2 hbel1.size (by omega)
      have HO2 := Lib.hid (own_far HO1.out HH1.out (by decide) hg2)
      have HZ2 := Lib.hid hz2; clear hz2
      have hbs2 := hbel2.size
      clear hbel1 HO1 HH1 hg2
      by_cases h5 : (seeN s bit).2 = 5
      · have d5 : decide ((seeN s bit).2 = 5) = true := by simp [h5]
        have HST' : Hid (runS (l.take (k + 1)) = ((!bit, 1), out ++ [bit, !bit])) := by have := HST.out; rw [stepS, if_pos h5] at this; exact this
        clear h5 HST
        have HH2 := Lib.hid hh2; clear hh2
        go_wp2_with (at_builtin; refine wpList_append_own _ rfl _ _ 52 rfl w.heap.size 4 i0 (.bool false) 1 1 Try.underlying52 hi hz0 hz1 hz2 rfl (by decide) _ _ _ rfl (HO2.out.alloc _) ⟨w2.heap.size, 0, none⟩ 1 1 [.bool (!bit)] rfl rfl ?d1 ?d2 ?d3 ?d4 ?d5 ?_)
        case d1 => exact one_new w2 _ _
        case d2 => intro u hu; simp at hu; subst hu; rfl
        case d3 => (try simp only [List.length_append, List.length_cons, List.length_nil]); unfold maxLen; omega
        case d4 => (try simp only [List.length_append, List.length_cons, List.length_nil]); omega
        case d5 => simp; omega
        intro v3 w3 hown3 hg3 _
        have hne := own_has_ne (HO2.out.alloc (.cells #[.bool (!bit)] 4)) (HH2.out.alloc _) (by decide)
        have hh3 : Has w3 _ _ _ := (HH2.out.alloc _).grown hg3 (fun e => hne e.symm)
        have hr := Round.step hbel2 HO2.out hown3 hg3 (hxs := rfl)
        obtain ⟨_, hbel3⟩ := hr
        have HO3 : Hid (w3.ownsRow w.heap.size 4 1 v3 (out ++ [bit, !bit]).length ((out ++ [bit, !bit]).map Value.bool)) := by simpa [Hid] using hown3
        have c0 := hh3.cell 0
        have c1 := hh3.cell 1
        have f0 := hh3.frozen 0
        have f1 := hh3.frozen 1
        simp only [List.getElem?_toArray, List.getElem?_cons_zero, List.getElem?_cons_succ] at c0 c1
        have HH3 := Lib.hid ((hh3.set 0 (.bool (!bit))).set 1 (.int .i64 1))
        have HO4 := Lib.hid (own_far (own_far HO3.out hh3 (by decide) (only_set (World.grownBy.refl _ _) 0 (.bool (!bit)))) (hh3.set 0 (.bool (!bit))) (by decide) (only_set (World.grownBy.refl _ _) 1 (.int .i64 1)))
        clear hown3 hg3 hne hh3 hbel2 HO2 HH2
        go_wp2
        go_roundw
        case rel => exact ⟨k + 1, by omega, by go_num, by rw [HST'.out]; exact HO4.out, by rw [HST'.out]; simpa using HH3.out, (hbel3.setCell (by simp) _).setCell (by simp) _⟩
        case measure => first | (simp [intOf]; done) | (simp [intOf]; omega)
      · have d5 : decide ((seeN s bit).2 = 5) = false := by simp [h5]
        have HST' : Hid (runS (l.take (k + 1)) = (seeN s bit, out ++ [bit])) := by have := HST.out; rw [stepS, if_neg h5] at this; exact this
        clear h5 HST
        have HH2 := Lib.hid hh2; clear hh2
        go_wp2
        go_roundw
        case rel => exact ⟨k + 1, by omega, by go_num, by rw [HST'.out]; exact HO2.out, by rw [HST'.out]; exact HH2.out, hbel2⟩
        case measure => first | (simp [intOf]; done) | (simp [intOf]; omega)
    · obtain rfl : k = l.length := by omega
      rw [List.take_of_length_le (Nat.le_refl _)] at hown hbd
      have hfin : stuffF l = (runS l).2 := rfl
      rw [← hfin] at hown hbd
      clear hhas hfin
      have hsl := Sl.of_own hown
      obtain ⟨A', cap', rfl, hcap', hmax'⟩ := hsl.form
      obtain ⟨hbd1, hbd2⟩ := hbd
      unfold maxLen at hmax'
      have HSL := Lib.hid hsl; clear hsl
      have HO := Lib.hid hown; clear hown
      have hmk2 := fun W => run_make (P := Try.prog) W 52 4 i0 (.bool false) Try.underlying52 hi hz0 .i64 .i64 ((stuffF l).length : Int) ((stuffF l).length : Int) (by omega) (by omega) (by rw [hz2]; omega) (by omega)
      rw [hz1] at hmk2
      have hlen2 : (stuffF l).length ≤ 2000000000 := by omega
      clear hbd1 hbd2
      obtain ⟨w9, hrun, hown9, hb9, hz9⟩ := copy_fresh (P := Try.prog) (T := 52) (ty := 3) (z := .bool false) Try.underlying52 (by kernel_rfl) HO.out (by intro u hu; simp at hu; rcases hu with ⟨_, rfl⟩ | ⟨_, rfl⟩ <;> rfl) (by omega)
      have H9 := Lib.hid hown9; clear hown9
      have HZ9 := Lib.hid hz9; clear hz9
      go_wp2
      go_ret
      exact ⟨_, rfl, own_base H9.out hbs, hbel.trans (hb9.mono hbs)⟩
end stuffW
end Go.Proofs.Ytomkgnlooheibaa
