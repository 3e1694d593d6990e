/- stuff.Unstuff: the stuffed bits taken out again. -/
import Derived.Test.YtomkgnlooheibaaStuff
import Derived.Test.YtomkgnlooheibaaUnLaw
import Derived.WalkLawsBesides
import Derived.WalkSpells
import Derived.Outline
namespace Go.Proofs.Ytomkgnlooheibaa
open Go.RowKit Go.Bus Go.Bus.bitK Go.Bus.stuffK
set_option linter.unusedVariables false
namespace unW
def faultV (no at_ : Nat) : Value := .iface 147 (.agg #[.int .i64 (no : Int), .int .i64 0, .int .i64 (at_ : Int)])
/-- What a call answers, r being what the row comes to. -/
def UnPost (r : UnR) (w : World) (e : Ending) (w' : World) : Prop :=
  match r with
  | .ok m => ∃ v, e = .returned (.tuple #[v, .nilIface]) ∧ w'.ownsRow w.heap.size 4 1 v m.length (m.map Value.bool) ∧ Below w.heap.size w w'
  | .error x => e = .returned (.tuple #[.slice none 0 0, faultV (if x.1 = 0 then 2 else 22) x.2]) ∧ Below w.heap.size w w'

def lenV : Value → Nat
  | .slice _ n _ => n
  | _ => 0

set_option maxRecDepth 100000 in
set_option maxHeartbeats 1000000 in
theorem un_any (v : Value) (l : List Bool) (w : World) (h : Sl w w.heap.size Value.bool v l) (hlen : l.length ≤ 140737488351232) :
    Calls Try.prog 52 #[v] w (UnPost (unF (false, 0) 0 l) w) := by
  obtain ⟨A, cap, rfl, hcap, hmax⟩ := h.form
  obtain ⟨i0, hi, hz0, hz1, hz2⟩ := info_parts Try.infoBool
  unfold maxLen at hmax
  have HL := Lib.hid h; clear h
  obtain ⟨R, hR⟩ : ∃ R, R = unF (false, 0) 0 l := ⟨_, rfl⟩
  rw [← hR]
  rcases Nat.eq_zero_or_pos l.length with h0 | h0
  · obtain rfl : l = [] := List.eq_nil_of_length_eq_zero h0
    have HR : Hid (R = .ok []) := by rw [hR]; rfl
    clear hR h0
    rcases A with _ | ad
    all_goals
      go_enter Try.func52, Try.ntmps52
      go_wp2
      refine wp_loop_rounds 1 ?_
      rw [rounds_succ]
      go_wp2
      go_ret2
      rw [HR.out]
      exact ⟨_, rfl, World.ownsRow_nil _ _ _ _, (by repeat' (first | (with_reducible assumption) | (with_reducible refine Below.setCell ?_ ?_ _) | (with_reducible refine Below.alloc ?_ ?_ _) | (with_reducible refine Below.drew ?_) | (with_reducible refine below_drewN ?_ _) | (with_reducible exact Below.refl _ _) | (show _ ≤ _; (try simp); (try omega); done) | exact Below.refl _ _ | assumption))⟩
  obtain ⟨b, off, rfl, hb, hc00⟩ := HL.out.at_ h0
  clear hc00
  have HR : Hid (R = pre [] (unF (false, 0) 0 (l.drop 0))) := by rw [hR, pre_nil]; rfl
  clear hR
  go_enter Try.func52, Try.ntmps52
  go_wp2
  go_loopw [4, 6] (fun o t wr => ∃ (k n : Nat) (A : Option Addr) (s : Bool × Nat) (xs : List Bool), k + n = l.length ∧ t = .slice A n n ∧ Hid (0 < n → A = some ⟨b, off + k, none⟩) ∧ Hid (R = pre xs (unF s k (l.drop k))) ∧
      wr.ownsRow w.heap.size 4 1 o xs.length (xs.map Value.bool) ∧ Has wr w.heap.size 144 #[.bool s.1, .int .i64 s.2] ∧ s.2 ≤ 4 ∧ xs.length ≤ k ∧ Below w.heap.size w wr) (fun _ t _ => lenV t)
  case atStart => exact ⟨0, l.length, _, (false, 0), [], by omega, rfl, Lib.hid (fun _ => by simp), HR, World.ownsRow_nil _ _ _ _, Has.new _ _ _, by simp, by simp, (by repeat' (first | (with_reducible assumption) | (with_reducible refine Below.setCell ?_ ?_ _) | (with_reducible refine Below.alloc ?_ ?_ _) | (with_reducible refine Below.drew ?_) | (with_reducible refine below_drewN ?_ _) | (with_reducible exact Below.refl _ _) | (show _ ≤ _; (try simp); (try omega); done) | exact Below.refl _ _ | assumption))⟩
  case round =>
    obtain ⟨k, n, A, s, xs, hkn, rfl, HA, HRk, hown, hhas, hs4, hxk, hbel⟩ := hrel
    clear HR
    have hbs := hbel.size
    rcases n with _ | n
    · have HF : Hid (R = .ok xs) := by
        unfold Hid
        rw [HRk.out, List.drop_of_length_le (by omega)]
        show pre xs (.ok []) = _
        rw [pre_ok, List.append_nil]
      have HO := Lib.hid hown
      clear hown hhas HRk HA
      go_wp2
      go_ret2
      rw [HF.out]
      exact ⟨_, rfl, HO.out, hbel⟩
    · obtain rfl := HA.out (by omega)
      clear HA
      have hlt : k < l.length := by omega
      obtain ⟨b2, o2, e2, hb2, hc0⟩ := HL.out.at_ hlt
      obtain ⟨rfl, rfl⟩ : b = b2 ∧ off = o2 := by simpa using e2
      have hc : wr.cell? ⟨b, off + k, none⟩ = some (.bool l[k]) := (hbel.cell (p := ⟨b, off + k, none⟩) hb).trans hc0
      clear hc0 e2 hb2
      have hd := drop_cons hlt
      have HD := Lib.hid hd; clear hd
      generalize l[k] = bit at *
      obtain ⟨sl, sn⟩ := s
      simp only at hhas hs4
      have HH := Lib.hid hhas; clear hhas
      have HO := Lib.hid hown; clear hown
      have hs5 := see_le (s := (sl, sn)) bit hs4
      have HS5 := Lib.hid hs5; clear hs5
      by_cases h5 : (seeN (sl, sn) bit).2 = 5
      · have d5 : decide ((seeN (sl, sn) bit).2 = 5) = true := by simp [h5]
        have H5 := Lib.hid h5; clear h5
        by_cases hn0 : n = 0
        · subst hn0
          have HF : Hid (R = .error (0, k + 1)) := by
            unfold Hid
            rw [HRk.out, HD.out, List.drop_of_length_le (by omega)]
            exact un_short H5.out
          go_wp2_with (at_builtin; refine wpList_append_own _ rfl _ _ 52 rfl w.heap.size 4 i0 (.bool false) 1 1 Try.underlying52 hi hz0 hz1 hz2 rfl (by decide) _ _ _ rfl (HO.out.alloc _) ⟨wr.heap.size, 0, none⟩ 1 1 [.bool bit] rfl rfl ?c1 ?c2 ?c3 ?c4 ?c5 ?_)
          case c1 => exact one_new wr _ _
          case c2 => intro u hu; simp at hu; subst hu; rfl
          case c3 => unfold maxLen; omega
          case c4 => omega
          case c5 => simp; omega
          intro v1 w1 hown1 hg1 _
          have hne := own_has_ne (HO.out.alloc (.cells #[.bool bit] 4)) (HH.out.alloc _) (by decide)
          have hh1 : Has w1 _ _ _ := (HH.out.alloc _).grown hg1 (fun e => hne e.symm)
          have hr := Round.step hbel HO.out hown1 hg1 (hxs := rfl)
          obtain ⟨_, hbel1⟩ := hr
          have HO1 : Hid (w1.ownsRow w.heap.size 4 1 v1 (xs ++ [bit]).length ((xs ++ [bit]).map Value.bool)) := by simpa [Hid] using hown1
          have HH1 := Lib.hid hh1
          clear hown1 hg1 hne hh1 hbel HO HH
          go_wp2_with fail
          refine (stuffW.see_any w.heap.size (sl, sn) bit w1 HH1.out (by simp only; omega)).mono ?_
          rintro e w2 ⟨rfl, hh2, hg2, hz2⟩
          have hbel2 := below_only hbel1 hg2 hbel1.size (Nat.le_refl _)
          have HO2 := Lib.hid (own_far HO1.out HH1.out (by decide) hg2)
          have HZ2 := Lib.hid hz2; clear hz2
          have hbs2 := hbel2.size
          have HH2 := Lib.hid hh2; clear hh2
          clear hbel1 HO1 HH1 hg2
          go_wp2
          go_ret2
          rw [HF.out]
          refine ⟨?_, hbel2⟩
          unfold faultV
          rw [if_pos rfl]
          have e1 : ((k + 1 : Nat) : Int) = (l.length : Int) := by omega
          rw [e1]
          try rfl
        · have hlt2 : k + 1 < l.length := by omega
          obtain ⟨b2, o2, e2, hb2, hc0⟩ := HL.out.at_ hlt2
          obtain ⟨rfl, rfl⟩ : b = b2 ∧ off = o2 := by simpa using e2
          clear e2 hb2
          have hd := drop_cons hlt2
          have HD2 := Lib.hid hd; clear hd
          generalize l[k + 1] = c at *
          have HC0 := Lib.hid hc0; clear hc0
          go_wp2_with (at_builtin; refine wpList_append_own _ rfl _ _ 52 rfl w.heap.size 4 i0 (.bool false) 1 1 Try.underlying52 hi hz0 hz1 hz2 rfl (by decide) _ _ _ rfl (HO.out.alloc _) ⟨wr.heap.size, 0, none⟩ 1 1 [.bool bit] rfl rfl ?c1 ?c2 ?c3 ?c4 ?c5 ?_)
          case c1 => exact one_new wr _ _
          case c2 => intro u hu; simp at hu; subst hu; rfl
          case c3 => unfold maxLen; omega
          case c4 => omega
          case c5 => simp; omega
          intro v1 w1 hown1 hg1 _
          have hne := own_has_ne (HO.out.alloc (.cells #[.bool bit] 4)) (HH.out.alloc _) (by decide)
          have hh1 : Has w1 _ _ _ := (HH.out.alloc _).grown hg1 (fun e => hne e.symm)
          have hr := Round.step hbel HO.out hown1 hg1 (hxs := rfl)
          obtain ⟨_, hbel1⟩ := hr
          have HO1 : Hid (w1.ownsRow w.heap.size 4 1 v1 (xs ++ [bit]).length ((xs ++ [bit]).map Value.bool)) := by simpa [Hid] using hown1
          have HH1 := Lib.hid hh1
          clear hown1 hg1 hne hh1 hbel HO HH
          go_wp2_with fail
          refine (stuffW.see_any w.heap.size (sl, sn) bit w1 HH1.out (by simp only; omega)).mono ?_
          rintro e w2 ⟨rfl, hh2, hg2, hz2⟩
          have hbel2 := below_only hbel1 hg2 hbel1.size (Nat.le_refl _)
          have HO2 := Lib.hid (own_far HO1.out HH1.out (by decide) hg2)
          have HZ2 := Lib.hid hz2; clear hz2
          have hbs2 := hbel2.size
          have HH2 := Lib.hid hh2; clear hh2
          clear hbel1 HO1 HH1 hg2
          have hc3 : w2.cell? ⟨b, off + k + 1, none⟩ = some (.bool c) := by rw [Nat.add_assoc]; exact (hbel2.cell (p := ⟨b, off + (k + 1), none⟩) hb).trans HC0.out
          by_cases hcb : c = bit
          · subst hcb
            have HF : Hid (R = .error (1, k + 1)) := by
              unfold Hid
              rw [HRk.out, HD.out, HD2.out]
              exact un_ill H5.out
            go_wp2
            go_ret2
            rw [HF.out]
            refine ⟨?_, hbel2⟩
            unfold faultV
            rw [if_neg (by simp)]
            have e1 : ((k + 1 : Nat) : Int) = (l.length : Int) - (n : Int) := by omega
            rw [e1]
            try rfl
          · have d6 : (c == bit) = false := by simp [hcb]
            have HF : Hid (R = pre (xs ++ [bit]) (unF (!bit, 1) (k + 2) (l.drop (k + 2)))) := by
              unfold Hid
              rw [HRk.out, HD.out, HD2.out]
              exact un_skip H5.out hcb
            clear hcb HRk HD HD2
            have hh2 := HH2.out
            have c0 := hh2.cell 0
            have c1 := hh2.cell 1
            have f0 := hh2.frozen 0
            have f1 := hh2.frozen 1
            simp only [List.getElem?_toArray, List.getElem?_cons_zero, List.getElem?_cons_succ] at c0 c1
            have HH3 := Lib.hid ((hh2.set 0 (.bool (!bit))).set 1 (.int .i64 1))
            have HO4 := Lib.hid (own_far (own_far HO2.out hh2 (by decide) (only_set (World.grownBy.refl _ _) 0 (.bool (!bit)))) (hh2.set 0 (.bool (!bit))) (by decide) (only_set (World.grownBy.refl _ _) 1 (.int .i64 1)))
            clear hh2 HO2 HH2
            by_cases hn1 : n = 1
            · subst hn1
              go_wp2
              go_roundw
              case rel => exact ⟨k + 2, 0, _, (!bit, 1), xs ++ [bit], by omega, rfl, Lib.hid (fun h => absurd h (by omega)), HF, HO4.out, by simpa using HH3.out, by simp, by simp; omega, (hbel2.setCell (by simp) _).setCell (by simp) _⟩
              case measure => simp [lenV]
            · obtain ⟨m, rfl⟩ : ∃ m, n = m + 2 := ⟨n - 2, by omega⟩
              go_wp2
              go_roundw
              case rel => exact ⟨k + 2, m + 1, _, (!bit, 1), xs ++ [bit], by omega, rfl, Lib.hid (fun h => by first | rfl | simp [Nat.add_assoc]), HF, HO4.out, by simpa using HH3.out, by simp, by simp; omega, (hbel2.setCell (by simp) _).setCell (by simp) _⟩
              case measure => simp [lenV]
      · have d5 : decide ((seeN (sl, sn) bit).2 = 5) = false := by simp [h5]
        have HF : Hid (R = pre (xs ++ [bit]) (unF (seeN (sl, sn) bit) (k + 1) (l.drop (k + 1)))) := by
          unfold Hid
          rw [HRk.out, HD.out]
          exact un_on h5
        have hs4' : (seeN (sl, sn) bit).2 ≤ 4 := by have := HS5.out; omega
        have HS4 := Lib.hid hs4'
        clear hs4' h5 HRk HD HS5
        by_cases hn0 : n = 0
        · subst hn0
          go_wp2_with (at_builtin; refine wpList_append_own _ rfl _ _ 52 rfl w.heap.size 4 i0 (.bool false) 1 1 Try.underlying52 hi hz0 hz1 hz2 rfl (by decide) _ _ _ rfl (HO.out.alloc _) ⟨wr.heap.size, 0, none⟩ 1 1 [.bool bit] rfl rfl ?c1 ?c2 ?c3 ?c4 ?c5 ?_)
          case c1 => exact one_new wr _ _
          case c2 => intro u hu; simp at hu; subst hu; rfl
          case c3 => unfold maxLen; omega
          case c4 => omega
          case c5 => simp; omega
          intro v1 w1 hown1 hg1 _
          have hne := own_has_ne (HO.out.alloc (.cells #[.bool bit] 4)) (HH.out.alloc _) (by decide)
          have hh1 : Has w1 _ _ _ := (HH.out.alloc _).grown hg1 (fun e => hne e.symm)
          have hr := Round.step hbel HO.out hown1 hg1 (hxs := rfl)
          obtain ⟨_, hbel1⟩ := hr
          have HO1 : Hid (w1.ownsRow w.heap.size 4 1 v1 (xs ++ [bit]).length ((xs ++ [bit]).map Value.bool)) := by simpa [Hid] using hown1
          have HH1 := Lib.hid hh1
          clear hown1 hg1 hne hh1 hbel HO HH
          go_wp2_with fail
          refine (stuffW.see_any w.heap.size (sl, sn) bit w1 HH1.out (by simp only; omega)).mono ?_
          rintro e w2 ⟨rfl, hh2, hg2, hz2⟩
          have hbel2 := below_only hbel1 hg2 hbel1.size (Nat.le_refl _)
          have HO2 := Lib.hid (own_far HO1.out HH1.out (by decide) hg2)
          have HZ2 := Lib.hid hz2; clear hz2
          have hbs2 := hbel2.size
          have HH2 := Lib.hid hh2; clear hh2
          clear hbel1 HO1 HH1 hg2
          go_wp2
          go_roundw
          case rel => exact ⟨k + 1, 0, _, seeN (sl, sn) bit, xs ++ [bit], by omega, rfl, Lib.hid (fun h => absurd h (by omega)), HF, HO2.out, HH2.out, HS4.out, by simp; omega, hbel2⟩
          case measure => simp [lenV]
        · obtain ⟨m, rfl⟩ : ∃ m, n = m + 1 := ⟨n - 1, by omega⟩
          go_wp2_with (at_builtin; refine wpList_append_own _ rfl _ _ 52 rfl w.heap.size 4 i0 (.bool false) 1 1 Try.underlying52 hi hz0 hz1 hz2 rfl (by decide) _ _ _ rfl (HO.out.alloc _) ⟨wr.heap.size, 0, none⟩ 1 1 [.bool bit] rfl rfl ?c1 ?c2 ?c3 ?c4 ?c5 ?_)
          case c1 => exact one_new wr _ _
          case c2 => intro u hu; simp at hu; subst hu; rfl
          case c3 => unfold maxLen; omega
          case c4 => omega
          case c5 => simp; omega
          intro v1 w1 hown1 hg1 _
          have hne := own_has_ne (HO.out.alloc (.cells #[.bool bit] 4)) (HH.out.alloc _) (by decide)
          have hh1 : Has w1 _ _ _ := (HH.out.alloc _).grown hg1 (fun e => hne e.symm)
          have hr := Round.step hbel HO.out hown1 hg1 (hxs := rfl)
          obtain ⟨_, hbel1⟩ := hr
          have HO1 : Hid (w1.ownsRow w.heap.size 4 1 v1 (xs ++ [bit]).length ((xs ++ [bit]).map Value.bool)) := by simpa [Hid] using hown1
          have HH1 := Lib.hid hh1
          clear hown1 hg1 hne hh1 hbel HO HH
          go_wp2_with fail
          refine (stuffW.see_any w.heap.size (sl, sn) bit w1 HH1.out (by simp only; omega)).mono ?_
          rintro e w2 ⟨rfl, hh2, hg2, hz2⟩
          have hbel2 := below_only hbel1 hg2 hbel1.size (Nat.le_refl _)
          have HO2 := Lib.hid (own_far HO1.out HH1.out (by decide) hg2)
          have HZ2 := Lib.hid hz2; clear hz2
          have hbs2 := hbel2.size
          have HH2 := Lib.hid hh2; clear hh2
          clear hbel1 HO1 HH1 hg2
          go_wp2
          go_roundw
          case rel => exact ⟨k + 1, m + 1, _, seeN (sl, sn) bit, xs ++ [bit], by omega, rfl, Lib.hid (fun h => by first | rfl | simp [Nat.add_assoc]), HF, HO2.out, HH2.out, HS4.out, by simp; omega, hbel2⟩
          case measure => simp [lenV]
end unW
end Go.Proofs.Ytomkgnlooheibaa
