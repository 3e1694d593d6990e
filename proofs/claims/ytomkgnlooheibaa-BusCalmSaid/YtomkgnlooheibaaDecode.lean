/- frame.Decode: of any row the frame, or the first thing that is wrong. -/
import Derived.Test.YtomkgnlooheibaaReadData
import Derived.Test.YtomkgnlooheibaaUnstuff
import Derived.Test.YtomkgnlooheibaaDecStep
import Derived.LoopN
import Derived.Outline
namespace Go.Proofs.Ytomkgnlooheibaa
open Go.RowKit Go.Bus Go.Bus.bitK Go.Bus.numK Go.Bus.decK Go.Bus.stuffK
set_option linter.unusedVariables false
namespace decW
open readW unW
def errV : Err → Value
  | (k, none) => .iface 70 (.int .i64 (k : Int))
  | (k, some n) => faultV k n
def noFrame : Value := .agg #[.int .u32 0, .bool false, .slice none 0 0]
def DecPost (r : Except Err (Int × Bool × List Int)) (w : World) (e : Ending) (w' : World) : Prop :=
  match r with
  | .ok (i, W, l) => ∃ v, e = .returned (.tuple #[.agg #[.int .u32 i, .bool W, v], .nilIface]) ∧ w'.ownsRow w.heap.size 5 1 v l.length (l.map (Value.int .u8)) ∧ Below w.heap.size w w'
  | .error x => e = .returned (.tuple #[noFrame, errV x]) ∧ Below w.heap.size w w'

theorem rest_any {b : Nat} {lv : Value} {w : World} {m : List Bool} (W : Bool) (hR : Rd w b lv 14 (nb m 1 11) W (.slice none 0 0) 0) (hs : Sl w b Value.bool lv m) (hl : 14 ≤ m.length) :
    Calls Try.prog 54 #[.pointer (some ⟨b, 0, none⟩)] w (RestPost b lv m W w) := by
  cases W
  · exact rest_short hR hs hl
  · exact rest_long hR hs hl
theorem arr_new (w : World) (o : Obj) (t : TypeId) (cs : Array Value) : Has ((w.alloc o).alloc (.cells cs t)) (w.heap.size + 1) t cs := by
  have := Has.new (w.alloc o) t cs
  simpa using this
theorem res_kept {w w3 : World} {o : Obj} {t q : Nat} {cs : Array Value} {p : Addr} {u : Value} (hb : Below ((((w.alloc (.cells cs t)).alloc o).drewN q).setCell p u).heap.size ((((w.alloc (.cells cs t)).alloc o).drewN q).setCell p u) w3) (hp : p.block = w.heap.size + 1) : Has w3 w.heap.size t cs := by
  have h1 : Has ((((w.alloc (.cells cs t)).alloc o).drewN q).setCell p u) w.heap.size t cs := Has.far (w := ((w.alloc (.cells cs t)).alloc o).drewN q) (Has.alloc (Has.new w t cs) o) (by omega) u
  exact h1.below hb h1.lt
theorem own_slice {w : World} {base : Nat} {e : TypeId} {size : Nat} {v : Value} {n : Nat} {xs : List Value} (h : w.ownsRow base e size v n xs) : ∃ A c, v = .slice A n c := by
  rcases h.2 with ⟨rfl, h0⟩ | ⟨g, cap, cur, rfl, _⟩
  · exact ⟨_, _, by rw [h0]⟩
  · exact ⟨_, _, rfl⟩

set_option maxRecDepth 100000 in
set_option maxHeartbeats 1000000 in
theorem dec_any (v : Value) (l : List Bool) (w : World) (h : Sl w w.heap.size Value.bool v l) (hlen : l.length ≤ 140737488351232) :
    Calls Try.prog 45 #[v] w (DecPost (allF l) w) := by
  obtain ⟨A, cap, rfl, hcap, hmax⟩ := h.form
  unfold maxLen at hmax
  have HL := Lib.hid h; clear h
  obtain ⟨R, hR⟩ : ∃ R, R = allF l := ⟨_, rfl⟩
  rw [← hR]
  have HR := Lib.hid hR; clear hR
  by_cases h10 : l.length < 10
  · have HF : Hid (R = .error (2, none)) := by unfold Hid; rw [HR.out]; unfold allF; rw [if_pos h10]
    clear HR
    go_enter Try.func45, Try.ntmps45
    go_wp2
    refine bodyPost_ret (v := .tuple #[noFrame, errV (2, none)]) (by simp [results, Try.results45, go_sem, noFrame, errV]) rfl ?_
    rw [HF.out]
    exact ⟨rfl, (by repeat' (first | (with_reducible assumption) | (with_reducible refine Below.setCell ?_ ?_ _) | (with_reducible refine Below.alloc ?_ ?_ _) | (with_reducible refine Below.drew ?_) | (with_reducible refine below_drewN ?_ _) | (with_reducible exact Below.refl _ _) | (show _ ≤ _; (try simp); (try omega); done) | exact Below.refl _ _ | assumption))⟩
  obtain ⟨n, hn⟩ : ∃ n, n = l.length - 10 := ⟨_, rfl⟩
  have e10 : (l.length : Int) - 10 = (n : Int) := by omega
  have hn10 : n + 10 ≤ l.length := by omega
  have HN : Hid (l.length - 10 = n) := hn.symm
  clear hn
  have hmf : ∀ (fn : Fn) (first cap : Array Value) (w : World), (Instr.makeFunc fn first cap).run Try.prog w = .ok (.func fn first cap) w := fun _ _ _ _ => rfl
  go_enter Try.func45, Try.ntmps45
  go_wp2_with fail
  refine (take_any (w.heap.size + 1) n 10 _ l _ (by exact HL.out.at_below (by repeat' (first | (with_reducible assumption) | (with_reducible refine Below.setCell ?_ ?_ _) | (with_reducible refine Below.alloc ?_ ?_ _) | (with_reducible refine Below.drew ?_) | (with_reducible refine below_drewN ?_ _) | (with_reducible exact Below.refl _ _) | (show _ ≤ _; (try simp); (try omega); done) | exact Below.refl _ _ | assumption))) (by simp) (by simp) (by simp) (by simp) hn10 (by omega) (by omega)).mono ?_
  rintro e w2 ⟨rfl, q, rfl⟩
  by_cases hb : nb l n 10 = 1023
  case neg =>
    have HF : Hid (R = .error (4, none)) := by
      unfold Hid
      rw [HR.out]
      unfold allF
      rw [if_neg (by omega), HN.out, if_pos hb]
    have d0 : (((nb l n 10 : Nat) : Int) != 1023) = true := by simp; omega
    clear HR hb
    go_wp2
    refine bodyPost_ret (v := .tuple #[noFrame, errV (4, none)]) (by simp [results, Try.results45, go_sem, noFrame, errV]) rfl ?_
    rw [HF.out]
    exact ⟨rfl, (by repeat' (first | (with_reducible assumption) | (with_reducible refine Below.setCell ?_ ?_ _) | (with_reducible refine Below.alloc ?_ ?_ _) | (with_reducible refine Below.drew ?_) | (with_reducible refine below_drewN ?_ _) | (with_reducible exact Below.refl _ _) | (show _ ≤ _; (try simp); (try omega); done) | exact Below.refl _ _ | assumption))⟩
  have d0 : (((nb l n 10 : Nat) : Int) != 1023) = false := by simp [hb]
  have HLT := Lib.hid (HR.out.trans (all_eq h10 HN.out hb))
  clear HR hb
  have hst := (readW.Sl.take_ HL.out n (by omega)).at_below (w := w) (W := w) (Below.refl _ _)
  have HST := Lib.hid hst; clear hst
  go_wp2_with fail
  refine (un_any _ (l.take n) _ (by exact HST.out.at_below (by repeat' (first | (with_reducible assumption) | (with_reducible refine Below.setCell ?_ ?_ _) | (with_reducible refine Below.alloc ?_ ?_ _) | (with_reducible refine Below.drew ?_) | (with_reducible refine below_drewN ?_ _) | (with_reducible exact Below.refl _ _) | (show _ ≤ _; (try simp); (try omega); done) | exact Below.refl _ _ | assumption))) (by rw [List.length_take]; omega)).mono ?_
  intro e w3 hU
  cases hu : unF (false, 0) 0 (l.take n) with
  | error x =>
    rw [hu] at hU HLT
    obtain ⟨he, hb_w3⟩ := hU
    have HF : Hid (R = .error (unErr x)) := HLT.out
    unfold faultV at he
    subst he
    clear hu HLT
    have hres := res_kept hb_w3 rfl
    have hz3 := hb_w3.size
    (try simp at hz3)
    have hB3 : Below w.heap.size w w3 := Below.trans (b := _) (by repeat' (first | (with_reducible assumption) | (with_reducible refine Below.setCell ?_ ?_ _) | (with_reducible refine Below.alloc ?_ ?_ _) | (with_reducible refine Below.drew ?_) | (with_reducible refine below_drewN ?_ _) | (with_reducible exact Below.refl _ _) | (show _ ≤ _; (try simp); (try omega); done) | exact Below.refl _ _ | assumption)) (hb_w3.mono (by (try simp); (try omega)))
    clear hb_w3
    have d0 := hres.cell 0
    have d1 := hres.cell 1
    have d2 := hres.cell 2
    have g0 := hres.frozen 0
    have g1 := hres.frozen 1
    have g2 := hres.frozen 2
    simp only [List.getElem?_toArray, List.getElem?_cons_zero, List.getElem?_cons_succ] at d0 d1 d2
    obtain ⟨no, hno⟩ : ∃ no, no = (if x.1 = 0 then 2 else 22) := ⟨_, rfl⟩
    rw [← hno]
    have HNO := Lib.hid hno; clear hno
    go_wp2
    refine bodyPost_ret (v := .tuple #[noFrame, faultV no x.2]) (by simp [results, Try.results45, go_sem, noFrame, faultV, d0, d1, d2]) rfl ?_
    rw [HF.out]
    refine ⟨?_, (by repeat' (first | (with_reducible assumption) | (with_reducible refine Below.setCell ?_ ?_ _) | (with_reducible refine Below.alloc ?_ ?_ _) | (with_reducible refine Below.drew ?_) | (with_reducible refine below_drewN ?_ _) | (with_reducible exact Below.refl _ _) | (show _ ≤ _; (try simp); (try omega); done) | exact Below.refl _ _ | assumption))⟩
    show _ = Ending.returned (.tuple #[noFrame, faultV (if x.1 = 0 then 2 else 22) x.2])
    rw [← HNO.out]
  | ok m =>
    rw [hu] at hU HLT
    obtain ⟨v, he, hown, hb_w3⟩ := hU
    have HF : Hid (R = decE m) := HLT.out
    subst he
    clear hu HLT
    have hres := res_kept hb_w3 rfl
    have hz3 := hb_w3.size
    (try simp at hz3)
    have hB3 : Below w.heap.size w w3 := Below.trans (b := _) (by repeat' (first | (with_reducible assumption) | (with_reducible refine Below.setCell ?_ ?_ _) | (with_reducible refine Below.alloc ?_ ?_ _) | (with_reducible refine Below.drew ?_) | (with_reducible refine below_drewN ?_ _) | (with_reducible exact Below.refl _ _) | (show _ ≤ _; (try simp); (try omega); done) | exact Below.refl _ _ | assumption)) (hb_w3.mono (by (try simp); (try omega)))
    clear hb_w3
    have HRES := Lib.hid hres; clear hres
    have hs := Sl.of_own hown
    obtain ⟨A1, c1, rfl, hc1, hm1⟩ := hs.form
    have HS := Lib.hid hs; clear hs hown HST HL d0 e10 hn10 h10
    have z3 : w.heap.size < w3.heap.size := by omega
    clear hz3
    go_wp2_with fail
    refine wp_loop_rounds 6 ?_
    rw [rounds_succ]
    go_wp2_with fail
    refine (id_any (b := w3.heap.size) (lv := .slice A1 m.length c1) (m := m) (by exact Has.alloc (Has.new w3 _ _) _) (by exact ((HS.out.alloc (Nat.le_refl _) _).alloc (by simp) _))).mono ?_
    rintro e w4 ⟨he, ho4, hR4⟩
    have hres4 : Has w4 w.heap.size _ _ := ho4.has (by exact ((HRES.out.alloc _).alloc _)) (by omega)
    have harr4 : Has w4 (w3.heap.size + 1) _ _ := ho4.has (by exact arr_new _ _ _ _) (by omega)
    have HS4 := Lib.hid ((((HS.out.alloc (Nat.le_refl _) _).alloc (by simp) _)).below ho4.below)
    have z4 : w3.heap.size + 1 < w4.heap.size := harr4.lt
    have hB4 : Below w.heap.size w w4 := Below.trans (((hB3.alloc (by omega) _).alloc (by simp; omega) _)) (ho4.below.mono (by omega))
    clear ho4 hB3 HS HRES
    cases hid : idE m with
    | some k =>
      rw [hid] at he
      have HE : Hid (R = .error (k, none)) := HF.out.trans (dec_id hid)
      replace he : e = .returned (.iface 70 (.int .i64 (k : Int))) := he
      subst he
      clear hid harr4 hR4
      have d0 := hres4.cell 0
      have d1 := hres4.cell 1
      have d2 := hres4.cell 2
      have g0 := hres4.frozen 0
      have g1 := hres4.frozen 1
      have g2 := hres4.frozen 2
      simp only [List.getElem?_toArray, List.getElem?_cons_zero, List.getElem?_cons_succ] at d0 d1 d2
      go_wp2
      refine bodyPost_ret (v := .tuple #[noFrame, errV (k, none)]) (by simp [results, Try.results45, go_sem, noFrame, errV, d0, d1, d2]) rfl ?_
      rw [HE.out]
      exact ⟨rfl, (by repeat' (first | (with_reducible assumption) | (with_reducible refine Below.setCell ?_ ?_ _) | (with_reducible refine Below.alloc ?_ ?_ _) | (with_reducible refine Below.drew ?_) | (with_reducible refine below_drewN ?_ _) | (with_reducible exact Below.refl _ _) | (show _ ≤ _; (try simp); (try omega); done) | exact Below.refl _ _ | assumption))⟩
    | none =>
      rw [hid] at he
      replace he : e = .returned .nilIface := he
      subst he
      have HID := Lib.hid hid
      have hl14 := (id_none hid).1
      have HR4 := Lib.hid (hR4 hid)
      clear hid hR4
      have q1 := harr4.cell 1
      simp only [List.getElem?_toArray, List.getElem?_cons_zero, List.getElem?_cons_succ] at q1
      have HA4 := Lib.hid harr4; clear harr4
      have HRES4 := Lib.hid hres4; clear hres4
      go_wp2_with fail
      rw [rounds_succ]
      go_wp2_with fail
      refine (rest_any (b := w3.heap.size) (lv := .slice A1 m.length c1) (m := m) (wideF m) HR4.out HS4.out hl14).mono ?_
      rintro e w5 ⟨he, ho5, hR5⟩
      have hres5 := ho5.has HRES4.out (by omega)
      have harr5 := ho5.has HA4.out (by omega)
      have HS5 := Lib.hid (HS4.out.below ho5.below)
      have z5 : w3.heap.size + 1 < w5.heap.size := harr5.lt
      have hB5 : Below w.heap.size w w5 := hB4.trans (ho5.below.mono (by omega))
      clear ho5 hB4 HS4 HRES4 HA4 q1 HR4
      cases hre : restE m (wideF m) with
      | some k =>
        rw [hre] at he
        have HE : Hid (R = .error (k, none)) := HF.out.trans (dec_rest HID.out hre)
        replace he : e = .returned (.iface 70 (.int .i64 (k : Int))) := he
        subst he
        clear hre harr5 hR5
        have d0 := hres5.cell 0
        have d1 := hres5.cell 1
        have d2 := hres5.cell 2
        have g0 := hres5.frozen 0
        have g1 := hres5.frozen 1
        have g2 := hres5.frozen 2
        simp only [List.getElem?_toArray, List.getElem?_cons_zero, List.getElem?_cons_succ] at d0 d1 d2
        go_wp2
        refine bodyPost_ret (v := .tuple #[noFrame, errV (k, none)]) (by simp [results, Try.results45, go_sem, noFrame, errV, d0, d1, d2]) rfl ?_
        rw [HE.out]
        exact ⟨rfl, (by repeat' (first | (with_reducible assumption) | (with_reducible refine Below.setCell ?_ ?_ _) | (with_reducible refine Below.alloc ?_ ?_ _) | (with_reducible refine Below.drew ?_) | (with_reducible refine below_drewN ?_ _) | (with_reducible exact Below.refl _ _) | (show _ ≤ _; (try simp); (try omega); done) | exact Below.refl _ _ | assumption))⟩
      | none =>
        rw [hre] at he
        replace he : e = .returned .nilIface := he
        subst he
        have HRE := Lib.hid hre
        have hl4 := rest_none hl14 hre
        have HR5 := Lib.hid (hR5 hre)
        clear hre hR5
        have q2 := harr5.cell 2
        simp only [List.getElem?_toArray, List.getElem?_cons_zero, List.getElem?_cons_succ] at q2
        have HA5 := Lib.hid harr5; clear harr5
        have HRES5 := Lib.hid hres5; clear hres5
        go_wp2_with fail
        rw [rounds_succ]
        go_wp2_with fail
        refine (len_any (b := w3.heap.size) (lv := .slice A1 m.length c1) (m := m) HR5.out HS5.out hl4).mono ?_
        rintro e w6 ⟨he, ho6, hR6⟩
        have hres6 := ho6.has HRES5.out (by omega)
        have harr6 := ho6.has HA5.out (by omega)
        have HS6 := Lib.hid (HS5.out.below ho6.below)
        have z6 : w3.heap.size + 1 < w6.heap.size := harr6.lt
        have hB6 : Below w.heap.size w w6 := hB5.trans (ho6.below.mono (by omega))
        clear ho6 hB5 HS5 HRES5 HA5 q2 HR5
        cases hle : lenE m (restA (wideF m)) with
        | some k =>
          rw [hle] at he
          have HE : Hid (R = .error (k, none)) := HF.out.trans (dec_len HID.out HRE.out hle)
          replace he : e = .returned (.iface 70 (.int .i64 (k : Int))) := he
          subst he
          clear hle harr6 hR6
          have d0 := hres6.cell 0
          have d1 := hres6.cell 1
          have d2 := hres6.cell 2
          have g0 := hres6.frozen 0
          have g1 := hres6.frozen 1
          have g2 := hres6.frozen 2
          simp only [List.getElem?_toArray, List.getElem?_cons_zero, List.getElem?_cons_succ] at d0 d1 d2
          go_wp2
          refine bodyPost_ret (v := .tuple #[noFrame, errV (k, none)]) (by simp [results, Try.results45, go_sem, noFrame, errV, d0, d1, d2]) rfl ?_
          rw [HE.out]
          exact ⟨rfl, (by repeat' (first | (with_reducible assumption) | (with_reducible refine Below.setCell ?_ ?_ _) | (with_reducible refine Below.alloc ?_ ?_ _) | (with_reducible refine Below.drew ?_) | (with_reducible refine below_drewN ?_ _) | (with_reducible exact Below.refl _ _) | (show _ ≤ _; (try simp); (try omega); done) | exact Below.refl _ _ | assumption))⟩
        | none =>
          rw [hle] at he
          replace he : e = .returned .nilIface := he
          subst he
          have HLE := Lib.hid hle
          obtain ⟨n8, hln⟩ := len_none hle
          have HR6 := Lib.hid (hR6 hle)
          clear hle hR6
          have hl5 : restA (wideF m) + 4 + 8 * nb m (restA (wideF m)) 4 ≤ m.length := by omega
          have hl6 : restA (wideF m) + 4 + 8 * nb m (restA (wideF m)) 4 + 15 ≤ m.length := by omega
          have HF2 := Lib.hid (HF.out.trans (dec_tail HID.out HRE.out HLE.out))
          clear hln HF HLE HRE HID
          have q3 := harr6.cell 3
          simp only [List.getElem?_toArray, List.getElem?_cons_zero, List.getElem?_cons_succ] at q3
          have HA6 := Lib.hid harr6; clear harr6
          have HRES6 := Lib.hid hres6; clear hres6
          go_wp2_with fail
          rw [rounds_succ]
          go_wp2_with fail
          refine (data_any (b := w3.heap.size) (lv := .slice A1 m.length c1) (m := m) HR6.out HS6.out hl5 n8).mono ?_
          rintro e w7 ⟨rfl, ho7, dv, hR7, hown7⟩
          have hres7 := ho7.has HRES6.out (by omega)
          have harr7 := ho7.has HA6.out (by omega)
          have HS7 := Lib.hid (HS6.out.below ho7.below)
          have z7 : w3.heap.size + 1 < w7.heap.size := harr7.lt
          have hB7 : Below w.heap.size w w7 := hB6.trans (ho7.below.mono (by omega))
          have HO7 := Lib.hid (own_base (base' := w.heap.size) hown7 (by omega))
          have HR7 := Lib.hid hR7
          clear ho7 hB6 HS6 HRES6 HA6 q3 HR6 hown7 hR7
          have q4 := harr7.cell 4
          simp only [List.getElem?_toArray, List.getElem?_cons_zero, List.getElem?_cons_succ] at q4
          have HA7 := Lib.hid harr7; clear harr7
          have HRES7 := Lib.hid hres7; clear hres7
          go_wp2_with fail
          rw [rounds_succ]
          go_wp2_with fail
          refine (sum_any (b := w3.heap.size) (lv := .slice A1 m.length c1) (m := m) HR7.out HS7.out hl6).mono ?_
          rintro e w8 ⟨he, hg8, hR8⟩
          have ho8 : Only w3.heap.size w7 w8 := ⟨by omega, hg8⟩
          have hres8 := ho8.has HRES7.out (by omega)
          have harr8 := ho8.has HA7.out (by omega)
          have z8 : w3.heap.size + 1 < w8.heap.size := harr8.lt
          have hB8 : Below w.heap.size w w8 := hB7.trans (ho8.below.mono (by omega))
          have HO8 := Lib.hid (own_far HO7.out HR7.out (by decide) hg8)
          clear ho8 hg8 hB7 HS7 HRES7 HA7 q4 harr8 HO7 HR7
          by_cases hsu : (nb m (restA (wideF m) + 4 + 8 * nb m (restA (wideF m)) 4) 15 : Int) ≠ crcS (m.take (restA (wideF m) + 4 + 8 * nb m (restA (wideF m)) 4))
          · have HE : Hid (R = .error (23, none)) := HF2.out.trans (if_pos hsu)
            rw [if_pos hsu] at he
            replace he : e = .returned (.iface 70 (.int .i64 (23 : Int))) := he
            subst he
            clear hsu hR8 HF2
            have d0 := hres8.cell 0
            have d1 := hres8.cell 1
            have d2 := hres8.cell 2
            have g0 := hres8.frozen 0
            have g1 := hres8.frozen 1
            have g2 := hres8.frozen 2
            simp only [List.getElem?_toArray, List.getElem?_cons_zero, List.getElem?_cons_succ] at d0 d1 d2
            go_wp2
            refine bodyPost_ret (v := .tuple #[noFrame, errV (23, none)]) (by simp [results, Try.results45, go_sem, noFrame, errV, d0, d1, d2]) rfl ?_
            rw [HE.out]
            exact ⟨rfl, (by repeat' (first | (with_reducible assumption) | (with_reducible refine Below.setCell ?_ ?_ _) | (with_reducible refine Below.alloc ?_ ?_ _) | (with_reducible refine Below.drew ?_) | (with_reducible refine below_drewN ?_ _) | (with_reducible exact Below.refl _ _) | (show _ ≤ _; (try simp); (try omega); done) | exact Below.refl _ _ | assumption))⟩
          · have HE : Hid (R = .ok ((restI m (wideF m) : Nat), wideF m, bytesF m (restA (wideF m) + 4) (nb m (restA (wideF m)) 4))) := HF2.out.trans (if_neg hsu)
            rw [if_neg hsu] at he
            replace he : e = .returned .nilIface := he
            subst he
            clear hsu HF2
            obtain ⟨D, dc, rfl⟩ := own_slice HO8.out
            obtain ⟨k0, k1, k2, k3, k4, k5, kf⟩ := hR8.cells
            have d0 := hres8.cell 0
            have d1 := hres8.cell 1
            have d2 := hres8.cell 2
            have g0 := hres8.frozen 0
            have g1 := hres8.frozen 1
            have g2 := hres8.frozen 2
            simp only [List.getElem?_toArray, List.getElem?_cons_zero, List.getElem?_cons_succ] at d0 d1 d2
            go_wp2_with fail
            rw [rounds_succ]
            go_wp2
            refine bodyPost_ret (v := .tuple #[.agg #[.int .u32 (restI m (wideF m) : Nat), .bool (wideF m), .slice D (nb m (restA (wideF m)) 4) dc], .nilIface]) (by simp [results, Try.results45, go_sem, d0, d1, d2]) rfl ?_
            rw [HE.out]
            refine ⟨_, rfl, ?_, (by repeat' (first | (with_reducible assumption) | (with_reducible refine Below.setCell ?_ ?_ _) | (with_reducible refine Below.alloc ?_ ?_ _) | (with_reducible refine Below.drew ?_) | (with_reducible refine below_drewN ?_ _) | (with_reducible exact Below.refl _ _) | (show _ ≤ _; (try simp); (try omega); done) | exact Below.refl _ _ | assumption))⟩
            have hbl : (bytesF m (restA (wideF m) + 4) (nb m (restA (wideF m)) 4)).length = nb m (restA (wideF m)) 4 := by simp [bytesF]
            rw [hbl]
            have h1 := own_far HO8.out hres8 (by decide) (only_set (World.grownBy.refl w8 (some w.heap.size)) 0 (.int .u32 (restI m (wideF m) : Nat)))
            have r1 := hres8.set 0 (.int .u32 (restI m (wideF m) : Nat))
            have h2 := own_far h1 r1 (by decide) (only_set (World.grownBy.refl _ (some w.heap.size)) 1 (.bool (wideF m)))
            have r2 := r1.set 1 (.bool (wideF m))
            exact own_far h2 r2 (by decide) (only_set (World.grownBy.refl _ (some w.heap.size)) 2 _)
end decW
end Go.Proofs.Ytomkgnlooheibaa
