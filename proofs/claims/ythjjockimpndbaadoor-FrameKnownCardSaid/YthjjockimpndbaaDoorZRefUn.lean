/- busbarref21.Unstuff: the document's way to take the stuffed bits out. -/
import Derived.Test.YthjjockimpndbaaDoorZRefWire
import Derived.Test.YthjjockimpndbaaDoorZKit
import Derived.WalkLawsBesides
import Derived.WalkSpells
namespace Go.Bus.stuffK
/-- Behind five alike: what stands next is taken for a stuffed bit. -/
def unT (b : Bool) (n : Nat) (xs r : List Bool) : UnR :=
  match r with
  | [] => .error (0, n)
  | c :: r => if c = b then .error (1, n) else pre xs (unF (!b, 1) (n + 1) r)
theorem un_stop {s : Bool × Nat} {n : Nat} {b : Bool} {xs r : List Bool} (h : (seeN s b).2 = 5) : pre xs (unF s n (b :: r)) = unT b (n + 1) (xs ++ [b]) r := by
  cases r with
  | nil => exact un_short h
  | cons c r =>
    by_cases hc : c = b
    · subst hc; rw [un_ill h]; simp [unT]
    · rw [un_skip h hc]; simp [unT, hc]
/-- What stands at a round's head: behind five alike, or not. -/
def unH (st : Bool) (s : Bool × Nat) (k : Nat) (xs r : List Bool) : UnR := if st = true then unT s.1 k xs r else pre xs (unF s k r)
end Go.Bus.stuffK
namespace Go.Proofs.YthjjockimpndbaaDoor
open Go.RowKit Go.Bus Go.Bus.bitK Go.Bus.stuffK
set_option linter.unusedVariables false
namespace refW
/-- What a call answers, r being what the row comes to. -/
def RUnPost (r : UnR) (w : World) (e : Ending) (w' : World) : Prop :=
  match r with
  | .ok m => ∃ v, e = .returned (.tuple #[v, .int .i64 0, .int .i64 0]) ∧ w'.ownsRow w.heap.size 4 1 v m.length (m.map Value.bool) ∧ Below w.heap.size w w'
  | .error x => e = .returned (.tuple #[.slice none 0 0, .int .i64 (if x.1 = 0 then 2 else 22), .int .i64 (x.2 : Nat)]) ∧ Below w.heap.size w w'

set_option maxRecDepth 100000 in
set_option maxHeartbeats 2000000 in
theorem runstuff_any (v : Value) (l : List Bool) (w : World) (h : Sl w w.heap.size Value.bool v l) (hlen : l.length ≤ 140737488351232) :
    Calls Tryd.prog 60 #[v] w (RUnPost (unF (false, 0) 0 l) w) := by
  obtain ⟨A, cap, rfl, hcap, hmax⟩ := h.form
  obtain ⟨i0, hi, hz0, hz1, hz2⟩ := info_parts Tryd.infoBool
  unfold maxLen at hmax
  have HL := Lib.hid h; clear h
  obtain ⟨R, hR⟩ : ∃ R, R = unF (false, 0) 0 l := ⟨_, rfl⟩
  rw [← hR]
  have HR : Hid (R = unH false (false, 0) 0 [] (l.drop 0)) := by rw [hR]; show _ = pre [] _; rw [pre_nil]; rfl
  clear hR
  go_enter Tryd.func60, Tryd.ntmps60
  go_wp2
  go_loopw [5, 6, 7, 8] (fun o a t i wr => ∃ (k : Nat) (xs : List Bool) (last : Bool) (n : Nat) (st : Bool), k ≤ l.length ∧ i = .int .i64 k ∧ t = .bool st ∧ a = .int .i64 n ∧ wr.ownsRow w.heap.size 4 1 o xs.length (xs.map Value.bool) ∧ xs.length ≤ k ∧ Below w.heap.size w wr ∧
      Hid (R = unH st (last, n) k xs (l.drop k)) ∧ Hid (0 < k → l[k - 1]? = some last) ∧ (0 < k → 0 < n) ∧ (st = false → n ≤ 4) ∧ (k = 0 → n = 0 ∧ st = false)) (fun _ _ _ i _ => l.length - (intOf i).toNat)
  case atStart => exact ⟨0, [], false, 0, false, Nat.zero_le _, rfl, rfl, rfl, World.ownsRow_nil _ _ _ _, Nat.le_refl _, Below.refl _ _, HR, Lib.hid (fun h => absurd h (by omega)), fun h => absurd h (by omega), fun _ => by omega, fun _ => ⟨rfl, rfl⟩⟩
  case round =>
    clear HR
    obtain ⟨k, xs, last, n, st, hk, rfl, rfl, rfl, hown, hxk, hbel, HRk, HLA, hn0, hn4, hk0⟩ := hrel
    have hbs := hbel.size
    have HO := Lib.hid hown; clear hown
    have HB := Lib.hid hbel; clear hbel
    by_cases hlt : k < l.length
    · obtain ⟨b, off, rfl, hb, hc0⟩ := HL.out.at_ hlt
      have hc : wr.cell? ⟨b, off + k, none⟩ = some (.bool l[k]) := (HB.out.cell (p := ⟨b, off + k, none⟩) hb).trans hc0
      clear hc0
      have hd := drop_cons hlt
      have HD := Lib.hid hd; clear hd
      have hlk : l[k + 1 - 1]? = some l[k] := by simp [hlt]
      have HLK := Lib.hid hlk; clear hlk
      have hcp : 0 < k → wr.cell? ⟨b, off + (k - 1), none⟩ = some (.bool last) := by
        intro h0
        have h1 := HLA.out h0
        obtain ⟨b2, o2, e2, hb2, hc2⟩ := HL.out.at_ (show k - 1 < l.length by omega)
        obtain ⟨rfl, rfl⟩ : b = b2 ∧ off = o2 := by simpa using e2
        have h3 : l[k - 1] = last := by rw [List.getElem?_eq_getElem (by omega)] at h1; exact Option.some.inj h1
        rw [h3] at hc2
        exact (HB.out.cell (p := ⟨b, off + (k - 1), none⟩) hb2).trans hc2
      have HCP := Lib.hid hcp; clear hcp
      generalize l[k] = c at *
      rcases Nat.eq_zero_or_pos k with h0 | h0
      · obtain ⟨rfl, rfl⟩ := hk0 h0
        have hkz : decide (0 < k) = false := decide_eq_false (by omega)
        have HN : Hid (R = unH false (c, 1) (k + 1) (xs ++ [c]) (l.drop (k + 1))) := by
          unfold Hid
          rw [HRk.out, HD.out]
          show pre xs _ = pre _ _
          rw [un_on (by simp [seeN])]; simp [seeN]
        have HL1 : Hid (0 < k + 1 → l[k + 1 - 1]? = some c) := Lib.hid fun _ => HLK.out
        clear HRk HLA hn0 hn4 hk0 HCP HD h0
        go_wp2
        go_quiet (fail)
        go_wp2_with (at_builtin; refine wpList_append_own _ rfl _ _ 48 rfl w.heap.size 4 i0 (.bool false) 1 1 Tryd.underlying48 hi hz0 hz1 hz2 rfl (by decide) _ _ _ rfl (by exact HO.out.alloc _) ⟨wr.heap.size, 0, none⟩ 1 1 [.bool c] rfl rfl ?c11 ?c12 ?c13 ?c14 ?c15 ?_)
        case c11 => exact one_new wr _ _
        case c12 => intro u hu; simp at hu; subst hu; rfl
        case c13 => unfold maxLen; omega
        case c14 => omega
        case c15 => simp; omega
        intro v1 w1 hown_w1 hg_w1 _
        have hr_w1 := Round.step (wr := wr) (c := #[.bool c]) (t := 4) HB.out HO.out hown_w1 ⟨hg_w1.os, hg_w1.tape, hg_w1.output, hg_w1.size, hg_w1.block⟩ (hB := hbs) (hxs := rfl)
        have HB1 := Lib.hid hr_w1.2
        have HO1 : Hid (w1.ownsRow w.heap.size 4 1 v1 (xs ++ [c]).length ((xs ++ [c]).map Value.bool)) := by simpa [Hid] using hown_w1
        clear hown_w1 hg_w1 hr_w1
        go_wp2
        go_roundw
        case rel => exact ⟨k + 1, xs ++ [c], c, 1, false, by omega, by go_num, rfl, by go_num, HO1.out, by simp; omega, HB1.out, HN, HL1, by omega, by first | omega | simp, by simp⟩
        case measure => first | (simp [intOf]; done) | (simp [intOf]; omega)
      · have hcp := HCP.out h0
        have e1 : ((k : Int) - 1).toNat = k - 1 := by omega
        have hk1 : (0 : Int) < (k : Int) := by omega
        have hn1 := hn0 h0
        clear HCP HLA hn0 hk0
        cases st
        · have hn4' := hn4 rfl
          clear hn4
          by_cases hcl : c = last
          · subst hcl
            by_cases h5 : n + 1 = 5
            · have d5 : ((n : Int) + 1 == 5) = true := by rw [beq_iff_eq]; omega
              have HN : Hid (R = unH true (c, n + 1) (k + 1) (xs ++ [c]) (l.drop (k + 1))) := by
                unfold Hid
                rw [HRk.out, HD.out]
                show pre xs _ = unT _ _ _ _
                rw [un_stop (by simp [seeN, hn1]; omega)]
              have HL1 : Hid (0 < k + 1 → l[k + 1 - 1]? = some c) := Lib.hid fun _ => HLK.out
              clear HRk HD h5
              go_wp2
              go_quiet (fail)
              clear hcp e1
              go_wp2_with (at_builtin; refine wpList_append_own _ rfl _ _ 48 rfl w.heap.size 4 i0 (.bool false) 1 1 Tryd.underlying48 hi hz0 hz1 hz2 rfl (by decide) _ _ _ rfl (by exact HO.out.alloc _) ⟨wr.heap.size, 0, none⟩ 1 1 [.bool c] rfl rfl ?c21 ?c22 ?c23 ?c24 ?c25 ?_)
              case c21 => exact one_new wr _ _
              case c22 => intro u hu; simp at hu; subst hu; rfl
              case c23 => unfold maxLen; omega
              case c24 => omega
              case c25 => simp; omega
              intro v1 w1 hown_w1 hg_w1 _
              have hr_w1 := Round.step (wr := wr) (c := #[.bool c]) (t := 4) HB.out HO.out hown_w1 ⟨hg_w1.os, hg_w1.tape, hg_w1.output, hg_w1.size, hg_w1.block⟩ (hB := hbs) (hxs := rfl)
              have HB1 := Lib.hid hr_w1.2
              have HO1 : Hid (w1.ownsRow w.heap.size 4 1 v1 (xs ++ [c]).length ((xs ++ [c]).map Value.bool)) := by simpa [Hid] using hown_w1
              clear hown_w1 hg_w1 hr_w1
              go_wp2
              go_roundw
              case rel => exact ⟨k + 1, xs ++ [c], c, n + 1, true, by omega, by go_num, rfl, by go_num, HO1.out, by simp; omega, HB1.out, HN, HL1, by omega, by first | omega | simp, by simp⟩
              case measure => first | (simp [intOf]; done) | (simp [intOf]; omega)
            · have d5 : ((n : Int) + 1 == 5) = false := by rw [beq_eq_false_iff_ne]; omega
              have HN : Hid (R = unH false (c, n + 1) (k + 1) (xs ++ [c]) (l.drop (k + 1))) := by
                unfold Hid
                rw [HRk.out, HD.out]
                show pre xs _ = pre _ _
                rw [un_on (by simp [seeN, hn1]; omega)]; simp [seeN, hn1]
              have HL1 : Hid (0 < k + 1 → l[k + 1 - 1]? = some c) := Lib.hid fun _ => HLK.out
              clear HRk HD
              go_wp2
              go_quiet (fail)
              clear hcp e1
              go_wp2_with (at_builtin; refine wpList_append_own _ rfl _ _ 48 rfl w.heap.size 4 i0 (.bool false) 1 1 Tryd.underlying48 hi hz0 hz1 hz2 rfl (by decide) _ _ _ rfl (by exact HO.out.alloc _) ⟨wr.heap.size, 0, none⟩ 1 1 [.bool c] rfl rfl ?c31 ?c32 ?c33 ?c34 ?c35 ?_)
              case c31 => exact one_new wr _ _
              case c32 => intro u hu; simp at hu; subst hu; rfl
              case c33 => unfold maxLen; omega
              case c34 => omega
              case c35 => simp; omega
              intro v1 w1 hown_w1 hg_w1 _
              have hr_w1 := Round.step (wr := wr) (c := #[.bool c]) (t := 4) HB.out HO.out hown_w1 ⟨hg_w1.os, hg_w1.tape, hg_w1.output, hg_w1.size, hg_w1.block⟩ (hB := hbs) (hxs := rfl)
              have HB1 := Lib.hid hr_w1.2
              have HO1 : Hid (w1.ownsRow w.heap.size 4 1 v1 (xs ++ [c]).length ((xs ++ [c]).map Value.bool)) := by simpa [Hid] using hown_w1
              clear hown_w1 hg_w1 hr_w1
              go_wp2
              go_roundw
              case rel => exact ⟨k + 1, xs ++ [c], c, n + 1, false, by omega, by go_num, rfl, by go_num, HO1.out, by simp; omega, HB1.out, HN, HL1, by omega, by first | omega | simp, by simp⟩
              case measure => first | (simp [intOf]; done) | (simp [intOf]; omega)
          · have d6 : (c == last) = false := by simp [hcl]
            have HN : Hid (R = unH false (c, 1) (k + 1) (xs ++ [c]) (l.drop (k + 1))) := by
              unfold Hid
              rw [HRk.out, HD.out]
              have hcl2 : ¬ last = c := fun h => hcl h.symm
              show pre xs _ = pre _ _
              rw [un_on (by simp [seeN, hcl2])]; simp [seeN, hcl2]
            have HL1 : Hid (0 < k + 1 → l[k + 1 - 1]? = some c) := Lib.hid fun _ => HLK.out
            clear HRk HD hcl
            go_wp2
            go_quiet (fail)
            clear hcp e1
            go_wp2_with (at_builtin; refine wpList_append_own _ rfl _ _ 48 rfl w.heap.size 4 i0 (.bool false) 1 1 Tryd.underlying48 hi hz0 hz1 hz2 rfl (by decide) _ _ _ rfl (by exact HO.out.alloc _) ⟨wr.heap.size, 0, none⟩ 1 1 [.bool c] rfl rfl ?c41 ?c42 ?c43 ?c44 ?c45 ?_)
            case c41 => exact one_new wr _ _
            case c42 => intro u hu; simp at hu; subst hu; rfl
            case c43 => unfold maxLen; omega
            case c44 => omega
            case c45 => simp; omega
            intro v1 w1 hown_w1 hg_w1 _
            have hr_w1 := Round.step (wr := wr) (c := #[.bool c]) (t := 4) HB.out HO.out hown_w1 ⟨hg_w1.os, hg_w1.tape, hg_w1.output, hg_w1.size, hg_w1.block⟩ (hB := hbs) (hxs := rfl)
            have HB1 := Lib.hid hr_w1.2
            have HO1 : Hid (w1.ownsRow w.heap.size 4 1 v1 (xs ++ [c]).length ((xs ++ [c]).map Value.bool)) := by simpa [Hid] using hown_w1
            clear hown_w1 hg_w1 hr_w1
            go_wp2
            go_roundw
            case rel => exact ⟨k + 1, xs ++ [c], c, 1, false, by omega, by go_num, rfl, by go_num, HO1.out, by simp; omega, HB1.out, HN, HL1, by omega, by first | omega | simp, by simp⟩
            case measure => first | (simp [intOf]; done) | (simp [intOf]; omega)
        · clear hn4
          by_cases hcl : c = last
          · subst hcl
            have HN : Hid (R = .error (1, k)) := by
              unfold Hid
              rw [HRk.out, HD.out]
              simp [unH, unT]
            clear HRk HD
            go_wp2
            go_quiet (fail)
            clear hcp e1
            go_wp2
            go_ret3
            rw [HN.out]
            exact ⟨rfl, below_drewN HB.out _⟩
          · have d6 : (c == last) = false := by simp [hcl]
            have HN : Hid (R = unH false (c, 1) (k + 1) xs (l.drop (k + 1))) := by
              unfold Hid
              rw [HRk.out, HD.out]
              have hcl2 : (!last) = c := by cases c <;> cases last <;> simp_all
              simp [unH, unT, hcl, hcl2]
            have HL1 : Hid (0 < k + 1 → l[k + 1 - 1]? = some c) := Lib.hid fun _ => HLK.out
            clear HRk HD hcl
            go_wp2
            go_quiet (fail)
            clear hcp e1
            go_wp2
            go_roundw
            case rel => exact ⟨k + 1, xs, c, 1, false, by omega, by go_num, rfl, by go_num, by exact HO.out, by omega, below_drewN HB.out _, HN, HL1, by omega, by first | omega | simp, by simp⟩
            case measure => first | (simp [intOf]; done) | (simp [intOf]; omega)
    · obtain rfl : k = l.length := by omega
      rw [List.drop_of_length_le (Nat.le_refl _)] at HRk
      cases st
      · have HN : Hid (R = .ok xs) := by
          unfold Hid
          rw [HRk.out]
          show pre xs (.ok []) = _
          rw [pre_ok, List.append_nil]
        clear HRk
        go_wp2
        go_ret3
        rw [HN.out]
        exact ⟨_, rfl, HO.out, HB.out⟩
      · have HN : Hid (R = .error (0, l.length)) := by
          unfold Hid
          rw [HRk.out]
          rfl
        clear HRk
        go_wp2
        go_ret3
        rw [HN.out]
        exact ⟨rfl, HB.out⟩
end refW
end Go.Proofs.YthjjockimpndbaaDoor
