/- CodeBehind's walk where both programs have bytes. No condition. -/
import Derived.Test.YtdjippdcgfcfgaaDoorCodeBhW
namespace Go.Proofs.YtdjippdcgfcfgaaDoor
open Go.RowKit Go.Bus Go.Bus.cellK Go.Bus.codeK
set_option linter.unusedVariables false
set_option linter.unusedSimpArgs false
namespace codeW
theorem flat_snoc (p : List Ins) {k : Nat} (h : k < p.length) {x : Ins} (hx : x = p[k]) : (p.take (k + 1)).flatMap insC = (p.take k).flatMap insC ++ insC x := by
  rw [List.take_succ_eq_append_getElem h, List.flatMap_append, hx]; simp
theorem sl_take {α : Type} {w : World} {B n cap m : Nat} {f : α → Value} {A : Option Addr} {l : List α} (h : Sl w B f (.slice A n cap) l) (hm : m ≤ l.length) : Sl w B f (.slice A m cap) (l.take m) := by
  obtain ⟨A', cap', hv, h1, h2, hx⟩ := h
  simp only [Value.slice.injEq] at hv
  obtain ⟨rfl, rfl, rfl⟩ := hv
  have hl : (l.take m).length = m := by rw [List.length_take]; omega
  refine ⟨A, cap, by rw [hl], by omega, h2, fun h0 => ?_⟩
  obtain ⟨b, off, e, hb, hc⟩ := hx (by omega)
  refine ⟨b, off, e, hb, fun i x hi => hc i x ?_⟩
  rw [List.getElem?_take] at hi
  split at hi
  · exact hi
  · cases hi
theorem sl_drop {α : Type} {w : World} {B n cap k g : Nat} {f : α → Value} {l : List α} (h : Sl w B f (.slice (some ⟨g, 0, none⟩) n cap) l) (hk : k ≤ l.length) : Sl w B f (.slice (some ⟨g, k, none⟩) (l.drop k).length (cap - k)) (l.drop k) := by
  obtain ⟨A', cap', hv, h1, h2, hx⟩ := h
  simp only [Value.slice.injEq] at hv
  obtain ⟨rfl, rfl, rfl⟩ := hv
  refine ⟨_, _, rfl, by rw [List.length_drop]; omega, by omega, fun h0 => ?_⟩
  rw [List.length_drop] at h0
  obtain ⟨b, off, e, hb, hc⟩ := hx (by omega)
  simp only [Option.some.injEq, Addr.mk.injEq] at e
  obtain ⟨rfl, rfl, _⟩ := e
  refine ⟨g, k, rfl, hb, fun i x hi => ?_⟩
  rw [List.getElem?_drop] at hi
  have := hc _ x hi
  rw [Nat.zero_add] at this
  exact this
theorem own_two {w : World} {base m c : Nat} {A : Option Addr} {xs : List Value} (h : w.ownsRow base 5 1 (.slice A m c) m xs) : (m = 0 ∧ A = none ∧ c = 0) ∨ ∃ g, A = some ⟨g, 0, none⟩ ∧ m ≤ c ∧ c ≤ maxLen := by
  rcases h.2 with ⟨hv, h0⟩ | ⟨g, cap, cur, hv, hb, hg, hn, hm, _⟩
  · simp only [Value.slice.injEq] at hv
    exact .inl ⟨h0, hv.1, hv.2.2⟩
  · simp only [Value.slice.injEq] at hv
    obtain ⟨rfl, _, rfl⟩ := hv
    exact .inr ⟨g, rfl, hn, hm⟩
set_option maxRecDepth 100000 in
set_option maxHeartbeats 4000000 in
theorem behind_main {p q : List Ins} {v u : Value} (w : World) (h : SlK 5 insE w (Old w.heap.size) v p) (h' : SlK 5 insE w (Old w.heap.size) u q) (hp : ∀ x ∈ p, x.Ok) (hq : ∀ x ∈ q, x.Ok) (hg : good p) (hg' : good q) (hs : p.length + q.length ≤ 16384) : Calls Tryd.prog 3 #[v, u] w fun e w' => e = .returned (.bool true) ∧ Below w.heap.size w w' := by
  obtain ⟨i0, hi, hi0, hi1, hi2⟩ := info_parts Tryd.infoI
  obtain ⟨A, cap, rfl, _, _⟩ := h.form
  obtain ⟨A', cap', rfl, _, _⟩ := h'.form
  have HE := Lib.hid (encode_good w h hp hg)
  have HP := Lib.hid h
  have HQ := Lib.hid h'
  have HPO := Lib.hid hp
  have HQO := Lib.hid hq
  have HG := Lib.hid hg
  have HG' := Lib.hid hg'
  have ds : decide (16384 < (p.length : Int) + (q.length : Int)) = false := by simp; omega
  clear h h' hp hq hg hg'
  go_enter Tryd.func3, Tryd.ntmps3
  go_wp2_with fail
  refine HE.out.mono ?_
  rintro e w1 ⟨A1, c1, rfl, ho1, hB⟩
  have HO1 := Lib.hid ho1
  have HB := Lib.hid hB
  have HP1 := Lib.hid (HP.out.later insE_mono hB)
  have HQ1 := Lib.hid (HQ.out.later insE_mono hB)
  clear hB ho1
  go_wp2_with fail
  refine (encode_good _ HQ1.out HQO.out HG'.out).mono ?_
  rintro e w2 ⟨A2, c2, rfl, ho2, hB2⟩
  have HO2 := Lib.hid ho2
  have HO12 := Lib.hid (own_kept HO1.out hB2)
  have HP2 := Lib.hid (HP1.out.later insE_mono hB2)
  have HQ2 := Lib.hid (HQ1.out.later insE_mono hB2)
  have HB2 := Lib.hid (HB.out.trans (hB2.mono HB.out.size))
  clear hB2 ho2
  go_wp2_with fail
  refine (works_any _).mono ?_
  rintro e w3 ⟨rfl, hB3⟩
  have HO13 := Lib.hid (own_kept HO12.out hB3)
  have HO23 := Lib.hid (own_kept HO2.out hB3)
  have HP3 := Lib.hid (HP2.out.later insE_mono hB3)
  have HQ3 := Lib.hid (HQ2.out.later insE_mono hB3)
  have HB3 := Lib.hid (HB2.out.trans (hB3.mono HB2.out.size))
  clear hB3
  go_wp2
  go_loopw [9, 10] (fun o i wr => ∃ k : Nat, k ≤ p.length ∧ i = .int .i64 (k : Nat) ∧ Hid (wr.ownsRow w3.heap.size 31 5 o k ((p.take k).flatMap insC)) ∧ Hid (Below w3.heap.size w3 wr)) (fun _ i _ => p.length - (intOf i).toNat)
  case atStart => exact ⟨0, Nat.zero_le _, rfl, Lib.hid (World.ownsRow_nil _ _ _ _), Lib.hid (Below.refl _ _)⟩
  case round =>
    obtain ⟨k, hk, rfl, HO, HW⟩ := hrel
    have hsz := HW.out.size
    by_cases hlt : k < p.length
    · obtain ⟨xb, off, rfl, hxb, e0, e1, e2, e3, e4⟩ := ins_get (HP3.out.below insE_mono HW.out) hlt
      have zx : xb < wr.heap.size := by have : xb < w3.heap.size := hxb; omega
      obtain ⟨x, hx⟩ : ∃ x, x = p[k] := ⟨_, rfl⟩
      rw [← hx] at e0 e1 e2 e3 e4
      have HSN := Lib.hid (flat_snoc p hlt hx)
      clear hx
      obtain ⟨x0, x1, x2, x3, x4⟩ := x
      go_wp2_with (at_builtin; refine wpList_append_own _ rfl (.tmp 46) (.tmp 51) 22 (by rfl) w3.heap.size 31 i0 (.agg #[.int .i64 0, .int .i64 0, .int .i64 0, .int .i64 0, .int .u64 0]) 5 40 Tryd.underlying22 hi hi0 hi1 hi2 (by rfl) (by decide) _ k ((p.take k).flatMap insC) (by rfl) (by exact HO.out.alloc _) ⟨wr.heap.size, 0, none⟩ 1 1 [.int .i64 x0, .int .i64 x1, .int .i64 x2, .int .i64 x3, .int .u64 x4] (by rfl) (by rfl) (by exact news_new wr _ _) (insE_one wr (fun _ => True) _ ⟨x0, x1, x2, x3, x4⟩ rfl) (by unfold maxLen; omega) (by omega) (by simp; omega) ?_; intro v7 w7 ho7 hg7 _; have HO7 : Hid (w7.ownsRow w3.heap.size 31 5 v7 (k + 1) ((p.take (k + 1)).flatMap insC)) := Lib.hid (by rw [HSN.out]; exact ho7); have HB7 : Hid (Below w3.heap.size w3 w7) := Lib.hid ((HW.out.alloc hsz _).grown hg7 (by simp; omega) (fun i hi => (HO.out.lt i hi).1)); clear ho7 hg7)
      go_roundw
      case rel => exact ⟨k + 1, by omega, by go_num, HO7, HB7⟩
      case measure => simp [intOf]; omega
    · obtain rfl : k = p.length := by omega
      rw [List.take_length] at HO
      have HS0 : Hid (wr.ownsRow w3.heap.size 31 5 u9 (p.length + 0) (p.flatMap insC ++ (q.take 0).flatMap insC)) := Lib.hid (by simpa using HO.out)
      go_wp2
      go_loopw [9, 11] (fun o i wr => ∃ k : Nat, k ≤ q.length ∧ i = .int .i64 (k : Nat) ∧ Hid (wr.ownsRow w3.heap.size 31 5 o (p.length + k) (p.flatMap insC ++ (q.take k).flatMap insC)) ∧ Hid (Below w3.heap.size w3 wr)) (fun _ i _ => q.length - (intOf i).toNat)
      case atStart => exact ⟨0, Nat.zero_le _, rfl, HS0, HW⟩
      case round =>
        clear HW HO HS0 hsz
        obtain ⟨k, hk2, rfl, HO, HW⟩ := hrel
        have hsz := HW.out.size
        by_cases hlt2 : k < q.length
        · obtain ⟨xb, off, rfl, hxb, e0, e1, e2, e3, e4⟩ := ins_get (HQ3.out.below insE_mono HW.out) hlt2
          have zx : xb < wr.heap.size := by have : xb < w3.heap.size := hxb; omega
          obtain ⟨x, hx⟩ : ∃ x, x = q[k] := ⟨_, rfl⟩
          rw [← hx] at e0 e1 e2 e3 e4
          have HSN := Lib.hid (flat_snoc q hlt2 hx)
          clear hx
          obtain ⟨x0, x1, x2, x3, x4⟩ := x
          go_wp2_with (at_builtin; refine wpList_append_own _ rfl (.tmp 59) (.tmp 64) 22 (by rfl) w3.heap.size 31 i0 (.agg #[.int .i64 0, .int .i64 0, .int .i64 0, .int .i64 0, .int .u64 0]) 5 40 Tryd.underlying22 hi hi0 hi1 hi2 (by rfl) (by decide) _ (p.length + k) (p.flatMap insC ++ (q.take k).flatMap insC) (by rfl) (by exact HO.out.alloc _) ⟨wr.heap.size, 0, none⟩ 1 1 [.int .i64 x0, .int .i64 x1, .int .i64 x2, .int .i64 x3, .int .u64 x4] (by rfl) (by rfl) (by exact news_new wr _ _) (insE_one wr (fun _ => True) _ ⟨x0, x1, x2, x3, x4⟩ rfl) (by unfold maxLen; omega) (by omega) (by simp; omega) ?_; intro v7 w7 ho7 hg7 _; have HO7 : Hid (w7.ownsRow w3.heap.size 31 5 v7 (p.length + (k + 1)) (p.flatMap insC ++ (q.take (k + 1)).flatMap insC)) := Lib.hid (by rw [HSN.out, ← List.append_assoc]; exact ho7); have HB7 : Hid (Below w3.heap.size w3 w7) := Lib.hid ((HW.out.alloc hsz _).grown hg7 (by simp; omega) (fun i hi => (HO.out.lt i hi).1)); clear ho7 hg7)
          go_roundw
          case rel => exact ⟨k + 1, by omega, by go_num, HO7, HB7⟩
          case measure => simp [intOf]; omega
        · obtain rfl : k = q.length := by omega
          rw [List.take_length] at HO
          have HI := Lib.hid (ins_of_own (p := p ++ q) (by rw [List.length_append, List.flatMap_append]; exact HO.out))
          have HIO : Hid (∀ x ∈ p ++ q, x.Ok) := Lib.hid fun x hx => (List.mem_append.1 hx).elim (HPO.out x) (HQO.out x)
          have HIG : Hid (good (p ++ q)) := Lib.hid ⟨by rw [List.length_append]; omega, fun x hx => (List.mem_append.1 hx).elim (HG.out.2 x) (HG'.out.2 x)⟩
          obtain ⟨A9, c9, rfl, _, _⟩ := HI.out.form
          rw [List.length_append] at HI
          clear HO
          go_wp2_with fail
          refine (encode_good _ HI.out HIO.out HIG.out).mono ?_
          rintro e w5 ⟨A5, c5, rfl, ho5, hB5⟩
          rw [encP_append, List.length_append] at ho5
          rw [encP_append, List.length_append]
          have HS1 := Lib.hid (Sl.of_own (own_kept (own_kept HO13.out (HW.out.mono (Nat.le_refl _))) hB5))
          have HS2 := Lib.hid (Sl.of_own (own_kept (own_kept HO23.out (HW.out.mono (Nat.le_refl _))) hB5))
          have HBA := Lib.hid (HB3.out.trans ((HW.out.trans (hB5.mono hsz)).mono (HB3.out.size)))
          have HS5 := Lib.hid (own_two ho5)
          have HSX : Hid (Sl w5 w5.heap.size byteV (.slice A5 ((encP p).length + (encP q).length) c5) (encP p ++ encP q)) := Lib.hid (by have h9 := ho5; rw [← List.length_append] at h9 ⊢; exact Sl.of_own h9)
          clear ho5 hB5 HB HB2 HB3 HO1 HO2 HO12 HO13 HO23 HI HIO HIG HP HQ HP1 HP2 HP3 HQ1 HQ2 HQ3 HE HG HG' HPO HQO HW hsz ds
          generalize hla : (encP p).length = la at *
          generalize hlb : (encP q).length = lb at *
          have HS6 := Lib.hid HS5.out
          rcases HS5.out with ⟨ha, rfl, rfl⟩ | ⟨g, rfl, n1, n2⟩
          · obtain rfl : la = 0 := by omega
            obtain rfl : lb = 0 := by omega
            have HA0 : Hid (Sl w5 w5.heap.size byteV (.slice none 0 0) (encP p)) := Lib.hid (by rw [List.eq_nil_of_length_eq_zero hla]; exact Sl.nil_ _ _ _)
            have HA2 : Hid (Sl w5 w5.heap.size byteV (.slice none 0 0) (encP q)) := Lib.hid (by rw [List.eq_nil_of_length_eq_zero hlb]; exact Sl.nil_ _ _ _)
            clear HS6
            go_wp2_with fail
            refine (samebytes_any (l := encP p) (m := encP p) _ (by exact HA0.out) (by exact HS1.out)).mono ?_
            rw [decide_eq_true rfl]
            rintro e w6 ⟨rfl, hB6⟩
            have HB6 := Lib.hid hB6
            clear hB6
            go_wp2_with fail
            refine (samebytes_any (l := encP q) (m := encP q) _ (by exact (HA2.out.below HB6.out).more HB6.out.size) (by exact (HS2.out.below HB6.out).more HB6.out.size)).mono ?_
            rw [decide_eq_true rfl]
            rintro e w7 ⟨rfl, hB7⟩
            have HB7 := Lib.hid hB7
            clear hB7
            go_wp2
            go_ret
            exact ⟨rfl, HBA.out.trans ((HB6.out.mono HBA.out.size).trans (HB7.out.mono (Nat.le_trans HBA.out.size HB6.out.size)))⟩
          · unfold maxLen at n2
            have n3 : la + lb ≤ 9223372036854775807 := by omega
            have HA0 : Hid (Sl w5 w5.heap.size byteV (.slice (some ⟨g, 0, none⟩) la c5) (encP p)) := Lib.hid (by have := sl_take (m := la) HSX.out (by rw [List.length_append]; omega); rw [List.take_left' hla] at this; exact this)
            rcases Nat.lt_or_ge la c5 with n4 | n4
            · have HA2 : Hid (Sl w5 w5.heap.size byteV (.slice (some ⟨g, la, none⟩) lb (c5 - la)) (encP q)) := Lib.hid (by have := sl_drop HSX.out (k := la) (by rw [List.length_append]; omega); rw [List.drop_left' hla, hlb] at this; exact this)
              clear HS6
              go_wp2_with fail
              refine (samebytes_any (l := encP p) (m := encP p) _ (by exact HA0.out) (by exact HS1.out)).mono ?_
              rw [decide_eq_true rfl]
              rintro e w6 ⟨rfl, hB6⟩
              have HB6 := Lib.hid hB6
              clear hB6
              go_wp2_with fail
              refine (samebytes_any (l := encP q) (m := encP q) _ (by exact (HA2.out.below HB6.out).more HB6.out.size) (by exact (HS2.out.below HB6.out).more HB6.out.size)).mono ?_
              rw [decide_eq_true rfl]
              rintro e w7 ⟨rfl, hB7⟩
              have HB7 := Lib.hid hB7
              clear hB7
              go_wp2
              go_ret
              exact ⟨rfl, HBA.out.trans ((HB6.out.mono HBA.out.size).trans (HB7.out.mono (Nat.le_trans HBA.out.size HB6.out.size)))⟩
            · obtain rfl : lb = 0 := by omega
              obtain rfl : c5 = la := by omega
              have HA2 : ∀ w A, Hid (Sl w w.heap.size byteV (.slice A 0 0) (encP q)) := fun w A => Lib.hid (by rw [List.eq_nil_of_length_eq_zero hlb]; exact ⟨A, 0, rfl, Nat.le_refl _, Nat.zero_le _, fun h => absurd h (by simp)⟩)
              clear HS6
              go_wp2_with fail
              refine (samebytes_any (l := encP p) (m := encP p) _ (by exact HA0.out) (by exact HS1.out)).mono ?_
              rw [decide_eq_true rfl]
              rintro e w6 ⟨rfl, hB6⟩
              have HB6 := Lib.hid hB6
              clear hB6
              go_wp2_with fail
              refine (samebytes_any (l := encP q) (m := encP q) _ (by exact (HA2 _ _).out) (by exact (HS2.out.below HB6.out).more HB6.out.size)).mono ?_
              rw [decide_eq_true rfl]
              rintro e w7 ⟨rfl, hB7⟩
              have HB7 := Lib.hid hB7
              clear hB7
              go_wp2
              go_ret
              exact ⟨rfl, HBA.out.trans ((HB6.out.mono HBA.out.size).trans (HB7.out.mono (Nat.le_trans HBA.out.size HB6.out.size)))⟩
end codeW
end Go.Proofs.YtdjippdcgfcfgaaDoor
