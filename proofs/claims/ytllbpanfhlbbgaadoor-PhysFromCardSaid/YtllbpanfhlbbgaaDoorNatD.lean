/- Walk of busbarref02.divided. Condition: at most 500 digits. -/
import Derived.Test.YtllbpanfhlbbgaaDoorNatT
import Derived.Test.YtllbpanfhlbbgaaDoorNatWd
import Derived.Laws.BitsAllLaws
import Derived.StillTailTactics
import Derived.Test.YtllbpanfhlbbgaaDoorStill
namespace Go.Proofs.YtllbpanfhlbbgaaDoor
open Go.RowKit Go.Bus Go.Nt
set_option linter.unusedVariables false
set_option linter.unusedSimpArgs false
namespace natW
theorem bit_val (A s : Nat) (hA : A < 4294967296) : bits BinOp.and IntKind.u64 (IntKind.u64.wrap ((A : Int) / 2 ^ s)) 1 = ((A / 2 ^ s % 2 : Nat) : Int) := by
  have h1 : A / 2 ^ s < 4294967296 := Nat.lt_of_le_of_lt (Nat.div_le_self _ _) hA
  have h2 : ((A : Int) / 2 ^ s) = ((A / 2 ^ s : Nat) : Int) := by simp
  rw [h2]
  generalize A / 2 ^ s = B at *
  have h3 : IntKind.u64.wrap (B : Int) = (B : Int) := by rw [IntKind.wrap_u64]; omega
  have h4 := u64_and_nat B 1 (by omega) (by decide)
  rw [h3]
  rw [Nat.and_one_is_mod] at h4
  exact h4
theorem or_val {d s : Nat} (hd : d < 4294967296) (hs : s < 32) (h : d % 2 ^ (s + 1) = 0) : bits BinOp.or IntKind.u32 (d : Int) ((2 : Int) ^ s % 4294967296) = ((d + 2 ^ s : Nat) : Int) := by
  have h1 : 2 ^ s ≤ 2 ^ 31 := Nat.pow_le_pow_right (by decide) (by omega)
  have h3 : (2 : Nat) ^ s < 4294967296 := by omega
  have h2 : ((2 : Int) ^ s % 4294967296) = ((2 ^ s : Nat) : Int) := by
    rw [show (2 : Int) ^ s = ((2 ^ s : Nat) : Int) from by simp]
    generalize (2 : Nat) ^ s = B at *
    omega
  rw [h2, u32_or_nat d (2 ^ s) hd h3, or_bit h]
theorem len_le {n b k : Nat} (h : n < 2 * b) (hb : (digs b).length ≤ k) : (digs n).length ≤ k + 1 := by
  rw [digs_len_iff] at hb ⊢
  rw [Nat.pow_succ]
  generalize 4294967296 ^ k = P at *
  omega
theorem Row.kept {w w' : World} {base : Nat} {o : Value} {N V : Nat} {L : List Nat} (h : Row w base o N V L) (hb : Below w.heap.size w w') : Row w' base o N V L := ⟨own_kept h.own hb, h.len, h.lt, h.val⟩

set_option maxRecDepth 100000 in
set_option maxHeartbeats 2000000 in
theorem divided_any (v u : Value) (a b : Nat) (w : World) (h : Nt w v a) (h' : Nt w u b) (ha : (digs a).length ≤ 500) (hb : (digs b).length ≤ 500) (hb0 : 0 < b) :
    Calls Tryd.prog 67 #[v, u] w fun e w' => ∃ x y, e = .returned (.tuple #[x, y]) ∧ Nt w' x (a / b) ∧ Nt w' y (a % b) ∧ Below w.heap.size w w' := by
  obtain ⟨i0, hi, hz0, hz1, hz2⟩ := info_parts infoU
  obtain ⟨A, cap, rfl, n1, n2⟩ := Sl.form h
  have n3 : cap ≤ 9223372036854775807 := by unfold maxLen at n2; omega
  have HA := Lib.hid (fun (W : World) (hb : Below w.heap.size w W) => h.at_below hb)
  have HB := Lib.hid (fun (W : World) (hb : Below w.heap.size w W) => h'.at_below hb)
  have HLA := Lib.hid (show a < 4294967296 ^ (digs a).length from digs_len a)
  have HB0 := Lib.hid hb0
  have HLB := Lib.hid hb
  clear h h' n2 hb0 hb
  obtain ⟨x, hx⟩ : ∃ x, x = (digs a).length := ⟨_, rfl⟩
  rw [← hx] at HLA n1 ha ⊢
  have HX := Lib.hid hx
  clear hx
  go_enter Tryd.func67, Tryd.ntmps67
  go_wp2
  go_loopw [6, 7] (fun o i wr => ∃ k : Nat, i = .int .i64 (k : Int) ∧ k ≤ x ∧ Hid (wr.ownsRow w.heap.size 115 1 o k (List.replicate k (N32 0))) ∧ Hid (Below w.heap.size w wr)) (fun _ i _ => x - (intOf i).toNat)
  case atStart => exact ⟨0, rfl, Nat.zero_le _, Lib.hid (World.ownsRow_nil _ _ _ _), Lib.hid (by repeat' (first | (with_reducible assumption) | (with_reducible refine Below.setCell ?_ ?_ _) | (with_reducible refine Below.alloc ?_ ?_ _) | (with_reducible refine Below.drew ?_) | (with_reducible refine below_drewN ?_ _) | (with_reducible exact Below.refl _ _) | (show _ ≤ _; (try simp); (try omega); done) | exact Below.refl _ _ | assumption))⟩
  case round =>
    obtain ⟨k, rfl, hk, HO, HW⟩ := hrel
    by_cases hlt : k < x
    · have hsz := HW.out.size
      go_wp2_with (at_builtin; refine wpList_append_own _ rfl _ _ 81 rfl w.heap.size 115 i0 (.int .u32 0) 1 4 Tryd.underlying81 hi hz0 hz1 hz2 rfl (by decide) _ _ _ rfl (HO.out.alloc _) ⟨wr.heap.size, 0, none⟩ 1 1 [.int .u32 0] rfl rfl (one_new wr _ _) (by intro u hu; simp at hu; subst hu; rfl) (by unfold maxLen; omega) (by omega) (by simp; omega) ?_)
      intro v' w1 ho1 hg1 _
      rw [rep_snoc] at ho1
      have HO1 := Lib.hid ho1
      have HW1 : Hid (Below w.heap.size w w1) := Lib.hid (Below.grown (HW.out.alloc (by omega) _) hg1 (by simp; omega) fun r hr => (HO.out.lt r hr).1)
      clear ho1 hg1 HO HW
      go_wp2
      go_roundw
      case rel => exact ⟨k + 1, by go_num, by omega, HO1, HW1⟩
      case measure => simp [intOf]; omega
    · obtain rfl : x = k := by omega
      have ho : Row wr w.heap.size u6 x 0 (List.replicate x 0) := ⟨by rw [List.map_replicate]; exact HO.out, by simp, by intro d hd; rw [List.eq_of_mem_replicate hd]; decide, val_rep _⟩
      have hform : x = 0 ∨ ∃ g cap, u6 = .slice (some ⟨g, 0, none⟩) x cap ∧ x ≤ cap ∧ cap ≤ 9223372036854775807 := by
        rcases Nat.eq_zero_or_pos x with h0 | h0
        · exact .inl h0
        · exact .inr (own_form HO.out h0)
      have hdz : a / 2 ^ (32 * x) = 0 := Nat.div_eq_of_lt (by rw [Nat.pow_mul]; exact HLA.out)
      rcases hform with h0 | ⟨g, cg, rfl, q1, q2⟩
      · subst h0
        have HT := Lib.hid (trim_any _ _ wr (Sl.of_own (l := []) HO.out) (fun d hd => by cases hd))
        have HAB : Hid (a = 0) := Lib.hid (by have := HLA.out; simpa using this)
        clear ho hdz
        go_wp2
        go_loopw [8, 9] (fun o i W => o = .slice none 0 0 ∧ i = .int .i64 (-1) ∧ W = wr) (fun _ _ _ => 0)
        case atStart => exact ⟨rfl, rfl, rfl⟩
        case round =>
          obtain ⟨rfl, rfl, rfl⟩ := hrel
          go_wp2_with (go_at_call 72; refine (HT.out).mono ?_; rintro e w1 ⟨⟨z, rfl, hu⟩, rfl⟩; have HU := Lib.hid hu; clear hu)
          go_ret2
          refine ⟨_, _, rfl, ?_, ?_, HW.out⟩
          · rw [HAB.out, Nat.zero_div]; exact HU.out
          · rw [HAB.out, Nat.zero_mod]; unfold Nt; rw [digs_zero]; exact Sl.nil_ _ _ _
      · have HR0 : Hid (Nt wr (.slice none 0 0) (a / 2 ^ (32 * x) % b) ∧ ∃ L, Row wr w.heap.size (.slice (some ⟨g, 0, none⟩) x cg) x (a / 2 ^ (32 * x) / b * 2 ^ (32 * x)) L) := Lib.hid ⟨by
          rw [hdz, Nat.zero_mod]; unfold Nt; rw [digs_zero]; exact Sl.nil_ _ _ _, _, by rw [hdz, Nat.zero_div, Nat.zero_mul]; exact ho⟩
        clear ho hdz HO
        go_wp2
        go_loopw [8, 9] (fun o i wr => ∃ m : Nat, i = .int .i64 ((m : Int) - 1) ∧ m ≤ 32 * x ∧ Hid (Nt wr o (a / 2 ^ m % b) ∧ ∃ L, Row wr w.heap.size (.slice (some ⟨g, 0, none⟩) x cg) x (a / 2 ^ m / b * 2 ^ m) L) ∧ Hid (Below w.heap.size w wr)) (fun _ i _ => (intOf i + 1).toNat)
        case atStart => exact ⟨32 * x, by go_num, Nat.le_refl _, HR0, HW⟩
        case round =>
          clear HR0 HW
          obtain ⟨m, rfl, hm, HR, HW⟩ := hrel
          rcases Nat.eq_zero_or_pos m with rfl | hpos
          · obtain ⟨L, hL⟩ := HR.out.2
            have HT := Lib.hid (trim_any (.slice (some ⟨g, 0, none⟩) x cg) L wr (Sl.of_own (l := L) (by rw [hL.len]; exact hL.own)) hL.lt)
            rw [hL.val, Nat.pow_zero, Nat.div_one, Nat.mul_one] at HT
            have HN := HR.out.1
            rw [Nat.pow_zero, Nat.div_one] at HN
            have HN2 := Lib.hid HN
            clear HN hL HR
            go_wp2_with (go_at_call 72; refine (HT.out).mono ?_; rintro e w1 ⟨⟨z, rfl, hu⟩, rfl⟩; have HU := Lib.hid hu; clear hu)
            go_ret2
            exact ⟨_, _, rfl, HU.out, HN2.out, HW.out⟩
          · obtain ⟨k, rfl⟩ : ∃ k, m = k + 1 := ⟨m - 1, by omega⟩
            rw [show ((k + 1 : Nat) : Int) - 1 = (k : Int) from by omega]
            have hia : k / 32 < (digs a).length := by rw [← HX.out]; omega
            obtain ⟨ba, oa, rfl, hba, hcz⟩ := Sl.at_ (HA.out _ HW.out) hia
            obtain ⟨ai, hai⟩ : ∃ d, d = a / 4294967296 ^ (k / 32) % 4294967296 := ⟨_, rfl⟩
            have hca : wr.cell? ⟨ba, oa + k / 32, none⟩ = some (.int .u32 (ai : Int)) := by
              have hg := digs_get (k / 32) a
              rw [List.getD_eq_getElem?_getD, List.getElem?_eq_getElem hia] at hg
              rw [hai, ← hg]; exact hcz
            have hbit := bit_of a k
            rw [← hai] at hbit
            have qai : ai < 4294967296 := by rw [hai]; exact Nat.mod_lt _ (by decide)
            clear hcz hia hba hai
            obtain ⟨s, hs⟩ : ∃ s, s = k % 32 := ⟨_, rfl⟩
            rw [← hs] at hbit
            rw [hs] at hbit
            clear hs
            obtain ⟨R, hR⟩ : ∃ R, R = a / 2 ^ (k + 1) % b := ⟨_, rfl⟩
            obtain ⟨Q, hQ⟩ : ∃ Q, Q = a / 2 ^ (k + 1) / b := ⟨_, rfl⟩
            obtain ⟨bt, hbt⟩ : ∃ bt, bt = a / 2 ^ k % 2 := ⟨_, rfl⟩
            have hRb : R < b := by rw [hR]; exact Nat.mod_lt _ HB0.out
            have hbt2 : bt < 2 := by rw [hbt]; exact Nat.mod_lt _ (by decide)
            have hstep := div_step HB0.out hR hQ hbt
            have HSTEP := Lib.hid hstep
            have HV : Hid (bits BinOp.and IntKind.u64 (IntKind.u64.wrap ((ai : Int) / 2 ^ (k % 32))) 1 = (bt : Int)) := Lib.hid (by rw [bit_val ai _ qai, hbit, hbt])
            have CF : Hid (∀ W, Calls Tryd.prog 63 #[.int .u64 (bits BinOp.and IntKind.u64 (IntKind.u64.wrap ((ai : Int) / 2 ^ (k % 32))) 1)] W fun e w' => ∃ u, e = .returned u ∧ Nt w' u bt ∧ Below W.heap.size W w') := Lib.hid (fun W => by rw [HV.out]; exact from_any bt W (by omega))
            have HR1 : Hid (Nt wr u8 R) := Lib.hid (by rw [hR]; exact HR.out.1)
            have HRL : Hid (∃ L, Row wr w.heap.size (.slice (some ⟨g, 0, none⟩) x cg) x (Q * 2 ^ (k + 1)) L) := Lib.hid (by rw [hQ]; exact HR.out.2)
            have l1 : Hid ((digs R).length ≤ 1000) := Lib.hid (Nat.le_trans (len_le (n := R) (b := b) (by omega) HLB.out) (by omega))
            have l2 : Hid ((digs (R + R)).length ≤ 1000) := Lib.hid (Nat.le_trans (len_le (n := R + R) (b := b) (by omega) HLB.out) (by omega))
            have l3 : Hid ((digs bt).length ≤ 1000) := Lib.hid (Nat.le_trans ((digs_len_iff bt 1).2 (by rw [Nat.pow_one]; omega)) (by decide))
            have l4 : Hid ((digs (R + R + bt)).length ≤ 1000) := Lib.hid (Nat.le_trans (len_le (n := R + R + bt) (b := b) (by omega) HLB.out) (by omega))
            have HBT := Lib.hid hbt
            have HRB := Lib.hid hRb
            clear hR hQ hbt hRb hstep hbit HR HV
            go_wp2_with fail
            refine (plus_any u8 u8 R R wr HR1.out HR1.out l1.out l1.out).mono ?_
            rintro e w1 ⟨y1, rfl, hy1, hb1⟩
            have HY1 := Lib.hid hy1
            have HW1 := Lib.hid (HW.out.trans (hb1.mono HW.out.size))
            have HRL1 : Hid (∃ L, Row w1 w.heap.size (.slice (some ⟨g, 0, none⟩) x cg) x (Q * 2 ^ (k + 1)) L) := Lib.hid (by obtain ⟨L, hL⟩ := HRL.out; exact ⟨L, hL.kept hb1⟩)
            clear hy1 hb1 HRL HW HR1
            go_wp2_with fail
            refine (CF.out w1).mono ?_
            rintro e w2 ⟨y2, rfl, hy2, hb2⟩
            have HY2 := Lib.hid hy2
            have HY12 := Lib.hid (HY1.out.at_below hb2)
            have HW2 := Lib.hid (HW1.out.trans (hb2.mono HW1.out.size))
            have HRL2 : Hid (∃ L, Row w2 w.heap.size (.slice (some ⟨g, 0, none⟩) x cg) x (Q * 2 ^ (k + 1)) L) := Lib.hid (by obtain ⟨L, hL⟩ := HRL1.out; exact ⟨L, hL.kept hb2⟩)
            clear hy2 hb2 HRL1 HW1 HY1 CF
            go_wp2_with fail
            refine (plus_any y1 y2 (R + R) bt w2 HY12.out HY2.out l2.out l3.out).mono ?_
            rintro e w3 ⟨y3, rfl, hy3, hb3⟩
            have HY3 := Lib.hid hy3
            have HW3 := Lib.hid (HW2.out.trans (hb3.mono HW2.out.size))
            have HRL3 : Hid (∃ L, Row w3 w.heap.size (.slice (some ⟨g, 0, none⟩) x cg) x (Q * 2 ^ (k + 1)) L) := Lib.hid (by obtain ⟨L, hL⟩ := HRL2.out; exact ⟨L, hL.kept hb3⟩)
            clear hy3 hb3 HRL2 HW2 HY12 HY2
            rcases Nat.lt_or_ge (R + R + bt) b with hlt | hge
            · obtain ⟨c, hc⟩ : ∃ c, c = cmpN (R + R + bt) b := ⟨_, rfl⟩
              have hc0 : decide (0 ≤ c) = false := decide_eq_false (by rw [hc]; unfold cmpN; rw [if_pos hlt]; decide)
              have CH : Hid (Calls Tryd.prog 73 #[y3, u] w3 fun e w' => e = .returned (.int .i64 c) ∧ w3 = w') := Lib.hid (by rw [hc]; exact held_any y3 u _ b w3 HY3.out (HB.out _ HW3.out) l4.out (Nat.le_trans HLB.out (by omega)))
              have HS := Lib.hid (HSTEP.out.2 (by omega))
              clear hc hlt
              go_wp2_with fail
              refine CH.out.mono ?_
              rintro e w4 ⟨rfl, rfl⟩
              clear CH
              go_wp2
              go_roundw
              case rel =>
                refine ⟨k, rfl, by omega, Lib.hid ⟨?_, ?_⟩, HW3⟩
                · rw [HS.out.1, Nat.two_mul]; exact HY3.out
                · obtain ⟨L, hL⟩ := HRL3.out
                  refine ⟨L, hL.own, hL.len, hL.lt, ?_⟩
                  rw [hL.val, HS.out.2, Nat.pow_succ]
                  grind
              case measure => simp [intOf]
            · obtain ⟨c, hc⟩ : ∃ c, c = cmpN (R + R + bt) b := ⟨_, rfl⟩
              have hc0 : decide (0 ≤ c) = true := decide_eq_true (by rw [hc]; unfold cmpN; rw [if_neg (by omega)]; split <;> decide)
              have CH : Hid (Calls Tryd.prog 73 #[y3, u] w3 fun e w' => e = .returned (.int .i64 c) ∧ w3 = w') := Lib.hid (by rw [hc]; exact held_any y3 u _ b w3 HY3.out (HB.out _ HW3.out) l4.out (Nat.le_trans HLB.out (by omega)))
              have HS := Lib.hid (HSTEP.out.1 (by omega))
              have CL : Hid (Calls Tryd.prog 74 #[y3, u] w3 fun e w' => ∃ z, e = .returned z ∧ Nt w' z (R + R + bt - b) ∧ NB w3.heap.size z ∧ Below w3.heap.size w3 w') := Lib.hid (less_new y3 u _ b w3 HY3.out (HB.out _ HW3.out) l4.out (Nat.le_trans HLB.out (by omega)) hge)
              clear hc hge
              go_wp2_with fail
              refine CH.out.mono ?_
              rintro e w4 ⟨rfl, rfl⟩
              clear CH
              go_wp2_with fail
              refine CL.out.mono ?_
              rintro e w4 ⟨y4, rfl, hy4, hnb, hb4⟩
              have HY4 := Lib.hid hy4
              have HW4 := Lib.hid (HW3.out.trans (hb4.mono HW3.out.size))
              obtain ⟨L, hL3⟩ := HRL3.out
              have HFAR : Hid (∀ V, Nt ((w4.setCell ⟨g, k / 32, none⟩ V).drew) y4 (R + R + bt - b)) := Lib.hid (fun V => by
                have hg3 := (hL3.own.lt g rfl).2
                obtain ⟨A, cap, rfl, e1, e2, hx⟩ := hy4
                refine ⟨A, cap, rfl, e1, e2, fun h0 => ?_⟩
                obtain ⟨b, off, rfl, hb, hcell⟩ := hx h0
                refine ⟨b, off, rfl, by simpa using hb, fun i x hi => ?_⟩
                have hne : b ≠ g := by have := hnb b off _ _ rfl; omega
                exact (World.cell?_setCell_other (w := w4) (a := ⟨g, k / 32, none⟩) (b := ⟨b, off + i, none⟩) (v := V) (by simp only [ne_eq, Addr.mk.injEq]; omega)).trans (hcell i x hi))
              have hL := hL3.kept hb4
              have hkl : k / 32 < L.length := by rw [hL.len]; omega
              have hco : w4.cell? ⟨g, k / 32, none⟩ = some (N32 (L.getD (k / 32) 0)) := by
                rw [hL.own.cellAt (k / 32) (by omega), List.getElem?_map, List.getD_eq_getElem?_getD, List.getElem?_eq_getElem hkl]; rfl
              have hfo := hL.own.frozenAt (k / 32)
              obtain ⟨d, hd⟩ : ∃ d, d = L.getD (k / 32) 0 := ⟨_, rfl⟩
              rw [← hd] at hco
              change w4.cell? ⟨g, k / 32, none⟩ = some (.int .u32 (d : Int)) at hco
              have qd : d < 4294967296 := by rw [hd, List.getD_eq_getElem?_getD, List.getElem?_eq_getElem hkl]; exact hL.lt _ (List.getElem_mem hkl)
              have hgl := (hL.own.lt g rfl).2
              have HL := Lib.hid hL
              have HD := Lib.hid hd
              have HKL := Lib.hid hkl
              clear hL hL3 hd hkl hy4 hb4 CL
              go_wp2
              refine wp_region_still_tail 13 (by kernel_rfl) (by kernel_rfl) ?_
              simp only [List.take_succ_cons, List.take_zero, List.drop_succ_cons, List.drop_zero]
              iterate 13 (refine still_go rfl rfl (fun K hK => ?_); (first | go_big_move | go_big_op); refine hK _ _ rfl ?_; clear hK K)
              refine wpStill_nil ?_
              change wpList _ _ _ _ _ w4.drew
              have q1s : d % 2 ^ (k % 32 + 1) = 0 := by rw [HD.out]; exact quo_digit HL.out.lt HL.out.val
              have HO := Lib.hid (or_val qd (Nat.mod_lt k (by decide)) q1s)
              have q2s : d + 2 ^ (k % 32) < 4294967296 := by
                have e1 : (4294967296 : Nat) = 2 ^ (k % 32 + 1) * 2 ^ (31 - k % 32) := by rw [← Nat.pow_add, show k % 32 + 1 + (31 - k % 32) = 32 from by omega]
                have e2 := Nat.div_add_mod d (2 ^ (k % 32 + 1))
                rw [q1s, Nat.add_zero] at e2
                have e3 : d / 2 ^ (k % 32 + 1) < 2 ^ (31 - k % 32) := by
                  rw [Nat.div_lt_iff_lt_mul (Nat.pow_pos (by decide)), Nat.mul_comm, ← e1]; exact qd
                have e4 : (d / 2 ^ (k % 32 + 1) + 1) * 2 ^ (k % 32 + 1) ≤ 2 ^ (31 - k % 32) * 2 ^ (k % 32 + 1) := Nat.mul_le_mul_right _ e3
                rw [Nat.mul_comm (2 ^ (31 - k % 32)), ← e1, Nat.add_mul, Nat.one_mul, Nat.mul_comm (d / _), e2, Nat.pow_succ] at e4
                have := Nat.pow_pos (n := k % 32) (show 0 < 2 by decide)
                omega
              have HN : Hid (Nt ((w4.setCell ⟨g, k / 32, none⟩ (.int .u32 ((d + 2 ^ (k % 32) : Nat) : Int))).drew) y4 (a / 2 ^ k % b) ∧ (∃ L', Row ((w4.setCell ⟨g, k / 32, none⟩ (.int .u32 ((d + 2 ^ (k % 32) : Nat) : Int))).drew) w.heap.size (.slice (some ⟨g, 0, none⟩) x cg) x (a / 2 ^ k / b * 2 ^ k) L') ∧ Below w.heap.size w ((w4.setCell ⟨g, k / 32, none⟩ (.int .u32 ((d + 2 ^ (k % 32) : Nat) : Int))).drew)) := Lib.hid (by
                have hst := HL.out.own.stored (k / 32) (.int .u32 ((d + 2 ^ (k % 32) : Nat) : Int))
                refine ⟨?_, ⟨L.set (k / 32) (d + 2 ^ (k % 32)), ?_⟩, ?_⟩
                · rw [HS.out.1, Nat.two_mul]
                  exact HFAR.out _
                · refine ⟨by rw [List.map_set]; exact hst.1, by simpa using HL.out.len, set_lt HL.out.lt q2s, ?_⟩
                  have h1 := val_set L (k / 32) (d + 2 ^ (k % 32)) HKL.out
                  rw [← HD.out, HL.out.val] at h1
                  rw [HS.out.2]
                  exact quo_set h1 rfl
                · exact (below_drewN (HW4.out.grown hst.2 HW4.out.size (fun r hr => by cases hr; exact (HL.out.own.lt g rfl).1)) 1))
              clear q1s q2s
              go_wp2
              go_roundw
              case rel => rw [HO.out]; exact ⟨k, rfl, by omega, Lib.hid ⟨HN.out.1, HN.out.2.1⟩, Lib.hid HN.out.2.2⟩
              case measure => simp [intOf]
end natW
end Go.Proofs.YtllbpanfhlbbgaaDoor
