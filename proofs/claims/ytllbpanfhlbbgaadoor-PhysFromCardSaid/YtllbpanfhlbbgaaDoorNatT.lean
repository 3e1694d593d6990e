/- Walk of busbarref02.times. Condition: at most 1000 digits. -/
import Derived.Test.YtllbpanfhlbbgaaDoorNatP
import Derived.Laws.OwnMore
import Derived.Deep.QuietTactic
import Derived.BigQuiet
namespace Go.Proofs.YtllbpanfhlbbgaaDoor
open Go.RowKit Go.Bus Go.Nt
set_option linter.unusedVariables false
set_option linter.unusedSimpArgs false
namespace natW
theorem rep_snoc (k : Nat) : List.replicate k (N32 0) ++ [Value.int .u32 0] = List.replicate (k + 1) (N32 0) := by
  rw [List.replicate_succ']; rfl
theorem val_rep : ∀ k, val (List.replicate k 0) = 0
  | 0 => rfl
  | k + 1 => by rw [List.replicate_succ, val, val_rep k]
/-- The row between two rounds: N digits that say V. -/
structure Row (w : World) (base : Nat) (o : Value) (N V : Nat) (L : List Nat) : Prop where
  own : w.ownsRow base 115 1 o N (L.map N32)
  len : L.length = N
  lt : ∀ d ∈ L, d < 4294967296
  val : val L = V

set_option maxRecDepth 100000 in
set_option maxHeartbeats 2000000 in
theorem times_nb (v u : Value) (a b : Nat) (w : World) (h : Nt w v a) (h' : Nt w u b) (ha : (digs a).length ≤ 1000) (hb : (digs b).length ≤ 1000) :
    Calls Tryd.prog 47 #[v, u] w fun e w' => ∃ x, e = .returned x ∧ Nt w' x (a * b) ∧ NB w.heap.size x ∧ Below w.heap.size w w' := by
  obtain ⟨i0, hi, hz0, hz1, hz2⟩ := info_parts infoU
  obtain ⟨A, cap, rfl, n1, n2⟩ := Sl.form h
  obtain ⟨A', cap', rfl, m1, m2⟩ := Sl.form h'
  have n3 : cap ≤ 9223372036854775807 := by unfold maxLen at n2; omega
  have m3 : cap' ≤ 9223372036854775807 := by unfold maxLen at m2; omega
  have HA := Lib.hid (fun (W : World) (hb : Below w.heap.size w W) => h.at_below hb)
  have HB := Lib.hid (fun (W : World) (hb : Below w.heap.size w W) => h'.at_below hb)
  have HLA := Lib.hid (show a < 4294967296 ^ (digs a).length from digs_len a)
  have HLB := Lib.hid (show b < 4294967296 ^ (digs b).length from digs_len b)
  clear h h' n2 m2
  obtain ⟨x, hx⟩ : ∃ x, x = (digs a).length := ⟨_, rfl⟩
  obtain ⟨y, hy⟩ : ∃ y, y = (digs b).length := ⟨_, rfl⟩
  rw [← hx] at HLA n1 ha ⊢
  rw [← hy] at HLB m1 hb ⊢
  have HX := Lib.hid hx
  have HY := Lib.hid hy
  clear hx hy
  go_enter Tryd.func47, Tryd.ntmps47
  go_wp2
  go_loopw [5, 6] (fun o i wr => ∃ k : Nat, i = .int .i64 (k : Int) ∧ k ≤ x + y ∧ Hid (wr.ownsRow w.heap.size 115 1 o k (List.replicate k (N32 0))) ∧ Hid (Below w.heap.size w wr)) (fun _ i _ => x + y - (intOf i).toNat)
  case atStart => exact ⟨0, rfl, Nat.zero_le _, Lib.hid (World.ownsRow_nil _ _ _ _), Lib.hid (by repeat' (first | (with_reducible assumption) | (with_reducible refine Below.setCell ?_ ?_ _) | (with_reducible refine Below.alloc ?_ ?_ _) | (with_reducible refine Below.drew ?_) | (with_reducible refine below_drewN ?_ _) | (with_reducible exact Below.refl _ _) | (show _ ≤ _; (try simp); (try omega); done) | exact Below.refl _ _ | assumption))⟩
  case round =>
    obtain ⟨k, rfl, hk, HO, HW⟩ := hrel
    by_cases hlt : k < x + y
    · have hsz := HW.out.size
      go_wp2_with (at_builtin; refine wpList_append_own _ rfl _ _ 81 rfl w.heap.size 115 i0 (.int .u32 0) 1 4 Tryd.underlying81 hi hz0 hz1 hz2 rfl (by decide) _ _ _ rfl (HO.out.alloc _) ⟨wr.heap.size, 0, none⟩ 1 1 [.int .u32 0] rfl rfl (one_new wr _ _) (by intro u hu; simp at hu; subst hu; rfl) (by unfold maxLen; omega) (by omega) (by simp; omega) ?_)
      intro v' w1 ho1 hg1 _
      rw [rep_snoc] at ho1
      have HO1 := Lib.hid ho1
      have HW1 : Hid (Below w.heap.size w w1) := Lib.hid (Below.grown (HW.out.alloc (by omega) _) hg1 (by simp; omega) fun r hr => (HO.out.lt r hr).1)
      clear ho1 hg1 HO HW
      go_wp2
      go_roundw
      case rel => exact ⟨k + 1, by go_num, by omega, HO1, HW1⟩
      case measure => simp [intOf]; omega
    · obtain rfl : k = x + y := by omega
      have ho : Row wr w.heap.size u5 (x + y) 0 (List.replicate (x + y) 0) := ⟨by rw [List.map_replicate]; exact HO.out, by simp, by intro d hd; rw [List.eq_of_mem_replicate hd]; decide, val_rep _⟩
      have HR : Hid (∃ L, Row wr w.heap.size u5 (x + y) ((a % 4294967296 ^ 0) * b) L) := Lib.hid ⟨_, by rw [Nat.pow_zero, Nat.mod_one, Nat.zero_mul]; exact ho⟩
      have hform : x + y = 0 ∨ ∃ g cap, u5 = .slice (some ⟨g, 0, none⟩) (x + y) cap ∧ x + y ≤ cap ∧ cap ≤ 9223372036854775807 := by
        rcases Nat.eq_zero_or_pos (x + y) with h0 | h0
        · exact .inl h0
        · exact .inr (own_form HO.out h0)
      clear ho HO
      rcases hform with h0 | ⟨g, cg, rfl, q1, q2⟩
      · obtain rfl : x = 0 := by omega
        obtain rfl : y = 0 := by omega
        obtain ⟨L, hL⟩ := HR.out
        have HT := Lib.hid (trim_new _ _ wr (Sl.of_own (l := L) (by rw [hL.len]; exact hL.own)) hL.lt)
        rw [hL.val, Nat.pow_zero, Nat.mod_one, Nat.zero_mul] at HT
        have HAB : Hid (0 = a * b) := Lib.hid (by have := HLA.out; rw [show a = 0 by omega, Nat.zero_mul])
        have HOO := Lib.hid hL.own
        clear hL HR
        go_wp2
        go_loopw [7] (fun i W => i = .int .i64 0 ∧ W = wr) (fun _ _ => 0)
        case atStart => exact ⟨rfl, rfl⟩
        case round =>
          obtain ⟨rfl, rfl⟩ := hrel
          go_wp2_with (go_at_call 72; refine (HT.out).mono ?_; rintro e w1 ⟨⟨z, rfl, hu⟩, rfl⟩; have HU := Lib.hid hu; clear hu)
          go_ret
          exact ⟨_, rfl, by rw [← HAB.out]; exact HU.out.1, HU.out.2 _ (fun b o n c e => (HOO.out.lt b (by rw [e]; rfl)).1), HW.out⟩
      · go_wp2
        go_loopw [7] (fun i wr => ∃ k : Nat, i = .int .i64 (k : Int) ∧ k ≤ x ∧ Hid (∃ L, Row wr w.heap.size (.slice (some ⟨g, 0, none⟩) (x + y) cg) (x + y) ((a % 4294967296 ^ k) * b) L) ∧ Hid (Below w.heap.size w wr)) (fun i _ => x - (intOf i).toNat)
        case atStart => exact ⟨0, rfl, Nat.zero_le _, HR, HW⟩
        case round =>
          clear HR HW
          obtain ⟨i, rfl, hi', HR, HW⟩ := hrel
          by_cases hlt2 : i < x
          · have hia : i < (digs a).length := by rw [← HX.out]; exact hlt2
            obtain ⟨ba, oa, rfl, hba, hcz⟩ := Sl.at_ (HA.out _ HW.out) hia
            obtain ⟨ai, hai⟩ : ∃ d, d = a / 4294967296 ^ i % 4294967296 := ⟨_, rfl⟩
            have CA : Hid (∀ W, Below w.heap.size w W → W.cell? ⟨ba, oa + i, none⟩ = some (.int .u32 (ai : Int))) := Lib.hid fun W hW => by
              obtain ⟨b', o', e, _, hc⟩ := Sl.at_ (HA.out _ hW) hia
              simp only [Option.some.injEq, Addr.mk.injEq, and_true] at e
              obtain ⟨rfl, rfl⟩ := e
              have hg := digs_get i a
              rw [List.getD_eq_getElem?_getD, List.getElem?_eq_getElem hia] at hg
              rw [hai, ← hg]; exact hc
            have qai : ai < 4294967296 := by rw [hai]; exact Nat.mod_lt _ (by decide)
            have HAI := Lib.hid hai
            clear hai hcz hia hba
            have HI0 : Hid (Below w.heap.size w wr ∧ ∃ L, Row wr w.heap.size (.slice (some ⟨g, 0, none⟩) (x + y) cg) (x + y) ((a % 4294967296 ^ i) * b) L ∧ ∀ j, i + y ≤ j → L.getD j 0 = 0) := Lib.hid ⟨HW.out, by
              obtain ⟨L, hL⟩ := HR.out
              refine ⟨L, hL, fun j hj => val_high (m := i + y) hL.lt ?_ hj⟩
              rw [hL.val, Nat.pow_add]
              exact Nat.lt_of_le_of_lt (Nat.mul_le_mul_left _ (Nat.le_of_lt HLB.out)) (Nat.mul_lt_mul_of_pos_right (Nat.mod_lt _ (show 0 < 4294967296 ^ i from Nat.pow_pos (by decide))) (show 0 < 4294967296 ^ y from Nat.pow_pos (by decide)))⟩
            clear HR
            go_wp2
            go_loopw [8, 9] (fun c k wr => ∃ (k' c' V : Nat), c = .int .u64 (c' : Int) ∧ k = .int .i64 (k' : Int) ∧ k' ≤ y ∧ c' < 4294967296 ∧ Hid (V + c' * 4294967296 ^ (i + k') = (a % 4294967296 ^ i) * b + ai * (b % 4294967296 ^ k') * 4294967296 ^ i) ∧ Hid (Below w.heap.size w wr ∧ ∃ L, Row wr w.heap.size (.slice (some ⟨g, 0, none⟩) (x + y) cg) (x + y) V L ∧ ∀ j, i + y ≤ j → L.getD j 0 = 0)) (fun _ k _ => y - (intOf k).toNat)
            case atStart => exact ⟨0, 0, (a % 4294967296 ^ i) * b, rfl, rfl, Nat.zero_le _, by decide, Lib.hid (by rw [Nat.pow_zero, Nat.mod_one]; simp), HI0⟩
            case round =>
              clear HI0 HW
              obtain ⟨k, c, V, rfl, rfl, hk, hc, HV, HI⟩ := hrel
              by_cases hlt3 : k < y
              · have hkb : k < (digs b).length := by rw [← HY.out]; exact hlt3
                obtain ⟨bb, ob, rfl, hbb, cb⟩ := Sl.at_ (HB.out _ HI.out.1) hkb
                have hg := digs_get k b
                rw [List.getD_eq_getElem?_getD, List.getElem?_eq_getElem hkb] at hg
                obtain ⟨bk, hbk⟩ : ∃ d, d = b / 4294967296 ^ k % 4294967296 := ⟨_, rfl⟩
                have hcb : wr.cell? ⟨bb, ob + k, none⟩ = some (.int .u32 (bk : Int)) := by rw [hbk, ← hg]; exact cb
                have qbk : bk < 4294967296 := by rw [hbk]; exact Nat.mod_lt _ (by decide)
                have HBK := Lib.hid hbk
                clear hbk hg hkb cb
                have hca := CA.out _ HI.out.1
                obtain ⟨hBel, L, hL, hz⟩ := HI.out
                have hik : i + k < L.length := by rw [hL.len]; omega
                have hco : wr.cell? ⟨g, i + k, none⟩ = some (N32 (L.getD (i + k) 0)) := by
                  rw [hL.own.cellAt (i + k) (by omega), List.getElem?_map, List.getD_eq_getElem?_getD, List.getElem?_eq_getElem hik]; rfl
                have hfo := hL.own.frozenAt (i + k)
                obtain ⟨old, hold⟩ : ∃ d, d = L.getD (i + k) 0 := ⟨_, rfl⟩
                have qold : old < 4294967296 := by rw [hold, List.getD_eq_getElem?_getD, List.getElem?_eq_getElem hik]; exact hL.lt _ (List.getElem_mem hik)
                rw [← hold] at hco
                change wr.cell? ⟨g, i + k, none⟩ = some (.int .u32 (old : Int)) at hco
                obtain ⟨n, hn⟩ : ∃ n, n = ai * bk + old + c := ⟨_, rfl⟩
                have qm : ai * bk ≤ 4294967295 * 4294967295 := Nat.mul_le_mul (by omega) (by omega)
                have qn : n < 18446744073709551616 := by omega
                obtain ⟨d, hd⟩ : ∃ d, d = n % 4294967296 := ⟨_, rfl⟩
                obtain ⟨c', hc'⟩ : ∃ d, d = n / 4294967296 := ⟨_, rfl⟩
                have HE1 : Hid (IntKind.u64.wrap (IntKind.u64.wrap (IntKind.u64.wrap ((ai : Int) * (bk : Int)) + (old : Int)) + (c : Int)) = (n : Int)) := Lib.hid (by
                  rw [← Int.natCast_mul, IntKind.wrap_u64, IntKind.wrap_u64, IntKind.wrap_u64]; omega)
                have HE2 : Hid ((n : Int) / 4294967296 = (c' : Int)) := Lib.hid (by omega)
                have HE3 : Hid ((n : Int) % 4294967296 = (d : Int)) := Lib.hid (by omega)
                have HN : Hid (∀ m, Row ((wr.drewN m).setCell ⟨g, i + k, none⟩ (.int .u32 (d : Int))) w.heap.size (.slice (some ⟨g, 0, none⟩) (x + y) cg) (x + y) (val (L.set (i + k) d)) (L.set (i + k) d) ∧ (∀ j, i + y ≤ j → (L.set (i + k) d).getD j 0 = 0) ∧ Below w.heap.size w ((wr.drewN m).setCell ⟨g, i + k, none⟩ (.int .u32 (d : Int)))) := Lib.hid fun m => by
                  have hL2 := World.ownsRow.stored (w := wr.drewN m) hL.own (i + k) (.int .u32 (d : Int))
                  exact ⟨⟨by rw [List.map_set]; exact hL2.1, by simpa using hL.len, set_lt hL.lt (by omega), rfl⟩, fun j hj => by
                    rw [List.getD_eq_getElem?_getD, List.getElem?_set_ne (by omega), ← List.getD_eq_getElem?_getD]; exact hz j hj,
                   (below_drewN hBel m).grown hL2.2 hBel.size (fun r hr => by cases hr; exact (hL.own.lt g rfl).1)⟩
                have HV2 : Hid (val (L.set (i + k) d) + c' * 4294967296 ^ (i + (k + 1)) = (a % 4294967296 ^ i) * b + ai * (b % 4294967296 ^ (k + 1)) * 4294967296 ^ i) := Lib.hid (by
                  have h1 := val_set L (i + k) d hik
                  rw [← hold, hL.val] at h1
                  exact times_in h1 hn hd hc' HBK.out HV.out)
                have qc' : c' < 4294967296 := by omega
                have hgl := (hL.own.lt g rfl).2
                clear hL hz hold hBel hik hd hc' hn qm
                go_wp2
                go_quiet (fail)
                go_wp2
                go_roundw
                case rel => rw [HE1.out, HE2.out, HE3.out]; exact ⟨k + 1, c', _, rfl, by go_num, by omega, qc', HV2, Lib.hid ⟨(HN.out _).2.2, _, (HN.out _).1, (HN.out 0).2.1⟩⟩
                case measure => simp [intOf]; omega
              · obtain rfl : k = y := by omega
                obtain ⟨hBel, L, hL, hz⟩ := HI.out
                have hik : i + k < L.length := by rw [hL.len]; omega
                have hfo := hL.own.frozenAt (i + k)
                have hco : wr.cell? ⟨g, i + k, none⟩ = some (N32 (L.getD (i + k) 0)) := by
                  rw [hL.own.cellAt (i + k) (by omega), List.getElem?_map, List.getD_eq_getElem?_getD, List.getElem?_eq_getElem hik]; rfl
                have w4' : IntKind.u32.wrap (c : Int) = (c : Int) := by rw [IntKind.wrap_u32]; omega
                have hL2 := hL.own.stored (i + k) (.int .u32 (c : Int))
                have HN : Hid (Row (wr.setCell ⟨g, i + k, none⟩ (.int .u32 (c : Int))) w.heap.size (.slice (some ⟨g, 0, none⟩) (x + k) cg) (x + k) ((a % 4294967296 ^ (i + 1)) * b) (L.set (i + k) c) ∧ Below w.heap.size w (wr.setCell ⟨g, i + k, none⟩ (.int .u32 (c : Int)))) := Lib.hid
                  ⟨⟨by rw [List.map_set]; exact hL2.1, by simpa using hL.len, set_lt hL.lt hc, by
                    have h1 := val_set L (i + k) c hik
                    rw [hz (i + k) (Nat.le_refl _), hL.val, Nat.zero_mul, Nat.add_zero] at h1
                    rw [h1]
                    exact times_out HAI.out rfl HLB.out HV.out⟩,
                   hBel.grown hL2.2 hBel.size (fun r hr => by cases hr; exact (hL.own.lt g rfl).1)⟩
                have hgl := (hL.own.lt g rfl).2
                clear hL hL2 hz hBel hik
                go_wp2
                go_roundw
                case rel => exact ⟨i + 1, by go_num, by omega, Lib.hid ⟨_, HN.out.1⟩, Lib.hid HN.out.2⟩
                case measure => simp [intOf]; omega
          · obtain rfl : i = x := by omega
            obtain ⟨L, hL⟩ := HR.out
            have HT := Lib.hid (trim_new _ _ wr (Sl.of_own (l := L) (by rw [hL.len]; exact hL.own)) hL.lt)
            rw [hL.val, Nat.mod_eq_of_lt HLA.out] at HT
            have HOO := Lib.hid hL.own
            clear hL
            go_wp2_with (go_at_call 72; refine (HT.out).mono ?_; rintro e w1 ⟨⟨z, rfl, hu⟩, rfl⟩; have HU := Lib.hid hu; clear hu)
            go_ret
            exact ⟨_, rfl, HU.out.1, HU.out.2 _ (fun b o n c e => (HOO.out.lt b (by rw [e]; rfl)).1), HW.out⟩
theorem times_any (v u : Value) (a b : Nat) (w : World) (h : Nt w v a) (h' : Nt w u b) (ha : (digs a).length ≤ 1000) (hb : (digs b).length ≤ 1000) :
    Calls Tryd.prog 47 #[v, u] w fun e w' => ∃ x, e = .returned x ∧ Nt w' x (a * b) ∧ Below w.heap.size w w' :=
  (times_nb v u a b w h h' ha hb).mono fun e w' ⟨x, h1, h2, _, h3⟩ => ⟨x, h1, h2, h3⟩
end natW
end Go.Proofs.YtllbpanfhlbbgaaDoor
