/- Walks of the document's natural numbers (busbarref02): from, word, plus, less. Condition: at most 1000 digits. -/
import Derived.Test.YtllbpanfhlbbgaaDoorNatW
namespace Go.Proofs.YtllbpanfhlbbgaaDoor
open Go.RowKit Go.Bus Go.Nt
set_option linter.unusedVariables false
set_option linter.unusedSimpArgs false
namespace natW
theorem infoU : (Tryd.prog.info? 115).map (fun i => (i.zero, i.size, i.bytes)) = some (some (.int .u32 0), 1, 4) := by kernel_rfl
theorem sl_own {w : World} {base : Nat} {v : Value} {l : List Nat} (h : w.ownsRow base 115 1 v l.length (l.map N32)) : Sl w w.heap.size N32 v l := Sl.of_own h

set_option maxRecDepth 100000 in
set_option maxHeartbeats 1000000 in
theorem from_new (n : Nat) (w : World) (hn : n < 18446744073709551616) :
    Calls Tryd.prog 63 #[.int .u64 (n : Int)] w fun e w' => ∃ u, e = .returned u ∧ Nt w' u n ∧ NB w.heap.size u ∧ Below w.heap.size w w' := by
  obtain ⟨d0, hd0⟩ : ∃ d, d = n % 4294967296 := ⟨_, rfl⟩
  obtain ⟨d1, hd1⟩ : ∃ d, d = n / 4294967296 := ⟨_, rfl⟩
  have e1 : IntKind.u32.wrap (n : Int) = (d0 : Int) := by rw [IntKind.wrap_u32]; omega
  have e2 : IntKind.u32.wrap ((n : Int) / 4294967296) = (d1 : Int) := by rw [IntKind.wrap_u32]; omega
  have e3 : (n : Int) / 4294967296 = (d1 : Int) := by omega
  have e4 : IntKind.u32.wrap (d1 : Int) = (d1 : Int) := by rw [IntKind.wrap_u32]; omega
  have hs : Sl (w.alloc (.cells #[.int .u32 (d0 : Int), .int .u32 (d1 : Int)] 115)) (w.heap.size + 1) N32 (.slice (some ⟨w.heap.size, 0, none⟩) 2 2) [d0, d1] := by
    refine ⟨_, 2, rfl, by simp, by unfold maxLen; omega, fun _ => ⟨w.heap.size, 0, rfl, by omega, fun i x hi => ?_⟩⟩
    rw [Nat.zero_add, (Has.new w _ _).cell i]
    match i, hi with
    | 0, hi => simp at hi; subst hi; rfl
    | 1, hi => simp at hi; subst hi; rfl
  have hv : val [d0, d1] = n := by simp only [val]; omega
  have HT := Lib.hid (trim_new _ _ (w.alloc (.cells #[.int .u32 (d0 : Int), .int .u32 (d1 : Int)] 115)) (hs.more (by simp)) (by intro d hd; rcases List.mem_cons.1 hd with rfl | h; omega; rcases List.mem_cons.1 h with rfl | h; omega; cases h))
  rw [hv] at HT
  clear hs hv hd0 hd1
  go_enter Tryd.func63, Tryd.ntmps63
  go_wp2_with (go_at_call 72; refine (HT.out).mono ?_; rintro e w1 ⟨⟨u, rfl, hu⟩, rfl⟩)
  go_ret
  exact ⟨_, rfl, hu.1, hu.2 _ (fun b o n c e => by simp only [Value.slice.injEq, Option.some.injEq, Addr.mk.injEq] at e; omega), (by repeat' (first | (with_reducible assumption) | (with_reducible refine Below.setCell ?_ ?_ _) | (with_reducible refine Below.alloc ?_ ?_ _) | (with_reducible refine Below.drew ?_) | (with_reducible refine below_drewN ?_ _) | (with_reducible exact Below.refl _ _) | (show _ ≤ _; (try simp); (try omega); done) | exact Below.refl _ _ | assumption))⟩
theorem from_any (n : Nat) (w : World) (hn : n < 18446744073709551616) :
    Calls Tryd.prog 63 #[.int .u64 (n : Int)] w fun e w' => ∃ u, e = .returned u ∧ Nt w' u n ∧ Below w.heap.size w w' :=
  (from_new n w hn).mono fun e w' ⟨u, h1, h2, _, h3⟩ => ⟨u, h1, h2, h3⟩
-- PLUS

set_option maxRecDepth 100000 in
set_option maxHeartbeats 2000000 in
theorem plus_new (v u : Value) (a b : Nat) (w : World) (h : Nt w v a) (h' : Nt w u b) (ha : (digs a).length ≤ 1000) (hb : (digs b).length ≤ 1000) :
    Calls Tryd.prog 68 #[v, u] w fun e w' => ∃ x, e = .returned x ∧ Nt w' x (a + b) ∧ NB w.heap.size x ∧ Below w.heap.size w w' := by
  obtain ⟨i0, hi, hz0, hz1, hz2⟩ := info_parts infoU
  obtain ⟨A, cap, rfl, n1, n2⟩ := Sl.form h
  obtain ⟨A', cap', rfl, m1, m2⟩ := Sl.form h'
  have HA := Lib.hid (fun (W : World) (hb : Below w.heap.size w W) => h.at_below hb)
  have HB := Lib.hid (fun (W : World) (hb : Below w.heap.size w W) => h'.at_below hb)
  have la := Lib.hid (fun i (hi : (digs a).length ≤ i) => (digs_len_iff a i).1 hi)
  have lb := Lib.hid (fun i (hi : (digs b).length ≤ i) => (digs_len_iff b i).1 hi)
  clear h h' n2 m2
  generalize (digs a).length = x at *
  generalize (digs b).length = y at *
  obtain ⟨M, hM⟩ : ∃ M, M = max x y := ⟨_, rfl⟩
  rcases (by omega : x < y ∧ M ≤ y ∧ y ≤ M ∨ y < x ∧ M ≤ x ∧ x ≤ M ∨ x = y ∧ M ≤ x ∧ x ≤ M) with ⟨hxy, hq1, hq2⟩ | ⟨hxy, hq1, hq2⟩ | ⟨rfl, hq1, hq2⟩
  all_goals
    clear hM
    go_enter Tryd.func68, Tryd.ntmps68
    go_wp2
    go_loopw [5, 6, 7] (fun o c i wr => ∃ k : Nat, i = .int .i64 (k : Int) ∧ c = .int .u64 (carryP a b k : Int) ∧ k ≤ (M + 1) ∧ Hid (wr.ownsRow w.heap.size 115 1 o k ((rdigs (a + b) k).map N32)) ∧ Hid (Below w.heap.size w wr)) (fun _ _ i _ => (M + 1) - (intOf i).toNat)
    case atStart => exact ⟨0, rfl, by rw [carryP_zero]; rfl, by omega, Lib.hid (by simpa [rdigs] using World.ownsRow_nil _ _ _ _), Lib.hid (by repeat' (first | (with_reducible assumption) | (with_reducible refine Below.setCell ?_ ?_ _) | (with_reducible refine Below.alloc ?_ ?_ _) | (with_reducible refine Below.drew ?_) | (with_reducible refine below_drewN ?_ _) | (with_reducible exact Below.refl _ _) | (show _ ≤ _; (try simp); (try omega); done) | exact Below.refl _ _ | assumption))⟩
    case round =>
      obtain ⟨k, rfl, rfl, hk, HO, HW⟩ := hrel
      by_cases hlt : k ≤ M
      · obtain ⟨da, hda⟩ : ∃ d, d = a / 4294967296 ^ k % 4294967296 := ⟨_, rfl⟩
        obtain ⟨db, hdb⟩ : ∃ d, d = b / 4294967296 ^ k % 4294967296 := ⟨_, rfl⟩
        obtain ⟨d, hd⟩ : ∃ d, d = (a + b) / 4294967296 ^ k % 4294967296 := ⟨_, rfl⟩
        obtain ⟨c, hc⟩ : ∃ c, c = carryP a b k := ⟨_, rfl⟩
        obtain ⟨c', hc'⟩ : ∃ c, c = carryP a b (k + 1) := ⟨_, rfl⟩
        have hstep := carryP_step a b k
        rw [← hda, ← hdb, ← hc, ← hd, ← hc'] at hstep
        have qa : da < 4294967296 := by rw [hda]; exact Nat.mod_lt _ (by decide)
        have qb : db < 4294967296 := by rw [hdb]; exact Nat.mod_lt _ (by decide)
        have qc : c ≤ 1 := by rw [hc]; exact carryP_le _ _ _
        have hsz := HW.out.size
        rw [← hc]
        obtain ⟨hs1, hs2⟩ := hstep
        have e1 : IntKind.u32.wrap ((da : Int) + (db : Int) + (c : Int)) = (d : Int) := by rw [IntKind.wrap_u32]; omega
        have e3 : ((da : Int) + (db : Int) + (c : Int)) / 4294967296 = (c' : Int) := by omega
        clear hs1 hs2
        have HC := Lib.hid hc'
        have HD := Lib.hid hd
        have CA : Hid (∀ w V, Nt w V a → Calls Tryd.prog 88 #[V, .int .i64 (k : Int)] w fun e w' => e = .returned (.int .u64 (da : Int)) ∧ w = w') := Lib.hid fun w V h => by rw [hda]; exact digit_any _ a k w h (by omega)
        have CB : Hid (∀ w V, Nt w V b → Calls Tryd.prog 88 #[V, .int .i64 (k : Int)] w fun e w' => e = .returned (.int .u64 (db : Int)) ∧ w = w') := Lib.hid fun w V h => by rw [hdb]; exact digit_any _ b k w h (by omega)
        clear hda hdb hd hc hc'
        go_wp2_with (first
          | (go_at_call 88; first | (refine (CA.out _ _ (HA.out _ HW.out)).mono ?_; rintro e w' ⟨rfl, rfl⟩; clear CA) | (refine (CB.out _ _ (HB.out _ HW.out)).mono ?_; rintro e w' ⟨rfl, rfl⟩; clear CB))
          | (at_builtin; refine wpList_append_own _ rfl _ _ 81 rfl w.heap.size 115 i0 (.int .u32 0) 1 4 Tryd.underlying81 hi hz0 hz1 hz2 rfl (by decide) _ _ _ rfl (HO.out.alloc _) ⟨wr.heap.size, 0, none⟩ 1 1 [.int .u32 (d : Int)] rfl rfl (one_new wr _ _) (by intro u hu; simp at hu; subst hu; rfl) (by unfold maxLen; omega) (by omega) (by simp; omega) ?_))
        intro v' w1 ho1 hg1 _
        have HO1 : Hid (w1.ownsRow w.heap.size 115 1 v' (k + 1) ((rdigs (a + b) (k + 1)).map N32)) := Lib.hid (by rw [rdigs_succ, List.map_append, ← HD.out]; exact ho1)
        have HW1 : Hid (Below w.heap.size w w1) := Lib.hid (Below.grown (HW.out.alloc (by omega) _) hg1 (by simp; omega) fun r hr => (HO.out.lt r hr).1)
        clear ho1 hg1 HO HW
        go_wp2
        go_roundw
        case rel => exact ⟨k + 1, by go_num, by rw [HC.out], by omega, HO1, HW1⟩
        case measure => simp [intOf]; omega
      · have HT := Lib.hid (trim_new _ _ wr (Sl.of_own (l := rdigs (a + b) k) (by rw [rdigs_len]; exact HO.out)) (rdigs_lt _ _))
        have hv : val (rdigs (a + b) k) = a + b := rdigs_all (by
            have h1 := la.out M (by omega)
            have h2 := lb.out M (by omega)
            obtain rfl : k = M + 1 := by omega
            rw [Nat.pow_succ]
            generalize 4294967296 ^ M = P at *
            omega)
        rw [hv] at HT
        clear hv
        go_wp2_with (go_at_call 72; refine (HT.out).mono ?_; rintro e w1 ⟨⟨z, rfl, hu⟩, rfl⟩; have HU := Lib.hid hu; clear hu)
        go_ret
        exact ⟨_, rfl, HU.out.1, HU.out.2 _ (fun b o n c e => (HO.out.lt b (by rw [e]; rfl)).1), HW.out⟩


theorem plus_any (v u : Value) (a b : Nat) (w : World) (h : Nt w v a) (h' : Nt w u b) (ha : (digs a).length ≤ 1000) (hb : (digs b).length ≤ 1000) :
    Calls Tryd.prog 68 #[v, u] w fun e w' => ∃ x, e = .returned x ∧ Nt w' x (a + b) ∧ Below w.heap.size w w' :=
  (plus_new v u a b w h h' ha hb).mono fun e w' ⟨x, h1, h2, _, h3⟩ => ⟨x, h1, h2, h3⟩

set_option maxRecDepth 100000 in
set_option maxHeartbeats 2000000 in
theorem less_new (v u : Value) (a b : Nat) (w : World) (h : Nt w v a) (h' : Nt w u b) (ha : (digs a).length ≤ 1000) (hb : (digs b).length ≤ 1000) (hle : b ≤ a) :
    Calls Tryd.prog 74 #[v, u] w fun e w' => ∃ x, e = .returned x ∧ Nt w' x (a - b) ∧ NB w.heap.size x ∧ Below w.heap.size w w' := by
  obtain ⟨i0, hi, hz0, hz1, hz2⟩ := info_parts infoU
  obtain ⟨A, cap, rfl, n1, n2⟩ := Sl.form h
  obtain ⟨A', cap', rfl, m1, m2⟩ := Sl.form h'
  have HA := Lib.hid (fun (W : World) (hb : Below w.heap.size w W) => h.at_below hb)
  have HB := Lib.hid (fun (W : World) (hb : Below w.heap.size w W) => h'.at_below hb)
  have la := Lib.hid (fun i (hi : (digs a).length ≤ i) => (digs_len_iff a i).1 hi)
  have lb := Lib.hid (fun i (hi : (digs b).length ≤ i) => (digs_len_iff b i).1 hi)
  clear h h' n2 m2
  generalize (digs a).length = x at *
  generalize (digs b).length = y at *
  go_enter Tryd.func74, Tryd.ntmps74
  go_wp2
  go_loopw [5, 6, 7] (fun o c i wr => ∃ k : Nat, i = .int .i64 (k : Int) ∧ c = .int .u64 (borrowL a b k : Int) ∧ k ≤ x ∧ Hid (wr.ownsRow w.heap.size 115 1 o k ((rdigs (a - b) k).map N32)) ∧ Hid (Below w.heap.size w wr)) (fun _ _ i _ => x - (intOf i).toNat)
  case atStart => exact ⟨0, rfl, by rw [borrowL_zero]; rfl, by omega, Lib.hid (by simpa [rdigs] using World.ownsRow_nil _ _ _ _), Lib.hid (by repeat' (first | (with_reducible assumption) | (with_reducible refine Below.setCell ?_ ?_ _) | (with_reducible refine Below.alloc ?_ ?_ _) | (with_reducible refine Below.drew ?_) | (with_reducible refine below_drewN ?_ _) | (with_reducible exact Below.refl _ _) | (show _ ≤ _; (try simp); (try omega); done) | exact Below.refl _ _ | assumption))⟩
  case round =>
    obtain ⟨k, rfl, rfl, hk, HO, HW⟩ := hrel
    by_cases hlt : k < x
    · obtain ⟨da, hda⟩ : ∃ d, d = a / 4294967296 ^ k % 4294967296 := ⟨_, rfl⟩
      obtain ⟨db, hdb⟩ : ∃ d, d = b / 4294967296 ^ k % 4294967296 := ⟨_, rfl⟩
      obtain ⟨d, hd⟩ : ∃ d, d = (a - b) / 4294967296 ^ k % 4294967296 := ⟨_, rfl⟩
      obtain ⟨c, hc⟩ : ∃ c, c = borrowL a b k := ⟨_, rfl⟩
      obtain ⟨c', hc'⟩ : ∃ c, c = borrowL a b (k + 1) := ⟨_, rfl⟩
      have hstep := borrowL_step hle k
      rw [← hda, ← hdb, ← hc, ← hd, ← hc'] at hstep
      have qa : da < 4294967296 := by rw [hda]; exact Nat.mod_lt _ (by decide)
      have qb : db < 4294967296 := by rw [hdb]; exact Nat.mod_lt _ (by decide)
      have qc : c ≤ 1 := by rw [hc]; exact borrowL_le _ _ _
      have hsz := HW.out.size
      rw [← hc]
      obtain ⟨hs1, hs2⟩ := hstep
      have e1 : IntKind.u32.wrap (4294967296 + (da : Int) - (db : Int) - (c : Int)) = (d : Int) := by rw [IntKind.wrap_u32]; omega
      have e3 : 1 - (4294967296 + (da : Int) - (db : Int) - (c : Int)) / 4294967296 = (c' : Int) := by omega
      clear hs1 hs2
      have HC := Lib.hid hc'
      have HD := Lib.hid hd
      have CA : Hid (∀ w V, Nt w V a → Calls Tryd.prog 88 #[V, .int .i64 (k : Int)] w fun e w' => e = .returned (.int .u64 (da : Int)) ∧ w = w') := Lib.hid fun w V h => by rw [hda]; exact digit_any _ a k w h (by omega)
      have CB : Hid (∀ w V, Nt w V b → Calls Tryd.prog 88 #[V, .int .i64 (k : Int)] w fun e w' => e = .returned (.int .u64 (db : Int)) ∧ w = w') := Lib.hid fun w V h => by rw [hdb]; exact digit_any _ b k w h (by omega)
      clear hda hdb hd hc hc'
      go_wp2_with (first
        | (go_at_call 88; first | (refine (CA.out _ _ (HA.out _ HW.out)).mono ?_; rintro e w' ⟨rfl, rfl⟩; clear CA) | (refine (CB.out _ _ (HB.out _ HW.out)).mono ?_; rintro e w' ⟨rfl, rfl⟩; clear CB))
        | (at_builtin; refine wpList_append_own _ rfl _ _ 81 rfl w.heap.size 115 i0 (.int .u32 0) 1 4 Tryd.underlying81 hi hz0 hz1 hz2 rfl (by decide) _ _ _ rfl (HO.out.alloc _) ⟨wr.heap.size, 0, none⟩ 1 1 [.int .u32 (d : Int)] rfl rfl (one_new wr _ _) (by intro u hu; simp at hu; subst hu; rfl) (by unfold maxLen; omega) (by omega) (by simp; omega) ?_))
      intro v' w1 ho1 hg1 _
      have HO1 : Hid (w1.ownsRow w.heap.size 115 1 v' (k + 1) ((rdigs (a - b) (k + 1)).map N32)) := Lib.hid (by rw [rdigs_succ, List.map_append, ← HD.out]; exact ho1)
      have HW1 : Hid (Below w.heap.size w w1) := Lib.hid (Below.grown (HW.out.alloc (by omega) _) hg1 (by simp; omega) fun r hr => (HO.out.lt r hr).1)
      clear ho1 hg1 HO HW
      go_wp2
      go_roundw
      case rel => exact ⟨k + 1, by go_num, by rw [HC.out], by omega, HO1, HW1⟩
      case measure => simp [intOf]; omega
    · have HT := Lib.hid (trim_new _ _ wr (Sl.of_own (l := rdigs (a - b) k) (by rw [rdigs_len]; exact HO.out)) (rdigs_lt _ _))
      have hv : val (rdigs (a - b) k) = a - b := rdigs_all (by
          have h1 := la.out k (by omega)
          omega)
      rw [hv] at HT
      clear hv
      go_wp2_with (go_at_call 72; refine (HT.out).mono ?_; rintro e w1 ⟨⟨z, rfl, hu⟩, rfl⟩; have HU := Lib.hid hu; clear hu)
      go_ret
      exact ⟨_, rfl, HU.out.1, HU.out.2 _ (fun b o n c e => (HO.out.lt b (by rw [e]; rfl)).1), HW.out⟩
theorem less_any (v u : Value) (a b : Nat) (w : World) (h : Nt w v a) (h' : Nt w u b) (ha : (digs a).length ≤ 1000) (hb : (digs b).length ≤ 1000) (hle : b ≤ a) :
    Calls Tryd.prog 74 #[v, u] w fun e w' => ∃ x, e = .returned x ∧ Nt w' x (a - b) ∧ Below w.heap.size w w' :=
  (less_new v u a b w h h' ha hb hle).mono fun e w' ⟨x, h1, h2, _, h3⟩ => ⟨x, h1, h2, h3⟩

end natW
end Go.Proofs.YtllbpanfhlbbgaaDoor
