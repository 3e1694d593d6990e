/- Walks of busbarref11.Text and Value. Condition: no list of more than 2^47 bytes. -/
import Derived.Test.YtkfmbhmfegkedaaPhysX
import Derived.Test.YtkfmbhmfegkedaaRawRFits
namespace Go.Proofs.Ytkfmbhmfegkedaa
open Go.RowKit Go.Bus Go.Rt Go.Bus.dbK Go.Bus.rawK Go.Bus.cellK Go.Bus.textK Go.Maps
set_option linter.unusedVariables false
set_option linter.unusedSimpArgs false
namespace physW
open ratW
abbrev FitC (f : FuncId) (v sz : Int) (sg fb : Bool) : Prop := ∀ w, Calls Try.prog f #[.int .u64 v, .int .i64 sz, .bool sg] w fun e w' => e = .returned (.bool fb) ∧ w = w'

set_option maxRecDepth 100000 in
set_option maxHeartbeats 2000000 in
theorem rtext_no {v sz q : Int} {sg fb : Bool} (L : Value) (cs : Array Value) (w : World) (g6 : cs[6]? = some (.int .i64 sz)) (g8 : cs[8]? = some (.bool sg)) (C2 : Hid (FitC 22 v sz sg fb)) (v0 : 0 ≤ v) (v1 : v < 18446744073709551616)
    (sh : v / 2 ^ 63 = q) (hb : (!fb || (!sg && !(q == 0))) = true) :
    Cl1 7 #[L, .agg cs, .int .u64 v] (.tuple #[.string ⟨#[]⟩, .bool false]) w := by
  have c6 : (w.alloc (.cells cs 30)).cell? ⟨w.heap.size, 6, none⟩ = some (.int .i64 sz) := ((Has.new w _ cs).cell 6).trans g6
  have c8 : (w.alloc (.cells cs 30)).cell? ⟨w.heap.size, 8, none⟩ = some (.bool sg) := ((Has.new w _ cs).cell 8).trans g8
  clear g6 g8
  cases fb
  · go_enter Try.func7, Try.ntmps7
    go_wp2_with (go_at_call 22; refine (C2.out _).mono ?_; rintro e w' ⟨rfl, rfl⟩)
    go_ret2
    exact ⟨rfl, (by repeat' (first | (with_reducible assumption) | (with_reducible refine Below.setCell ?_ ?_ _) | (with_reducible refine Below.alloc ?_ ?_ _) | (with_reducible refine Below.drew ?_) | (with_reducible refine below_drewN ?_ _) | (with_reducible exact Below.refl _ _) | (show _ ≤ _; (try simp); (try omega); done) | exact Below.refl _ _ | assumption))⟩
  · cases sg
    · have ov : (q == 0) = false := by simpa using hb
      clear hb
      go_enter Try.func7, Try.ntmps7
      go_wp2_with (go_at_call 22; refine (C2.out _).mono ?_; rintro e w' ⟨rfl, rfl⟩)
      go_ret2
      exact ⟨rfl, (by repeat' (first | (with_reducible assumption) | (with_reducible refine Below.setCell ?_ ?_ _) | (with_reducible refine Below.alloc ?_ ?_ _) | (with_reducible refine Below.drew ?_) | (with_reducible refine below_drewN ?_ _) | (with_reducible exact Below.refl _ _) | (show _ ≤ _; (try simp); (try omega); done) | exact Below.refl _ _ | assumption))⟩
    · exact absurd hb (by simp)
theorem rret_s {l : List RowD} {key : Int} {x : RowD} (h : l.find? (fun r => r.val == key) = some x) : Ending.returned (.tuple #[.string x.text, .bool true]) = Ending.returned (.tuple #[.string (txtV l key), .bool (findV l key).isSome]) := by
  have : findV l key = some x.text := by unfold findV; rw [h]; rfl
  unfold txtV; rw [this]; rfl
theorem rret_n {l : List RowD} {key : Int} (h : l.find? (fun r => r.val == key) = none) : Ending.returned (.tuple #[.string ⟨#[]⟩, .bool false]) = Ending.returned (.tuple #[.string (txtV l key), .bool (findV l key).isSome]) := by
  have : findV l key = none := by unfold findV; rw [h]; rfl
  unfold txtV; rw [this]; rfl

set_option maxRecDepth 100000 in
set_option maxHeartbeats 2000000 in
theorem rtext_go {v sz key q : Int} {sg : Bool} (L : Value) (l : List RowD) (cs : Array Value) (w : World) (g6 : cs[6]? = some (.int .i64 sz)) (g8 : cs[8]? = some (.bool sg)) (C2 : Hid (FitC 22 v sz sg true)) (v0 : 0 ≤ v) (v1 : v < 18446744073709551616)
    (sh : v / 2 ^ 63 = q) (hb : (!sg && !(q == 0)) = false) (wk : IntKind.i64.wrap v = key) (hs : SlK 2 rowE w (Old w.heap.size) L l) :
    Cl1 7 #[L, .agg cs, .int .u64 v] (.tuple #[.string (txtV l key), .bool (findV l key).isSome]) w := by
  obtain ⟨A, cap, rfl, n1, n2⟩ := hs.form
  have n3 : cap ≤ 9223372036854775807 := by unfold maxLen at n2; omega
  have HV := Lib.hid (fun (w1 : World) (hb : Below w.heap.size w w1) => hs.below rowE_mono hb)
  clear hs n2
  have c6 : (w.alloc (.cells cs 30)).cell? ⟨w.heap.size, 6, none⟩ = some (.int .i64 sz) := ((Has.new w _ cs).cell 6).trans g6
  have c8 : (w.alloc (.cells cs 30)).cell? ⟨w.heap.size, 8, none⟩ = some (.bool sg) := ((Has.new w _ cs).cell 8).trans g8
  clear g6 g8
  cases sg
  rotate_left
  all_goals
    try (have ov : (q == 0) = true := by simpa using hb)
    clear hb
    go_enter Try.func7, Try.ntmps7
    go_wp2_with (go_at_call 22; refine (C2.out _).mono ?_; rintro e w' ⟨rfl, rfl⟩)
    go_loopw [8] (fun i wr => ∃ k : Nat, i = .int .i64 k ∧ k ≤ l.length ∧ Hid ((l.drop k).find? (fun r => r.val == key) = l.find? (fun r => r.val == key)) ∧ Hid (Below w.heap.size w wr)) (fun i _ => l.length - (intOf i).toNat)
    case atStart => exact ⟨0, rfl, Nat.zero_le _, Lib.hid rfl, Lib.hid (by repeat' (first | (with_reducible assumption) | (with_reducible refine Below.setCell ?_ ?_ _) | (with_reducible refine Below.alloc ?_ ?_ _) | (with_reducible refine Below.drew ?_) | (with_reducible refine below_drewN ?_ _) | (with_reducible exact Below.refl _ _) | (show _ ≤ _; (try simp); (try omega); done) | exact Below.refl _ _ | assumption))⟩
    case round =>
      obtain ⟨k, rfl, hk, HD, HB⟩ := hrel
      by_cases hlt : k < l.length
      · obtain ⟨b, off, cs', hA, hbo, hcl, hr, he⟩ := (HV.out _ HB.out).at_ hlt
        obtain ⟨hd1, hd2⟩ := drop_find hlt HD.out
        subst hA
        generalize l[k] = x at *
        have hcx : cs' = rowCells x := he
        subst hcx
        have c0 : wr.cell? ⟨b, off + k * 2, none⟩ = some (.int .i64 x.val) := hr 0 _ rfl
        have c1 : wr.cell? ⟨b, off + k * 2 + 1, none⟩ = some (.string x.text) := hr 1 _ rfl
        have HD1 := Lib.hid hd1
        have HD2 := Lib.hid hd2
        clear hr he hcl hbo hd1 hd2 HD
        by_cases hv : x.val = key
        · have hve : (x.val == key) = true := by simpa using hv
          have HVE := Lib.hid hve
          clear hv
          go_wp2
          go_ret2
          exact ⟨rret_s (HD1.out HVE.out), HB.out⟩
        · have hve : (x.val == key) = false := by simpa using hv
          have HVE := Lib.hid hve
          clear hv
          go_wp2
          go_roundw
          case rel => exact ⟨k + 1, by go_num, by omega, Lib.hid (HD2.out HVE.out), HB⟩
          case measure => simp [intOf]; omega
      · obtain rfl : k = l.length := by omega
        have hn := HD.out
        rw [List.drop_length] at hn
        have HN2 := Lib.hid hn.symm
        clear hn HD
        go_wp2
        go_ret2
        exact ⟨rret_n HN2.out, HB.out⟩
theorem rtext_val (l : List RowD) (L : Value) (s : Sig) (v : Value) (u : Int) (w : World) (u0 : 0 ≤ u) (u1 : u < 18446744073709551616) (hs : SlK 2 rowE w (Old w.heap.size) L l) :
    Cl1 7 #[L, sigV s v, .int .u64 u] (textV l s u) w := by
  have F1 : Hid (FitC 22 u s.size s.sgn (fitsB u s.size s.sgn)) := hidf fun w => rawW.rfits_any _ _ _ w u0 u1
  rw [sigV_cs]
  unfold textV textO
  have hq : (!(u / 2 ^ 63 == 0)) = decide (9223372036854775807 < u) := by
    have e : (2 : Int) ^ 63 = 9223372036854775808 := by decide
    rw [e]
    rcases (by omega : u < 9223372036854775808 ∨ 9223372036854775808 ≤ u) with h | h
    · rw [show u / 9223372036854775808 = 0 from by omega, decide_eq_false (by omega)]; rfl
    · rw [show u / 9223372036854775808 = 1 from by omega, decide_eq_true (by omega)]; rfl
  by_cases hb : bigB s u = true
  · rw [if_pos hb]
    unfold bigB at hb
    rw [← hq] at hb
    exact rtext_no L _ w rfl rfl F1 u0 u1 rfl hb
  · have hb' : bigB s u = false := by simpa using hb
    rw [if_neg hb]
    unfold bigB at hb'
    rw [Bool.or_eq_false_iff] at hb'
    have hf : fitsB u s.size s.sgn = true := by simpa using hb'.1
    rw [hf] at F1
    have h2 := hb'.2
    rw [← hq] at h2
    exact rtext_go L l _ w rfl rfl F1 u0 u1 rfl h2 (by unfold wrap64; rw [IntKind.wrap_i64]) hs

set_option maxRecDepth 100000 in
set_option maxHeartbeats 4000000 in
theorem rval_go (L : Value) (l : List RowD) (s : Sig) (t : ByteArray) (cs : Array Value) (w : World) (g6 : cs[6]? = some (.int .i64 s.size)) (g8 : cs[8]? = some (.bool s.sgn))
    (C3 : Hid (∀ n : Int, FitC 22 (n % 18446744073709551616) s.size s.sgn (fitsB (n % 18446744073709551616) s.size s.sgn))) (hs : SlK 2 rowE w (Old w.heap.size) L l) (hok : ∀ r ∈ l, RowOk r) :
    Cl1 8 #[L, .agg cs, .string t] (valV l s t) w := by
  obtain ⟨A, cap, rfl, n1, n2⟩ := hs.form
  have n3 : cap ≤ 9223372036854775807 := by unfold maxLen at n2; omega
  have HV := Lib.hid (fun (w1 : World) (hb : Below w.heap.size w w1) => hs.below rowE_mono hb)
  have HK := Lib.hid hok
  have G6 := Lib.hid g6
  have G8 := Lib.hid g8
  clear hs hok n2 g6 g8
  go_enter Try.func8, Try.ntmps8
  go_wp2
  go_loopw [8] (fun i wr => ∃ k : Nat, i = .int .i64 k ∧ k ≤ l.length ∧ Hid ((l.drop k).find? (hitB s t) = l.find? (hitB s t)) ∧ Hid (Has wr w.heap.size 30 cs) ∧ Hid (Below w.heap.size w wr)) (fun i _ => l.length - (intOf i).toNat)
  case atStart => exact ⟨0, rfl, Nat.zero_le _, Lib.hid rfl, Lib.hid (Has.new w _ cs), Lib.hid (by repeat' (first | (with_reducible assumption) | (with_reducible refine Below.setCell ?_ ?_ _) | (with_reducible refine Below.alloc ?_ ?_ _) | (with_reducible refine Below.drew ?_) | (with_reducible refine below_drewN ?_ _) | (with_reducible exact Below.refl _ _) | (show _ ≤ _; (try simp); (try omega); done) | exact Below.refl _ _ | assumption))⟩
  case round =>
    obtain ⟨k, rfl, hk, HD, HS, HB⟩ := hrel
    by_cases hlt : k < l.length
    · obtain ⟨b, off, cs', hA, hbo, hcl, hr, he⟩ := (HV.out _ HB.out).at_ hlt
      subst hA
      obtain ⟨hd1, hd2⟩ := drop_find hlt HD.out
      have hokx := HK.out _ (List.getElem_mem hlt)
      generalize l[k] = x at *
      have hcx : cs' = rowCells x := he
      subst hcx
      have c0 : wr.cell? ⟨b, off + k * 2, none⟩ = some (.int .i64 x.val) := hr 0 _ rfl
      have c1 : wr.cell? ⟨b, off + k * 2 + 1, none⟩ = some (.string x.text) := hr 1 _ rfl
      have c6 : wr.cell? ⟨w.heap.size, 6, none⟩ = some (.int .i64 s.size) := (HS.out.cell 6).trans G6.out
      have c8 : wr.cell? ⟨w.heap.size, 8, none⟩ = some (.bool s.sgn) := (HS.out.cell 8).trans G8.out
      have HD1 := Lib.hid hd1
      have HD2 := Lib.hid hd2
      have C4 := Lib.hid (C3.out x.val)
      have wk : IntKind.u64.wrap x.val = x.val % 18446744073709551616 := by rw [IntKind.wrap_u64]
      obtain ⟨u, hu⟩ : ∃ u, x.val % 18446744073709551616 = u := ⟨_, rfl⟩
      have HH : Hid (hitB s t x = (decide (x.text = t) && ((s.sgn || decide (0 ≤ x.val)) && fitsB u s.size s.sgn))) := Lib.hid (by unfold hitB hasB; rw [hu])
      rw [hu] at wk C4
      have HU := Lib.hid hu
      clear hr he hcl hokx hbo hd1 hd2 HD hu
      by_cases ht : x.text = t
      · have hte : (x.text.toList == t.toList) = true := (Lib.bytes_beq_iff _ _).2 ht
        rw [decide_eq_true ht, Bool.true_and] at HH
        clear ht
        by_cases hp : (s.sgn || decide (0 ≤ x.val)) = true
        · rw [hp, Bool.true_and] at HH
          have hp2 : s.sgn = true ∨ s.sgn = false ∧ decide (0 ≤ x.val) = true := by cases hg : s.sgn <;> rw [hg] at hp <;> simp at hp ⊢; exact hp
          clear hp
          cases hh : fitsB u s.size s.sgn
          · rw [hh] at C4 HH
            clear hh
            rcases hp2 with hg | ⟨hg, h0⟩
            all_goals
              rw [hg] at c8 C4
              go_wp2_with (go_at_call 22; refine (C4.out _).mono ?_; rintro e w' ⟨rfl, rfl⟩)
              go_roundw
              case rel => exact ⟨k + 1, by go_num, by omega, Lib.hid (HD2.out HH.out), HS, HB⟩
              case measure => simp [intOf]; omega
          · rw [hh] at C4 HH
            clear hh
            rcases hp2 with hg | ⟨hg, h0⟩
            all_goals
              rw [hg] at c8 C4
              go_wp2_with (go_at_call 22; refine (C4.out _).mono ?_; rintro e w' ⟨rfl, rfl⟩)
              go_ret2
              exact ⟨ret_u (HD1.out HH.out) HU.out, HB.out⟩
        · have hp' : (s.sgn || decide (0 ≤ x.val)) = false := by simpa using hp
          rw [hp', Bool.false_and] at HH
          rw [Bool.or_eq_false_iff] at hp'
          obtain ⟨hg, h0⟩ := hp'
          clear hp
          rw [hg] at c8
          go_wp2
          go_roundw
          case rel => exact ⟨k + 1, by go_num, by omega, Lib.hid (HD2.out HH.out), HS, HB⟩
          case measure => simp [intOf]; omega
      · have hte : (x.text.toList == t.toList) = false := (Lib.bytes_beq_false_iff _ _).2 ht
        rw [decide_eq_false ht, Bool.false_and] at HH
        clear ht
        go_wp2
        go_roundw
        case rel => exact ⟨k + 1, by go_num, by omega, Lib.hid (HD2.out HH.out), HS, HB⟩
        case measure => simp [intOf]; omega
    · obtain rfl : k = l.length := by omega
      have hn := HD.out
      rw [List.drop_length] at hn
      have HN2 : Hid (l.find? (hitB s t) = none) := Lib.hid hn.symm
      clear hn HD
      go_wp2
      go_ret2
      exact ⟨ret_n HN2.out, HB.out⟩
theorem rval_val (l : List RowD) (L : Value) (s : Sig) (v : Value) (t : ByteArray) (w : World) (hs : SlK 2 rowE w (Old w.heap.size) L l) (hok : ∀ r ∈ l, RowOk r) :
    Cl1 8 #[L, sigV s v, .string t] (valV l s t) w := by
  rw [sigV_cs]
  exact rval_go L l s t _ w rfl rfl (hidf fun n w => rawW.rfits_any _ _ _ w (by omega) (by omega)) hs hok
end physW
end Go.Proofs.Ytkfmbhmfegkedaa
