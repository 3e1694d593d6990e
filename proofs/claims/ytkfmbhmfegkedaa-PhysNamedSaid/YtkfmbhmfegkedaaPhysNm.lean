/- Walk of busbarlaw11.twice and PhysNamed. Condition: no list of more than 2^47 bytes. -/
import Derived.Test.YtkfmbhmfegkedaaPhysX
import Derived.Test.YtkfmbhmfegkedaaPhysB
import Derived.Deep.QuietTactic
import Derived.BigQuiet
namespace Go.Proofs.Ytkfmbhmfegkedaa
open Go.RowKit Go.Bus Go.Rt Go.Bus.dbK Go.Bus.rawK Go.Bus.cellK Go.Bus.textK Go.Maps
set_option linter.unusedVariables false
set_option linter.unusedSimpArgs false
namespace physW
open ratW
def ND (l : List RowD) : Prop := ∀ (i k : Nat) (a b : RowD), k < i → l[i]? = some a → l[k]? = some b → a.val ≠ b.val
def NDi (l : List RowD) (n : Nat) : Prop := ∀ (i k : Nat) (a b : RowD), i < n → k < i → l[i]? = some a → l[k]? = some b → a.val ≠ b.val
def NDk (l : List RowD) (x : Int) (n : Nat) : Prop := ∀ (k : Nat) (b : RowD), k < n → l[k]? = some b → x ≠ b.val
theorem NDi.next {l : List RowD} {i : Nat} {x : RowD} (h : NDi l i) (hx : l[i]? = some x) (hk : NDk l x.val i) : NDi l (i + 1) := by
  intro i' k a b h1 h2 h3 h4
  rcases (by omega : i' < i ∨ i' = i) with h | rfl
  · exact (by assumption : NDi l i) i' k a b h h2 h3 h4
  · rw [hx] at h3; cases h3; exact hk k b h2 h4
theorem NDk.next {l : List RowD} {k : Nat} {x : Int} {y : RowD} (h : NDk l x k) (hy : l[k]? = some y) (hne : x ≠ y.val) : NDk l x (k + 1) := by
  intro k' b h1 h2
  rcases (by omega : k' < k ∨ k' = k) with h3 | rfl
  · exact h k' b h3 h2
  · rw [hy] at h2; cases h2; exact hne
theorem NDi.all {l : List RowD} (h : NDi l l.length) : ND l := fun i k a b h1 h2 h3 => h i k a b (List.getElem?_eq_some_iff.1 h2).1 h1 h2 h3
def TwP (l : List RowD) (w : World) (e : Ending) (w' : World) : Prop := ∃ b : Bool, e = .returned (.bool b) ∧ (b = false → ND l) ∧ Below w.heap.size w w'

set_option maxRecDepth 100000 in
set_option maxHeartbeats 4000000 in
theorem twice_any (L : Value) (l : List RowD) (w : World) (hs : SlK 2 rowE w (Old w.heap.size) L l) : Calls Try.prog 21 #[L] w (TwP l w) := by
  obtain ⟨A, cap, rfl, n1, n2⟩ := hs.form
  have n3 : cap ≤ 9223372036854775807 := by unfold maxLen at n2; omega
  have HV := Lib.hid (fun (w1 : World) (hb : Below w.heap.size w w1) => hs.below rowE_mono hb)
  clear hs n2
  go_enter Try.func21, Try.ntmps21
  go_wp2
  go_loopw [3] (fun i wr => ∃ k : Nat, i = .int .i64 k ∧ k ≤ l.length ∧ Hid (NDi l k) ∧ Hid (Below w.heap.size w wr)) (fun i _ => l.length - (intOf i).toNat)
  case atStart => exact ⟨0, rfl, Nat.zero_le _, Lib.hid (fun i k a b h => absurd h (Nat.not_lt_zero i)), Lib.hid (by repeat' (first | (with_reducible assumption) | (with_reducible refine Below.setCell ?_ ?_ _) | (with_reducible refine Below.alloc ?_ ?_ _) | (with_reducible refine Below.drew ?_) | (with_reducible refine below_drewN ?_ _) | (with_reducible exact Below.refl _ _) | (show _ ≤ _; (try simp); (try omega); done) | exact Below.refl _ _ | assumption))⟩
  case round =>
    obtain ⟨i, rfl, hi, HD, HB⟩ := hrel
    by_cases hlt : i < l.length
    · obtain ⟨b, off, cs', hA, hbo, hcl, hr, he⟩ := (HV.out _ HB.out).at_ hlt
      have hx := List.getElem?_eq_getElem hlt
      generalize l[i] = x at *
      subst hA
      have HX := Lib.hid hx
      clear hr he hcl hx hbo
      go_wp2
      go_loopw [4] (fun j wr2 => ∃ k : Nat, j = .int .i64 k ∧ k ≤ i ∧ Hid (NDk l x.val k) ∧ Hid (Below w.heap.size w wr2)) (fun j _ => i - (intOf j).toNat)
      case atStart => exact ⟨0, rfl, Nat.zero_le _, Lib.hid (fun k b h => absurd h (Nat.not_lt_zero k)), HB⟩
      case round =>
        rename_i wr0
        obtain ⟨k, rfl, hk, HE, HB2⟩ := hrel
        by_cases hlk : k < i
        · obtain ⟨b', off', cx, hA, hbo, hcl, hr, he⟩ := (HV.out _ HB2.out).at_ hlt
          simp only [Option.some.injEq, Addr.mk.injEq, and_true] at hA
          obtain ⟨rfl, rfl⟩ := hA
          obtain ⟨b', off', cy, hA, _, hcl2, hr2, he2⟩ := (HV.out _ HB2.out).at_ (Nat.lt_trans hlk hlt)
          simp only [Option.some.injEq, Addr.mk.injEq, and_true] at hA
          obtain ⟨rfl, rfl⟩ := hA
          have hxx : l[i]'hlt = x := by have := HX.out; rw [List.getElem?_eq_getElem hlt] at this; simpa using this
          have hy := List.getElem?_eq_getElem (Nat.lt_trans hlk hlt)
          rw [hxx] at he
          generalize l[k]'(Nat.lt_trans hlk hlt) = y at *
          have hcx : cx = rowCells x := he
          have hcy : cy = rowCells y := he2
          subst hcx; subst hcy
          have c0 : wr.cell? ⟨b, off + i * 2, none⟩ = some (.int .i64 x.val) := hr 0 _ rfl
          have c1 : wr.cell? ⟨b, off + k * 2, none⟩ = some (.int .i64 y.val) := hr2 0 _ rfl
          have HY := Lib.hid hy
          clear hr he hcl hr2 he2 hcl2 hy hxx hbo
          by_cases hne : x.val = y.val
          · have hq : (x.val == y.val) = true := by simpa using hne
            clear hne
            go_wp2
            go_quiet (fail)
            go_wp2
            go_ret
            exact ⟨true, rfl, fun h => absurd h (by simp), below_drewN HB2.out _⟩
          · have hq : (x.val == y.val) = false := by simpa using hne
            have HNE := Lib.hid hne
            clear hne
            go_wp2
            go_quiet (fail)
            go_wp2
            go_roundw
            case rel => exact ⟨k + 1, by go_num, by omega, Lib.hid (HE.out.next HY.out HNE.out), Lib.hid (below_drewN HB2.out _)⟩
            case measure => simp [intOf]; omega
        · obtain rfl : k = i := by omega
          go_wp2
          go_roundw
          case rel => exact ⟨k + 1, by go_num, by omega, Lib.hid (HD.out.next HX.out HE.out), HB2⟩
          case measure => simp [intOf]; omega
    · obtain rfl : i = l.length := by omega
      go_wp2
      go_ret
      exact ⟨false, rfl, fun _ => HD.out.all, HB.out⟩
abbrev ClB (w : World) (f : FuncId) (args : Array Value) (v : Value) : Prop := ∀ w1, Below w.heap.size w w1 → Cl1 f args v w1
set_option maxRecDepth 100000 in
set_option maxHeartbeats 4000000 in
theorem named_long (L : Value) (n cap : Nat) (A : Option Addr) (t : ByteArray) (cs : Array Value) (w : World) (C1 : Hid (Cl 15 #[] (.bool true))) (hl : 1000 < n) (hn : n ≤ 9223372036854775807) :
    Cl1 6 #[.slice A n cap, .agg cs, .string t] (.bool true) w := by
  go_enter Try.func6, Try.ntmps6
  go_wp2_with (go_at_call 15; refine (C1.out _).mono ?_; rintro e w1 ⟨rfl, hb1⟩; have hB1 : Below w.heap.size w w1 := Below.trans (by repeat' (first | (with_reducible assumption) | (with_reducible refine Below.setCell ?_ ?_ _) | (with_reducible refine Below.alloc ?_ ?_ _) | (with_reducible refine Below.drew ?_) | (with_reducible refine below_drewN ?_ _) | (with_reducible exact Below.refl _ _) | (show _ ≤ _; (try simp); (try omega); done) | exact Below.refl _ _ | assumption)) (hb1.mono (by (try simp); (try omega))); clear hb1)
  go_ret
  exact ⟨rfl, hB1⟩

set_option maxRecDepth 100000 in
set_option maxHeartbeats 4000000 in
theorem named_no (L : Value) (n cap : Nat) (A : Option Addr) (t : ByteArray) (cs : Array Value) (w : World) (HI : Hid ((Try.prog.info? 30).map (·.size) = some cs.size)) (C1 : Hid (Cl 15 #[] (.bool true))) (hl : n ≤ 1000)
    (CV : Hid (ClB w 12 #[.slice A n cap, .agg cs, .string t] (.tuple #[.int .u64 0, .bool false]))) :
    Cl1 6 #[.slice A n cap, .agg cs, .string t] (.bool true) w := by
  go_enter Try.func6, Try.ntmps6
  go_wp2_with (first
    | (refine wpList_load_has rfl 30 _ rfl w.heap.size rfl (by exact HS1.out) Try.underlying30 rfl HI.out ?_)

    | (go_at_call 15; refine (C1.out _).mono ?_; rintro e w1 ⟨rfl, hb1⟩; have hz1 := hb1.size; (try simp at hz1); have HS1 := Lib.hid (show Has w1 w.heap.size 30 cs from Has.below (by exact Has.new w _ cs) hb1 (by (try simp); (try omega))); have HB1 : Hid (Below w.heap.size w w1) := Lib.hid (Below.trans (by repeat' (first | (with_reducible assumption) | (with_reducible refine Below.setCell ?_ ?_ _) | (with_reducible refine Below.alloc ?_ ?_ _) | (with_reducible refine Below.drew ?_) | (with_reducible refine below_drewN ?_ _) | (with_reducible exact Below.refl _ _) | (show _ ≤ _; (try simp); (try omega); done) | exact Below.refl _ _ | assumption)) (hb1.mono (by (try simp); (try omega)))); clear hb1)
    | (go_at_call 12; refine (CV.out _ HB1.out).mono ?_; rintro e w2 ⟨rfl, hb2⟩; have HB2 := Lib.hid (HB1.out.trans (hb2.mono (by omega))); clear hb2))
  go_ret
  exact ⟨rfl, HB2.out⟩
set_option maxRecDepth 100000 in
set_option maxHeartbeats 4000000 in
theorem named_ok {u key : Int} {g : ByteArray} {y : RowD} (L : Value) (l : List RowD) (t : ByteArray) (cs : Array Value) (w : World) (HI : Hid ((Try.prog.info? 30).map (·.size) = some cs.size)) (C1 : Hid (Cl 15 #[] (.bool true))) (hl : l.length ≤ 1000) (hs : SlK 2 rowE w (Old w.heap.size) L l)
    (CV : Hid (ClB w 12 #[L, .agg cs, .string t] (.tuple #[.int .u64 u, .bool true]))) (CT : Hid (ClB w 11 #[L, .agg cs, .int .u64 u] (.tuple #[.string g, .bool true])))
    (HG : Hid (ND l → g = t)) (HF : Hid (l.find? (fun r => r.val == key) = some y)) (HY : Hid (y.text = g)) (wk : IntKind.i64.wrap u = key) :
    Cl1 6 #[L, .agg cs, .string t] (.bool true) w := by
  obtain ⟨A, cap, rfl, n1, n2⟩ := hs.form
  have n3 : cap ≤ 9223372036854775807 := by unfold maxLen at n2; omega
  have HV := Lib.hid (fun (w1 : World) (hb : Below w.heap.size w w1) => hs.below rowE_mono hb)
  have HL := Lib.hid (fun (w1 : World) (hb : Below w.heap.size w w1) => hs.later rowE_mono hb)
  clear hs n2
  go_enter Try.func6, Try.ntmps6
  go_wp2_with (first
    | (refine wpList_load_has rfl 30 _ rfl w.heap.size rfl (by exact HS1.out) Try.underlying30 rfl HI.out ?_)
    | (refine wpList_load_has rfl 30 _ rfl w.heap.size rfl (by exact HS2.out) Try.underlying30 rfl HI.out ?_)
    | (go_at_call 15; refine (C1.out _).mono ?_; rintro e w1 ⟨rfl, hb1⟩; have hz1 := hb1.size; (try simp at hz1); have HS1 := Lib.hid (show Has w1 w.heap.size 30 cs from Has.below (by exact Has.new w _ cs) hb1 (by (try simp); (try omega))); have HB1 : Hid (Below w.heap.size w w1) := Lib.hid (Below.trans (by repeat' (first | (with_reducible assumption) | (with_reducible refine Below.setCell ?_ ?_ _) | (with_reducible refine Below.alloc ?_ ?_ _) | (with_reducible refine Below.drew ?_) | (with_reducible refine below_drewN ?_ _) | (with_reducible exact Below.refl _ _) | (show _ ≤ _; (try simp); (try omega); done) | exact Below.refl _ _ | assumption)) (hb1.mono (by (try simp); (try omega)))); clear hb1)
    | (go_at_call 12; refine (CV.out _ HB1.out).mono ?_; rintro e w2 ⟨rfl, hb2⟩; have hz2 := hb2.size; have HS2 := Lib.hid (HS1.out.below hb2 (by omega)); have HB2 := Lib.hid (HB1.out.trans (hb2.mono (by omega))); clear hb2)
    | (go_at_call 11; refine (CT.out _ HB2.out).mono ?_; rintro e w3 ⟨rfl, hb3⟩; have hz3 := hb3.size; have HB3 := Lib.hid (HB2.out.trans (hb3.mono (by omega))); clear hb3)
    | (go_at_call 21; refine (twice_any _ l _ (HL.out _ HB3.out)).mono ?_; rintro e w4 ⟨b, rfl, hnd, hb4⟩; have HB4 := Lib.hid (HB3.out.trans (hb4.mono (by omega))); clear hb4; cases b; all_goals (first | (have hq : (g.toList == t.toList) = true := (Lib.bytes_beq_iff _ _).2 (HG.out (hnd rfl)); clear hnd) | clear hnd)))
  all_goals
    go_loopw [11] (fun i wr => ∃ k : Nat, i = .int .i64 k ∧ k ≤ l.length ∧ Hid ((l.drop k).find? (fun r => r.val == key) = l.find? (fun r => r.val == key)) ∧ Hid (Below w.heap.size w wr)) (fun i _ => l.length - (intOf i).toNat)
    case atStart => exact ⟨0, rfl, Nat.zero_le _, Lib.hid rfl, HB4⟩
    case round =>
      obtain ⟨k, rfl, hk, HD, HB⟩ := hrel
      by_cases hlt : k < l.length
      · obtain ⟨b, off, cs', hA, hbo, hcl, hr, he⟩ := (HV.out _ HB.out).at_ hlt
        obtain ⟨hd1, hd2⟩ := drop_find hlt HD.out
        subst hA
        generalize l[k] = x at *
        have hcx : cs' = rowCells x := he
        subst hcx
        have c0 : wr.cell? ⟨b, off + k * 2, none⟩ = some (.int .i64 x.val) := hr 0 _ rfl
        have c1 : wr.cell? ⟨b, off + k * 2 + 1, none⟩ = some (.string x.text) := hr 1 _ rfl
        have HD1 := Lib.hid hd1
        have HD2 := Lib.hid hd2
        clear hr he hcl hbo hd1 hd2 HD
        by_cases hv : x.val = key
        · have hxy : x = y := by
            have h1 := HD1.out (by simpa using hv)
            rw [HF.out] at h1
            simpa using h1.symm
          have ht : (g.toList == x.text.toList) = true := (Lib.bytes_beq_iff _ _).2 (by rw [hxy, HY.out])
          have hve : (x.val == key) = true := by simpa using hv
          clear hxy hv
          go_wp2
          go_ret
          exact ⟨rfl, HB.out⟩
        · have hve : (x.val == key) = false := by simpa using hv
          have HVE := Lib.hid hve
          clear hv
          go_wp2
          go_roundw
          case rel => exact ⟨k + 1, by go_num, by omega, Lib.hid (HD2.out HVE.out), HB⟩
          case measure => simp [intOf]; omega
      · obtain rfl : k = l.length := by omega
        have hn := HD.out
        rw [List.drop_length, HF.out] at hn
        exact absurd hn (by simp)
theorem valO_some {l : List RowD} {s : Sig} {t : ByteArray} {u : Int} (h : valO l s t = some u) : ∃ x ∈ l, x.text = t ∧ hasB s x.val = true ∧ u = x.val % 18446744073709551616 := by
  unfold valO at h
  obtain ⟨x, hx, rfl⟩ := Option.map_eq_some_iff.1 h
  have h1 := List.find?_some hx
  simp only [Bool.and_eq_true, decide_eq_true_eq] at h1
  exact ⟨x, List.mem_of_find?_eq_some hx, h1.1, h1.2, rfl⟩
theorem big_no {s : Sig} {n : Int} (h1 : -9223372036854775808 ≤ n) (h2 : n ≤ 9223372036854775807) (h : hasB s n = true) : bigB s (n % 18446744073709551616) = false := by
  unfold hasB at h
  rw [Bool.and_eq_true] at h
  unfold bigB
  rw [h.2]
  cases hg : s.sgn
  · have : 0 ≤ n := by have := h.1; rw [hg] at this; simpa using this
    simp only [Bool.not_true, Bool.not_false, Bool.true_and, Bool.false_or]
    exact decide_eq_false (by omega)
  · rfl
theorem nd_first {l : List RowD} (h : ND l) {x y : RowD} {key : Int} (hx : x ∈ l) (hxv : x.val = key) (hf : l.find? (fun r => r.val == key) = some y) : y = x := by
  obtain ⟨i, hi⟩ := List.getElem?_of_mem hx
  obtain ⟨k, hk⟩ := List.getElem?_of_mem (List.mem_of_find?_eq_some hf)
  have hyv : y.val = key := by simpa using List.find?_some hf
  rcases (by omega : i < k ∨ k < i ∨ i = k) with h1 | h1 | rfl
  · exact absurd (hyv.trans hxv.symm) (h k i y x h1 hk hi)
  · exact absurd (hxv.trans hyv.symm) (h i k x y h1 hi hk)
  · rw [hi] at hk; cases hk; rfl
theorem named_val (L : Value) (l : List RowD) (s : Sig) (A : Option Addr) (m c : Nat) (t : ByteArray) (w : World) (ok : RatsOk s) (hs : SlK 2 rowE w (Old w.heap.size) L l) (hok : ∀ r ∈ l, RowOk r) :
    Cl1 6 #[L, sigV s (.slice A m c), .string t] (.bool true) w := by
  have C1 : Hid (Cl 15 #[] (.bool true)) := hidf fun w => works_val w
  have HI := cs_info s (.slice A m c)
  have CV : Hid (ClB w 12 #[L, .agg (csOf s (.slice A m c)), .string t] (valV l s t)) := hidf fun w1 hb => val_val l L s A m c t w1 (hs.later rowE_mono hb) hok
  rw [sigV_cs]
  by_cases hl : l.length ≤ 1000
  case neg =>
    obtain ⟨A0, c0, rfl, n1, n2⟩ := hs.form
    exact named_long (.slice none 0 0) _ _ _ t _ w C1 (by omega) (by unfold maxLen at n2; omega)
  case pos =>
  unfold valV at CV
  cases hv : valO l s t with
  | none =>
    rw [hv] at CV
    obtain ⟨A0, c0, rfl, n1, n2⟩ := hs.form
    exact named_no (.slice none 0 0) _ _ _ t _ w HI C1 hl CV
  | some u =>
    rw [hv] at CV
    obtain ⟨x, hx, hxt, hxh, hu⟩ := valO_some hv
    have hxv := (hok x hx).val
    have hwu : wrap64 u = x.val := by rw [hu]; exact wrap_back2 hxv.1 (by have := hxv.2; omega)
    have CT : Hid (ClB w 11 #[L, .agg (csOf s (.slice A m c)), .int .u64 u] (textV l s u)) := hidf fun w1 hb => text_val l L s A m c u w1 (by rw [hu]; omega) (by rw [hu]; omega) (hs.later rowE_mono hb) hok
    unfold textV textO at CT
    rw [hwu, hu, big_no hxv.1 hxv.2 hxh, if_neg (by simp)] at CT
    obtain ⟨y, hy⟩ : ∃ y, l.find? (fun r => r.val == x.val) = some y := by
      cases h : l.find? (fun r => r.val == x.val) with
      | some y => exact ⟨y, rfl⟩
      | none => exact absurd (List.find?_eq_none.1 h x hx) (by simp)
    have hfv : findV l x.val = some y.text := by unfold findV; rw [hy]; rfl
    rw [hfv] at CT
    rw [← hu] at CT
    exact named_ok (g := y.text) (y := y) (key := x.val) L l t _ w HI C1 hl hs CV CT (hidf fun h => by rw [nd_first h hx rfl hy, hxt]) (hidf hy) (hidf rfl) (by rw [← hwu]; unfold wrap64; rw [IntKind.wrap_i64]; rfl)
end physW
end Go.Proofs.Ytkfmbhmfegkedaa
