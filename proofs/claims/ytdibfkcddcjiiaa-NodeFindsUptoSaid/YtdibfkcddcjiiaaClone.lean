/- slices.Clone at texts, signals and rows: new memory of the same cells; nil stays nil. Condition: no more than 2^47 bytes. -/
import Derived.Test.YtdibfkcddcjiiaaDbOpen
import Derived.WalkSpells
import Derived.Maps.AppendAt
import Derived.Outline
namespace Go.Proofs.Ytdibfkcddcjiiaa
open Go.RowKit Go.Bus Go.Bus.cellK Go.Bus.dbK
set_option linter.unusedVariables false
theorem Try.infoEStr : (Try.prog.info? 9).map (fun i => (i.zero, i.size, i.bytes)) = some (some (.string ByteArray.empty), 1, 16) := by kernel_rfl
namespace cloneStr
set_option maxRecDepth 100000 in
set_option maxHeartbeats 1000000 in
theorem clone_raw (v : Value) (n : Nat) (xs : List Value) (F : Foot) (w : World) (h : Src 1 w F v n xs) (h1 : ∀ u ∈ xs, u.oneCell' = true) (hby : n * 16 ≤ 140737488355328) :
    Calls Try.prog 52 #[v] w fun e w' => ∃ v', e = .returned v' ∧ w'.ownsRow w.heap.size 9 1 v' n xs ∧ Below w.heap.size w w' := by
  obtain ⟨i0, hi, hz0, hz1, hz2⟩ := info_parts Try.infoEStr
  obtain ⟨A, cap, rfl, hn, hc, hl, hr⟩ := h
  unfold maxLen at hc
  have hnil := fun w => Lib.run_eql_slice_nil (P := Try.prog) w 26 9 A n cap 0 0 Try.underlying26
  cases A with
  | none =>
    obtain rfl : n = 0 := by
      rcases Nat.eq_zero_or_pos n with h0 | h0
      · exact h0
      · obtain ⟨b, off, hb, _⟩ := hr h0
        cases hb
    obtain rfl : xs = [] := List.eq_nil_of_length_eq_zero (by omega)
    go_enter Try.func52, Try.ntmps52
    go_wp2
    go_ret
    exact ⟨_, rfl, World.ownsRow_nil _ _ _ _, Below.refl _ _⟩
  | some a =>
    have hcell : ∀ j u, xs[j]? = some u → (w.alloc (.cells #[] 9)).cell? (a.add j) = some u := by
      intro j u hj
      have hn0 : 0 < n := by
        rcases Nat.eq_zero_or_pos n with h0 | h0
        · subst h0
          have := (List.getElem?_eq_some_iff.1 hj).1
          omega
        · exact h0
      obtain ⟨b, off, hb, _, hrange⟩ := hr hn0
      obtain rfl := Option.some.inj hb
      rw [Addr.add_mid]
      have h2 := hrange j u hj
      rw [World.cell?_alloc_lt _ _ _ (World.block_lt_of_cell? w _ h2)]
      exact h2
    have HC := Lib.hid hcell
    have HL := Lib.hid hl
    have H1 := Lib.hid h1
    clear hcell hl h1 hr
    go_enter Try.func52, Try.ntmps52
    go_wp2_with (at_builtin; refine wpList_append_own _ rfl _ _ 26 rfl w.heap.size 9 i0 (.string ByteArray.empty) 1 16 Try.underlying26 hi hz0 hz1 hz2 rfl (by decide) (.slice (some ⟨w.heap.size, 0, none⟩) 0 0) 0 [] rfl ?c1 a n cap xs rfl ?c2 ?c3 ?c4 ?c5 ?c6 ?c7 ?_)
    case c1 => exact World.ownsRow_made w #[] 0 (Nat.le_refl _) (Nat.zero_le _) rfl
    case c2 => exact HL.out
    case c3 => exact HC.out
    case c4 => exact H1.out
    case c5 => unfold maxLen; omega
    case c6 => omega
    case c7 => simp
    intro v' w1 hown hg _
    have hb : Below w.heap.size w w1 := ((Below.refl _ _).alloc (Nat.le_refl _) _).grown hg (by simp) (fun r hr => by simp [Value.ownBlock] at hr; omega)
    (try simp only [Nat.zero_add, List.nil_append] at hown)
    have HO := Lib.hid hown
    have HB := Lib.hid hb
    clear hown hb hg
    go_wp2
    go_ret
    exact ⟨_, rfl, HO.out, HB.out⟩
end cloneStr
theorem Try.infoESig : (Try.prog.info? 119).map (fun i => (i.zero, i.size, i.bytes)) = some (some (.agg #[.int .i64 0, .int .i64 0, .string ByteArray.empty, .int .i64 0, .int .u64 0, .int .i64 0, .int .i64 0, .bool false, .bool false, .int .i64 0, .int .i64 0, .int .i64 0, .int .i64 0, .int .i64 0, .int .i64 0, .int .i64 0, .int .i64 0, .string ByteArray.empty, .slice none 0 0]), 19, 176) := by kernel_rfl
namespace cloneSig
set_option maxRecDepth 100000 in
set_option maxHeartbeats 1000000 in
theorem clone_raw (v : Value) (n : Nat) (xs : List Value) (F : Foot) (w : World) (h : Src 19 w F v n xs) (h1 : ∀ u ∈ xs, u.oneCell' = true) (hby : n * 176 ≤ 140737488355328) :
    Calls Try.prog 53 #[v] w fun e w' => ∃ v', e = .returned v' ∧ w'.ownsRow w.heap.size 119 19 v' n xs ∧ Below w.heap.size w w' := by
  obtain ⟨i0, hi, hz0, hz1, hz2⟩ := info_parts Try.infoESig
  obtain ⟨A, cap, rfl, hn, hc, hl, hr⟩ := h
  unfold maxLen at hc
  have hnil := fun w => Lib.run_eql_slice_nil (P := Try.prog) w 60 119 A n cap 0 0 Try.underlying60
  cases A with
  | none =>
    obtain rfl : n = 0 := by
      rcases Nat.eq_zero_or_pos n with h0 | h0
      · exact h0
      · obtain ⟨b, off, hb, _⟩ := hr h0
        cases hb
    obtain rfl : xs = [] := List.eq_nil_of_length_eq_zero (by omega)
    go_enter Try.func53, Try.ntmps53
    go_wp2
    go_ret
    exact ⟨_, rfl, World.ownsRow_nil _ _ _ _, Below.refl _ _⟩
  | some a =>
    have hcell : ∀ j u, xs[j]? = some u → (w.alloc (.cells #[] 119)).cell? (a.add j) = some u := by
      intro j u hj
      have hn0 : 0 < n := by
        rcases Nat.eq_zero_or_pos n with h0 | h0
        · subst h0
          have := (List.getElem?_eq_some_iff.1 hj).1
          omega
        · exact h0
      obtain ⟨b, off, hb, _, hrange⟩ := hr hn0
      obtain rfl := Option.some.inj hb
      rw [Addr.add_mid]
      have h2 := hrange j u hj
      rw [World.cell?_alloc_lt _ _ _ (World.block_lt_of_cell? w _ h2)]
      exact h2
    have HC := Lib.hid hcell
    have HL := Lib.hid hl
    have H1 := Lib.hid h1
    clear hcell hl h1 hr
    go_enter Try.func53, Try.ntmps53
    go_wp2_with (at_builtin; refine wpList_append_own _ rfl _ _ 60 rfl w.heap.size 119 i0 (.agg #[.int .i64 0, .int .i64 0, .string ByteArray.empty, .int .i64 0, .int .u64 0, .int .i64 0, .int .i64 0, .bool false, .bool false, .int .i64 0, .int .i64 0, .int .i64 0, .int .i64 0, .int .i64 0, .int .i64 0, .int .i64 0, .int .i64 0, .string ByteArray.empty, .slice none 0 0]) 19 176 Try.underlying60 hi hz0 hz1 hz2 rfl (by decide) (.slice (some ⟨w.heap.size, 0, none⟩) 0 0) 0 [] rfl ?c1 a n cap xs rfl ?c2 ?c3 ?c4 ?c5 ?c6 ?c7 ?_)
    case c1 => exact World.ownsRow_made w #[] 0 (Nat.le_refl _) (Nat.zero_le _) rfl
    case c2 => exact HL.out
    case c3 => exact HC.out
    case c4 => exact H1.out
    case c5 => unfold maxLen; omega
    case c6 => omega
    case c7 => simp
    intro v' w1 hown hg _
    have hb : Below w.heap.size w w1 := ((Below.refl _ _).alloc (Nat.le_refl _) _).grown hg (by simp) (fun r hr => by simp [Value.ownBlock] at hr; omega)
    (try simp only [Nat.zero_add, List.nil_append] at hown)
    have HO := Lib.hid hown
    have HB := Lib.hid hb
    clear hown hb hg
    go_wp2
    go_ret
    exact ⟨_, rfl, HO.out, HB.out⟩
end cloneSig
theorem Try.infoERow : (Try.prog.info? 122).map (fun i => (i.zero, i.size, i.bytes)) = some (some (.agg #[.int .i64 0, .string ByteArray.empty]), 2, 24) := by kernel_rfl
namespace cloneRow
set_option maxRecDepth 100000 in
set_option maxHeartbeats 1000000 in
theorem clone_raw (v : Value) (n : Nat) (xs : List Value) (F : Foot) (w : World) (h : Src 2 w F v n xs) (h1 : ∀ u ∈ xs, u.oneCell' = true) (hby : n * 24 ≤ 140737488355328) :
    Calls Try.prog 54 #[v] w fun e w' => ∃ v', e = .returned v' ∧ w'.ownsRow w.heap.size 122 2 v' n xs ∧ Below w.heap.size w w' := by
  obtain ⟨i0, hi, hz0, hz1, hz2⟩ := info_parts Try.infoERow
  obtain ⟨A, cap, rfl, hn, hc, hl, hr⟩ := h
  unfold maxLen at hc
  have hnil := fun w => Lib.run_eql_slice_nil (P := Try.prog) w 77 122 A n cap 0 0 Try.underlying77
  cases A with
  | none =>
    obtain rfl : n = 0 := by
      rcases Nat.eq_zero_or_pos n with h0 | h0
      · exact h0
      · obtain ⟨b, off, hb, _⟩ := hr h0
        cases hb
    obtain rfl : xs = [] := List.eq_nil_of_length_eq_zero (by omega)
    go_enter Try.func54, Try.ntmps54
    go_wp2
    go_ret
    exact ⟨_, rfl, World.ownsRow_nil _ _ _ _, Below.refl _ _⟩
  | some a =>
    have hcell : ∀ j u, xs[j]? = some u → (w.alloc (.cells #[] 122)).cell? (a.add j) = some u := by
      intro j u hj
      have hn0 : 0 < n := by
        rcases Nat.eq_zero_or_pos n with h0 | h0
        · subst h0
          have := (List.getElem?_eq_some_iff.1 hj).1
          omega
        · exact h0
      obtain ⟨b, off, hb, _, hrange⟩ := hr hn0
      obtain rfl := Option.some.inj hb
      rw [Addr.add_mid]
      have h2 := hrange j u hj
      rw [World.cell?_alloc_lt _ _ _ (World.block_lt_of_cell? w _ h2)]
      exact h2
    have HC := Lib.hid hcell
    have HL := Lib.hid hl
    have H1 := Lib.hid h1
    clear hcell hl h1 hr
    go_enter Try.func54, Try.ntmps54
    go_wp2_with (at_builtin; refine wpList_append_own _ rfl _ _ 77 rfl w.heap.size 122 i0 (.agg #[.int .i64 0, .string ByteArray.empty]) 2 24 Try.underlying77 hi hz0 hz1 hz2 rfl (by decide) (.slice (some ⟨w.heap.size, 0, none⟩) 0 0) 0 [] rfl ?c1 a n cap xs rfl ?c2 ?c3 ?c4 ?c5 ?c6 ?c7 ?_)
    case c1 => exact World.ownsRow_made w #[] 0 (Nat.le_refl _) (Nat.zero_le _) rfl
    case c2 => exact HL.out
    case c3 => exact HC.out
    case c4 => exact H1.out
    case c5 => unfold maxLen; omega
    case c6 => omega
    case c7 => simp
    intro v' w1 hown hg _
    have hb : Below w.heap.size w w1 := ((Below.refl _ _).alloc (Nat.le_refl _) _).grown hg (by simp) (fun r hr => by simp [Value.ownBlock] at hr; omega)
    (try simp only [Nat.zero_add, List.nil_append] at hown)
    have HO := Lib.hid hown
    have HB := Lib.hid hb
    clear hown hb hg
    go_wp2
    go_ret
    exact ⟨_, rfl, HO.out, HB.out⟩
end cloneRow
/-- A row made anew of one-block elements (no lists in them). -/
theorem ow_flat {α : Type} {k : Nat} {R : Rel α} {w w' : World} {base : Nat} {e : TypeId} {v : Value} {l : List α} {xs : List Value} (ho : w'.ownsRow base e k v l.length xs) (hR : ∀ (cs : List Value) (x : α) (G : Foot), R w G cs x → R w' (fun _ => False) cs x) {G : Foot} (hx : ∀ i x, l[i]? = some x → R w G (eltOf k xs i) x) :
    OwD k R w' (Iv base w'.heap.size) base e v l :=
  ⟨xs, ho, fun g hg => ho.lt g hg, fun _ _ => False, fun i x hi => hR _ _ G (hx i x hi), fun i hi b hb => hb.elim, fun i j _ _ _ b hb => hb.elim⟩
theorem clone_str (v : Value) (l : List ByteArray) (F : Foot) (w : World) (h : SlK 1 strE w F v l) (hby : l.length * 16 ≤ 140737488351232) :
    Calls Try.prog 52 #[v] w fun e w' => ∃ v', e = .returned v' ∧ OwD 1 strE w' (Iv w.heap.size w'.heap.size) w.heap.size 9 v' l ∧ Below w.heap.size w w' := by
  obtain ⟨xs, hs, hx⟩ := h
  refine (cloneStr.clone_raw v _ xs F w hs (one_all hs strE_one hx) (by omega)).mono ?_
  rintro e w' ⟨v', rfl, ho, hb⟩
  exact ⟨v', rfl, ow_flat ho (fun _ _ _ h => h) hx, hb⟩
theorem clone_row (v : Value) (l : List RowD) (F : Foot) (w : World) (h : SlK 2 rowE w F v l) (hby : l.length * 24 ≤ 140737488351232) :
    Calls Try.prog 54 #[v] w fun e w' => ∃ v', e = .returned v' ∧ OwD 2 rowE w' (Iv w.heap.size w'.heap.size) w.heap.size 122 v' l ∧ Below w.heap.size w w' := by
  obtain ⟨xs, hs, hx⟩ := h
  refine (cloneRow.clone_raw v _ xs F w hs (one_all hs rowE_one hx) (by omega)).mono ?_
  rintro e w' ⟨v', rfl, ho, hb⟩
  exact ⟨v', rfl, ow_flat ho (fun _ _ _ h => h) hx, hb⟩
end Go.Proofs.Ytdibfkcddcjiiaa
