/- slices.Clone at bytes and rules: new memory of the same cells; nil stays nil. Condition: no more than 2^47 bytes. -/
import Derived.Test.YtomkgnlooheibaaCells
import Derived.Test.YtomkgnlooheibaaProg
import Derived.Laws.MakeOwn
import Derived.Deep.QuietTactic
import Derived.BigQuiet
import Derived.Deep.RegionWith
import Derived.WalkSpells
import Derived.Maps.AppendAt
import Derived.Outline
namespace Go.Proofs.Ytomkgnlooheibaa
open Go.RowKit Go.Bus Go.Bus.cellK
set_option linter.unusedVariables false
theorem Try.infoEU8 : (Try.prog.info? 5).map (fun i => (i.zero, i.size, i.bytes)) = some (some (.int .u8 0), 1, 1) := by kernel_rfl
namespace cloneU8
set_option maxRecDepth 100000 in
set_option maxHeartbeats 1000000 in
theorem clone_raw (v : Value) (n : Nat) (xs : List Value) (F : Foot) (w : World) (h : Src 1 w F v n xs) (h1 : ∀ u ∈ xs, u.oneCell' = true) (hby : n * 1 ≤ 140737488355328) :
    Calls Try.prog 43 #[v] w fun e w' => ∃ v', e = .returned v' ∧ w'.ownsRow w.heap.size 5 1 v' n xs ∧ Below w.heap.size w w' := by
  obtain ⟨i0, hi, hz0, hz1, hz2⟩ := info_parts Try.infoEU8
  obtain ⟨A, cap, rfl, hn, hc, hl, hr⟩ := h
  unfold maxLen at hc
  have hnil := fun w => Lib.run_eql_slice_nil (P := Try.prog) w 33 5 A n cap 0 0 Try.underlying33
  cases A with
  | none =>
    obtain rfl : n = 0 := by
      rcases Nat.eq_zero_or_pos n with h0 | h0
      · exact h0
      · obtain ⟨b, off, hb, _⟩ := hr h0
        cases hb
    obtain rfl : xs = [] := List.eq_nil_of_length_eq_zero (by omega)
    go_enter Try.func43, Try.ntmps43
    go_wp2
    go_ret
    exact ⟨_, rfl, World.ownsRow_nil _ _ _ _, Below.refl _ _⟩
  | some a =>
    have hcell : ∀ j u, xs[j]? = some u → (w.alloc (.cells #[] 5)).cell? (a.add j) = some u := by
      intro j u hj
      have hn0 : 0 < n := by
        rcases Nat.eq_zero_or_pos n with h0 | h0
        · subst h0
          have := (List.getElem?_eq_some_iff.1 hj).1
          omega
        · exact h0
      obtain ⟨b, off, hb, _, hrange⟩ := hr hn0
      obtain rfl := Option.some.inj hb
      rw [Addr.add_mid]
      have h2 := hrange j u hj
      rw [World.cell?_alloc_lt _ _ _ (World.block_lt_of_cell? w _ h2)]
      exact h2
    have HC := Lib.hid hcell
    have HL := Lib.hid hl
    have H1 := Lib.hid h1
    clear hcell hl h1 hr
    go_enter Try.func43, Try.ntmps43
    go_wp2_with (at_builtin; refine wpList_append_own _ rfl _ _ 33 rfl w.heap.size 5 i0 (.int .u8 0) 1 1 Try.underlying33 hi hz0 hz1 hz2 rfl (by decide) (.slice (some ⟨w.heap.size, 0, none⟩) 0 0) 0 [] rfl ?c1 a n cap xs rfl ?c2 ?c3 ?c4 ?c5 ?c6 ?c7 ?_)
    case c1 => exact World.ownsRow_made w #[] 0 (Nat.le_refl _) (Nat.zero_le _) rfl
    case c2 => exact HL.out
    case c3 => exact HC.out
    case c4 => exact H1.out
    case c5 => unfold maxLen; omega
    case c6 => omega
    case c7 => simp
    intro v' w1 hown hg _
    have hb : Below w.heap.size w w1 := ((Below.refl _ _).alloc (Nat.le_refl _) _).grown hg (by simp) (fun r hr => by simp [Value.ownBlock] at hr; omega)
    (try simp only [Nat.zero_add, List.nil_append] at hown)
    have HO := Lib.hid hown
    have HB := Lib.hid hb
    clear hown hb hg
    go_wp2
    go_ret
    exact ⟨_, rfl, HO.out, HB.out⟩
end cloneU8
theorem Try.infoERule : (Try.prog.info? 69).map (fun i => (i.zero, i.size, i.bytes)) = some (some (.agg #[.bool false, .int .u32 0, .int .u32 0]), 3, 12) := by kernel_rfl
namespace cloneRule
set_option maxRecDepth 100000 in
set_option maxHeartbeats 1000000 in
theorem clone_raw (v : Value) (n : Nat) (xs : List Value) (F : Foot) (w : World) (h : Src 3 w F v n xs) (h1 : ∀ u ∈ xs, u.oneCell' = true) (hby : n * 12 ≤ 140737488355328) :
    Calls Try.prog 25 #[v] w fun e w' => ∃ v', e = .returned v' ∧ w'.ownsRow w.heap.size 69 3 v' n xs ∧ Below w.heap.size w w' := by
  obtain ⟨i0, hi, hz0, hz1, hz2⟩ := info_parts Try.infoERule
  obtain ⟨A, cap, rfl, hn, hc, hl, hr⟩ := h
  unfold maxLen at hc
  have hnil := fun w => Lib.run_eql_slice_nil (P := Try.prog) w 57 69 A n cap 0 0 Try.underlying57
  cases A with
  | none =>
    obtain rfl : n = 0 := by
      rcases Nat.eq_zero_or_pos n with h0 | h0
      · exact h0
      · obtain ⟨b, off, hb, _⟩ := hr h0
        cases hb
    obtain rfl : xs = [] := List.eq_nil_of_length_eq_zero (by omega)
    go_enter Try.func25, Try.ntmps25
    go_wp2
    go_ret
    exact ⟨_, rfl, World.ownsRow_nil _ _ _ _, Below.refl _ _⟩
  | some a =>
    have hcell : ∀ j u, xs[j]? = some u → (w.alloc (.cells #[] 69)).cell? (a.add j) = some u := by
      intro j u hj
      have hn0 : 0 < n := by
        rcases Nat.eq_zero_or_pos n with h0 | h0
        · subst h0
          have := (List.getElem?_eq_some_iff.1 hj).1
          omega
        · exact h0
      obtain ⟨b, off, hb, _, hrange⟩ := hr hn0
      obtain rfl := Option.some.inj hb
      rw [Addr.add_mid]
      have h2 := hrange j u hj
      rw [World.cell?_alloc_lt _ _ _ (World.block_lt_of_cell? w _ h2)]
      exact h2
    have HC := Lib.hid hcell
    have HL := Lib.hid hl
    have H1 := Lib.hid h1
    clear hcell hl h1 hr
    go_enter Try.func25, Try.ntmps25
    go_wp2_with (at_builtin; refine wpList_append_own _ rfl _ _ 57 rfl w.heap.size 69 i0 (.agg #[.bool false, .int .u32 0, .int .u32 0]) 3 12 Try.underlying57 hi hz0 hz1 hz2 rfl (by decide) (.slice (some ⟨w.heap.size, 0, none⟩) 0 0) 0 [] rfl ?c1 a n cap xs rfl ?c2 ?c3 ?c4 ?c5 ?c6 ?c7 ?_)
    case c1 => exact World.ownsRow_made w #[] 0 (Nat.le_refl _) (Nat.zero_le _) rfl
    case c2 => exact HL.out
    case c3 => exact HC.out
    case c4 => exact H1.out
    case c5 => unfold maxLen; omega
    case c6 => omega
    case c7 => simp
    intro v' w1 hown hg _
    have hb : Below w.heap.size w w1 := ((Below.refl _ _).alloc (Nat.le_refl _) _).grown hg (by simp) (fun r hr => by simp [Value.ownBlock] at hr; omega)
    (try simp only [Nat.zero_add, List.nil_append] at hown)
    have HO := Lib.hid hown
    have HB := Lib.hid hb
    clear hown hb hg
    go_wp2
    go_ret
    exact ⟨_, rfl, HO.out, HB.out⟩
end cloneRule
end Go.Proofs.Ytomkgnlooheibaa
