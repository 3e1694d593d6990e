/- The marked lists of bools (busbarkit): lent with marks behind, and found as they were. Condition: the list is at most 2^40 long. -/
import Derived.Test.YthjjockimpndbaaDoorPut
import Derived.Deep.QuietTactic
import Derived.BigQuiet
import Derived.WalkSpells
import Derived.Outline
namespace Go.Proofs.YthjjockimpndbaaDoor
open Go.RowKit Go.Bus
set_option linter.unusedVariables false
namespace boolK
def markB (k : Nat) : Bool := ((k : Int) % 3 == 0)
def marksB : List Bool := (List.range 16).map markB
theorem marksB_length : marksB.length = 16 := by simp [marksB]
theorem marksB_take (k : Nat) (hk : k < 16) : (marksB.map Value.bool).take k ++ [Value.bool (markB k)] = (marksB.map Value.bool).take (k + 1) := by
  have h1 : (marksB.map Value.bool)[k]? = some (Value.bool (markB k)) := by simp [marksB, hk]
  rw [List.take_add_one, h1]; rfl
theorem marksB_all : (marksB.map Value.bool).take 16 = marksB.map Value.bool := List.take_of_length_le (by simp [marksB])
def Lends (w : World) (l : List Bool) (e : Ending) (w' : World) : Prop :=
  ∃ v, e = .returned v ∧ Lent w' w.heap.size 4 Value.bool v l.length (l ++ marksB) ∧ Below w.heap.size w w'

set_option maxRecDepth 100000 in
set_option maxHeartbeats 1000000 in
theorem lent_any (v : Value) (l : List Bool) (w : World) (h : Sl w w.heap.size Value.bool v l) (hlen : l.length ≤ 140737488351232) :
    Calls Tryd.prog 24 #[v] w (Lends w l) := by
  obtain ⟨A, cap, rfl, hcap, hmax⟩ := h.form
  obtain ⟨i0, hi, hz0, hz1, hz2⟩ := info_parts Tryd.infoBool
  have HL := Lib.hid h; clear h
  unfold maxLen at hmax
  go_enter Tryd.func24, Tryd.ntmps24
  go_wp2
  go_loopw [3, 4] (fun o i wr => ∃ k : Nat, k ≤ l.length ∧ i = .int .i64 k ∧ wr.ownsRow w.heap.size 4 1 o k ((l.map Value.bool).take k) ∧ Below w.heap.size w wr) (fun _ i _ => l.length - (intOf i).toNat)
  case atStart => exact ⟨0, Nat.zero_le _, rfl, World.ownsRow_nil _ _ _ _, Below.refl _ _⟩
  case round =>
    obtain ⟨k, hk, rfl, hown, hbel⟩ := hrel
    by_cases hlt : k < l.length
    · obtain ⟨b, off, rfl, hb, hc0⟩ := HL.out.at_ hlt
      have hc : wr.cell? ⟨b, off + k, none⟩ = some (.bool l[k]) := (hbel.cell (p := ⟨b, off + k, none⟩) hb).trans hc0
      have HT := Lib.hid (take_map_snoc Value.bool l k hlt)
      clear hc0
      generalize l[k] = xk at *
      go_wp2_with (at_builtin; refine wpList_append_own _ rfl _ _ 48 rfl w.heap.size 4 i0 (.bool false) 1 1 Tryd.underlying48 hi hz0 hz1 hz2 rfl (by decide) _ _ _ rfl (hown.alloc _) ⟨wr.heap.size, 0, none⟩ 1 1 [.bool xk] rfl rfl ?c1 ?c2 ?c3 ?c4 ?c5 ?_)
      case c1 => exact one_new wr _ _
      case c2 => intro u hu; simp at hu; subst hu; rfl
      case c3 => unfold maxLen; omega
      case c4 => omega
      case c5 => have := hbel.size; simp; omega
      intro v' w1 hown' hgrow _
      have hr := Round.step hbel hown hown' hgrow (hxs := HT.out)
      clear hown hown' hgrow hbel hc
      obtain ⟨hown1, hbel1⟩ := hr
      have HO1 := Lib.hid hown1; clear hown1
      go_wp2
      go_roundw
      case rel => exact ⟨k + 1, by omega, by go_num, HO1.out, hbel1⟩
      case measure => first | (simp [intOf]; done) | (simp [intOf]; omega)
    · obtain rfl : k = l.length := by omega
      rw [List.take_of_length_le (by simp)] at hown
      obtain ⟨wo, rfl⟩ : ∃ wo : World, wo = wr := ⟨_, rfl⟩
      have HO := Lib.hid hown; clear hown
      have HB := Lib.hid hbel; clear hbel
      go_wp2
      go_loopw [3, 5] (fun o i wr => ∃ k : Nat, k ≤ 16 ∧ i = .int .i64 k ∧ wr.ownsRow w.heap.size 4 1 o (l.length + k) (l.map Value.bool ++ (marksB.map Value.bool).take k) ∧ Below w.heap.size w wr) (fun _ i _ => 16 - (intOf i).toNat)
      case atStart => exact ⟨0, Nat.zero_le _, rfl, by simpa using HO.out, HB.out⟩
      case round =>
        clear HO HB
        obtain ⟨k, hk, rfl, hown, hbel⟩ := hrel
        by_cases hlt : k < 16
        · have HT := Lib.hid (marksB_take k hlt)
          go_wp2_with (at_builtin; refine wpList_append_own _ rfl _ _ 48 rfl w.heap.size 4 i0 (.bool false) 1 1 Tryd.underlying48 hi hz0 hz1 hz2 rfl (by decide) _ _ _ rfl (hown.alloc _) ⟨wr.heap.size, 0, none⟩ 1 1 [.bool (markB k)] rfl rfl ?d1 ?d2 ?d3 ?d4 ?d5 ?_)
          case d1 => exact one_new wr _ _
          case d2 => intro u hu; simp at hu; subst hu; rfl
          case d3 => unfold maxLen; omega
          case d4 => omega
          case d5 => have := hbel.size; simp; omega
          intro v' w1 hown' hgrow _
          have hr := Round.step hbel hown hown' hgrow (hxs := by first | rw [List.append_assoc, HT.out] | rw [HT.out])
          clear hown hown' hgrow hbel
          obtain ⟨hown1, hbel1⟩ := hr
          have HO1 := Lib.hid hown1; clear hown1
          go_wp2
          go_roundw
          case rel => exact ⟨k + 1, by omega, by go_num, HO1.out, hbel1⟩
          case measure => first | (simp [intOf]; done) | (simp [intOf]; omega)
        · obtain rfl : k = 16 := by omega
          rw [marksB_all] at hown
          obtain ⟨g, c, rfl, hc1, hc2⟩ := own_form hown (by omega)
          have HO := Lib.hid hown; clear hown
          go_wp2
          go_ret
          refine ⟨_, rfl, ⟨g, c, rfl, by simp, ?_⟩, hbel⟩
          rw [List.length_append, marksB_length, List.map_append]
          exact HO.out

set_option maxRecDepth 100000 in
set_option maxHeartbeats 1000000 in
theorem kept_yes (v u : Value) (l : List Bool) (w : World) (B base : Nat) (h : Lent w base 4 Value.bool v l.length (l ++ marksB)) (h' : Sl w B Value.bool u l) (hlen : l.length ≤ 140737488351232) :
    Calls Tryd.prog 30 #[v, u] w fun e w' => e = .returned (.bool true) ∧ ∃ n, w' = w.drewN n := by
  obtain ⟨A', cap', rfl, hcap', hmax'⟩ := h'.form
  obtain ⟨g, c, rfl, hn, hown⟩ := h
  have hs := Sl.of_own hown
  obtain ⟨hcap, hmax⟩ := own_cap hown
  have hll : (l ++ marksB).length = l.length + 16 := by rw [List.length_append, marksB_length]
  rw [hll] at hs hcap
  have HL := Lib.hid hs; clear hs
  have HL' := Lib.hid h'; clear h'
  have HLL := Lib.hid hll
  clear hown hll hn
  unfold maxLen at hmax'
  go_enter Tryd.func30, Tryd.ntmps30
  go_wp2
  go_loopw [7] (fun i wr => ∃ k n : Nat, k ≤ l.length ∧ i = .int .i64 k ∧ wr = w.drewN n) (fun i _ => l.length - (intOf i).toNat)
  case atStart => exact ⟨0, 0, Nat.zero_le _, rfl, rfl⟩
  case round =>
    obtain ⟨k, n, hk, rfl, rfl⟩ := hrel
    by_cases hlt : k < l.length
    · obtain ⟨b, off, he, hb, hc⟩ := HL.out.at_ (k := k) (by rw [HLL.out]; omega)
      obtain ⟨rfl, rfl⟩ : g = b ∧ 0 = off := by simpa using he
      obtain ⟨b', off', rfl, hb', hc'⟩ := HL'.out.at_ hlt
      rw [List.getElem_append_left hlt, Nat.zero_add] at hc
      clear he
      generalize l[k] = x at *
      cases x
      all_goals
        go_wp2
        go_quiet (fail)
        go_wp2
        go_roundw
      all_goals first
        | exact ⟨k + 1, _, by omega, by go_num, rfl⟩
        | (simp [intOf]; done)
        | (simp [intOf]; omega)
    · obtain rfl : k = l.length := by omega
      go_wp2
      go_loopw [8] (fun i wr => ∃ j n : Nat, j ≤ 16 ∧ i = .int .i64 ((l.length : Int) + j) ∧ wr = w.drewN n) (fun i _ => (l.length + 16) - (intOf i).toNat)
      case atStart => exact ⟨0, n, Nat.zero_le _, by simp, rfl⟩
      case round =>
        obtain ⟨j, n, hj, rfl, rfl⟩ := hrel
        by_cases hlt : j < 16
        · obtain ⟨b, off, he, hb, hc⟩ := HL.out.at_ (k := l.length + j) (by rw [HLL.out]; omega)
          obtain ⟨rfl, rfl⟩ : g = b ∧ 0 = off := by simpa using he
          have hm : (l ++ marksB)[l.length + j]'(by rw [HLL.out]; omega) = ((j : Int) % 3 == 0) := by
            rw [List.getElem_append_right (by omega)]
            simp [marksB, markB]
          rw [hm, Nat.zero_add] at hc
          clear he hm
          have d16 : decide ((j : Int) < 16) = true := decide_eq_true (by omega)
          have e2 : (l.length : Int) + (j : Int) - (l.length : Int) = (j : Int) := by omega
          have d17 : (((j : Int) % 3 == 0) != ((j : Int) % 3 == 0)) = false := bne_self_eq_false _
          go_wp2
          go_roundw
          case rel => exact ⟨j + 1, n, by omega, by rw [show (l.length : Int) + ((j + 1 : Nat) : Int) = (l.length : Int) + (j : Int) + 1 from by omega], rfl⟩
          case measure => simp only [intOf]; omega
        · obtain rfl : j = 16 := by omega
          go_wp2
          go_ret
          exact ⟨rfl, _, rfl⟩
end boolK
end Go.Proofs.YthjjockimpndbaaDoor
