/- The marked lists of bytes (busbarkit): lent with marks behind, and found as they were. No condition but on lengths. -/
import Derived.Test.YtpeeonfpmgddoaaDoorBase
import Derived.Test.YtpeeonfpmgddoaaDoorInfo
namespace Go.Proofs.YtpeeonfpmgddoaaDoor
open Go.RowKit Go.Bus
set_option linter.unusedVariables false


namespace bytesK
/-- The mark of place i in the list k. -/
def mark (k i : Int) : Int := IntKind.u8.wrap (37 * (k + 1) + i)
def marks : List Int := (List.range 16).map fun i : Nat => mark 90 i

set_option maxHeartbeats 400000 in
theorem mark_any (k i : Int) (w : World) (h1 : -1000000000 ≤ k) (h2 : k ≤ 1000000000) (h3 : -4611686018427387904 ≤ i) (h4 : i ≤ 4611686018427387904) :
    Calls Tryd.prog 84 #[.int .i64 k, .int .i64 i] w fun e w' => e = .returned (.int .u8 (mark k i)) ∧ w = w' := by
  go_enter Tryd.func84, Tryd.ntmps84
  go_wp2
  go_ret
  exact ⟨rfl, rfl⟩

theorem marks_take (k : Nat) (hk : k < 16) : (marks.map (Value.int .u8)).take k ++ [Value.int .u8 (mark 90 k)] = (marks.map (Value.int .u8)).take (k + 1) := by
  have h1 : (marks.map (Value.int .u8))[k]? = some (Value.int .u8 (mark 90 k)) := by simp [marks, hk]
  rw [List.take_add_one, h1]; rfl
theorem marks_all : (marks.map (Value.int .u8)).take 16 = marks.map (Value.int .u8) := List.take_of_length_le (by simp [marks])
/-- A call that made a list of its own. -/
def Made (w : World) (xs : List Int) (e : Ending) (w' : World) : Prop :=
  ∃ v, e = .returned v ∧ w'.ownsRow w.heap.size 5 1 v xs.length (xs.map (Value.int .u8)) ∧ Below w.heap.size w w'

set_option maxRecDepth 100000 in
set_option maxHeartbeats 1000000 in
theorem full_any (v : Value) (l : List Int) (w : World) (h : Sl w w.heap.size (Value.int .u8) v l) (hlen : l.length ≤ 140737488351232) :
    Calls Tryd.prog 53 #[v] w (Made w (l ++ marks)) := by
  obtain ⟨A, cap, rfl, hcap, hmax⟩ := h.form
  obtain ⟨i0, hi, hz0, hz1, hz2⟩ := info_parts Tryd.infoB
  have HL := Lib.hid h; clear h
  unfold maxLen at hmax
  go_enter Tryd.func53, Tryd.ntmps53
  go_wp2
  go_loopw [3, 4] (fun o i wr => ∃ k : Nat, k ≤ l.length ∧ i = .int .i64 k ∧ wr.ownsRow w.heap.size 5 1 o k ((l.map (Value.int .u8)).take k) ∧ Below w.heap.size w wr) (fun _ i _ => l.length - (intOf i).toNat)
  case atStart => exact ⟨0, Nat.zero_le _, rfl, World.ownsRow_nil _ _ _ _, Below.refl _ _⟩
  case round =>
    obtain ⟨k, hk, rfl, hown, hbel⟩ := hrel
    by_cases hlt : k < l.length
    · obtain ⟨b, off, rfl, hb, hc0⟩ := HL.out.at_ hlt
      have hc : wr.cell? ⟨b, off + k, none⟩ = some (.int .u8 l[k]) := (hbel.cell (p := ⟨b, off + k, none⟩) hb).trans hc0
      clear hc0
      go_wp2_with (at_builtin; refine wpList_append_own _ rfl _ _ 24 rfl w.heap.size 5 i0 (.int .u8 0) 1 1 Tryd.underlying24 hi hz0 hz1 hz2 rfl (by decide) _ _ _ rfl (hown.alloc _) ⟨wr.heap.size, 0, none⟩ 1 1 [.int .u8 l[k]] rfl rfl ?c1 ?c2 ?c3 ?c4 ?c5 ?_)
      case c1 => exact one_new wr _ _
      case c2 => intro u hu; simp at hu; subst hu; rfl
      case c3 => unfold maxLen; omega
      case c4 => omega
      case c5 => have := hbel.size; simp; omega
      intro v' w1 hown' hgrow _
      have hr := Round.step hbel hown hown' hgrow (hxs := take_map_snoc _ l k hlt)
      clear hown hown' hgrow hbel hc
      obtain ⟨hown1, hbel1⟩ := hr
      go_wp2
      go_roundw
      case rel => exact ⟨k + 1, by omega, by go_num, hown1, hbel1⟩
      case measure => simp [intOf]; omega
    · obtain rfl : k = l.length := by omega
      rw [List.take_of_length_le (by simp)] at hown
      obtain ⟨wo, rfl⟩ : ∃ wo : World, wo = wr := ⟨_, rfl⟩
      go_wp2
      go_loopw [3, 5] (fun o i wr => ∃ k : Nat, k ≤ 16 ∧ i = .int .i64 k ∧ wr.ownsRow w.heap.size 5 1 o (l.length + k) (l.map (Value.int .u8) ++ (marks.map (Value.int .u8)).take k) ∧ Below w.heap.size w wr) (fun _ i _ => 16 - (intOf i).toNat)
      case atStart => exact ⟨0, Nat.zero_le _, rfl, by simpa using hown, hbel⟩
      case round =>
        clear hown hbel
        obtain ⟨k, hk, rfl, hown, hbel⟩ := hrel
        by_cases hlt : k < 16
        · go_wp2_with (first | (at_builtin; refine wpList_append_own _ rfl _ _ 24 rfl w.heap.size 5 i0 (.int .u8 0) 1 1 Tryd.underlying24 hi hz0 hz1 hz2 rfl (by decide) _ _ _ rfl (hown.alloc _) ⟨wr.heap.size, 0, none⟩ 1 1 [.int .u8 (mark 90 k)] rfl rfl ?d1 ?d2 ?d3 ?d4 ?d5 ?_) | (go_at_call 84; refine (mark_any _ _ _ (by omega) (by omega) (by omega) (by omega)).mono ?_; rintro e w' ⟨rfl, rfl⟩))
          case d1 => exact one_new wr _ _
          case d2 => intro u hu; simp at hu; subst hu; rfl
          case d3 => unfold maxLen; omega
          case d4 => omega
          case d5 => have := hbel.size; simp; omega
          intro v' w1 hown' hgrow _
          have hr := Round.step hbel hown hown' hgrow (hxs := by first | rw [List.append_assoc, marks_take k hlt] | rw [marks_take k hlt])
          clear hown hown' hgrow hbel
          obtain ⟨hown1, hbel1⟩ := hr
          go_wp2
          go_roundw
          case rel => exact ⟨k + 1, by omega, by go_num, hown1, hbel1⟩
          case measure => simp [intOf]; omega
        · obtain rfl : k = 16 := by omega
          go_wp2
          go_ret
          rw [marks_all] at hown
          exact ⟨_, rfl, by rw [List.length_append, List.map_append]; exact hown, hbel⟩

theorem marks_at (l : List Int) (k : Nat) (h1 : ¬ k < l.length) (h2 : k < l.length + 16) : (l ++ marks)[k]? = some (mark 90 ((k : Int) - (l.length : Int))) := by
  rw [List.getElem?_append_right (by omega)]
  have : k - l.length < 16 := by omega
  simp [marks, this]
  rw [Int.ofNat_sub (by omega)]

/-- A call that lent a list: the same, with the marks in its spare room. -/
def Lends (w : World) (l : List Int) (e : Ending) (w' : World) : Prop :=
  ∃ v, e = .returned v ∧ Lent w' w.heap.size 5 (Value.int .u8) v l.length (l ++ marks) ∧ Below w.heap.size w w'

set_option maxRecDepth 100000 in
set_option maxHeartbeats 1000000 in
theorem lent_any (v : Value) (l : List Int) (w : World) (h : Sl w w.heap.size (Value.int .u8) v l) (hlen : l.length ≤ 140737488351232) :
    Calls Tryd.prog 35 #[v] w (Lends w l) := by
  obtain ⟨A, cap, rfl, hcap, hmax⟩ := h.form
  have HL := Lib.hid h; clear h
  unfold maxLen at hmax
  go_enter Tryd.func35, Tryd.ntmps35
  go_wp2_with (go_at_call 53; refine (full_any _ l _ HL.out hlen).mono ?_; rintro e w' ⟨v', rfl, hown, hbel⟩; obtain ⟨g, c, rfl, hc1, hc2⟩ := own_form hown (by simp [marks]); have HO := Lib.hid hown; clear hown; simp only [List.length_append, marks, List.length_map, List.length_range] at hc1 ⊢)
  go_ret
  exact ⟨_, rfl, ⟨g, c, rfl, by simp, HO.out⟩, hbel⟩

set_option maxRecDepth 100000 in
set_option maxHeartbeats 1000000 in
theorem keptfull_yes (v u : Value) (l : List Int) (w : World) (B : Nat) (h : Sl w B (Value.int .u8) v (l ++ marks)) (h' : Sl w B (Value.int .u8) u l) (hlen : l.length ≤ 140737488351232) :
    Calls Tryd.prog 71 #[v, u] w fun e w' => e = .returned (.bool true) ∧ w = w' := by
  obtain ⟨A, cap, rfl, hcap, hmax⟩ := h.form
  obtain ⟨A', cap', rfl, hcap', hmax'⟩ := h'.form
  have HL := Lib.hid h; clear h
  have HL' := Lib.hid h'; clear h'
  have hll : (l ++ marks).length = l.length + 16 := by simp [marks]
  rw [hll] at HL hcap ⊢
  have HLL := Lib.hid hll; clear hll
  unfold maxLen at hmax hmax'
  go_enter Tryd.func71, Tryd.ntmps71
  go_wp2
  go_loop [5, 6] (fun i _ => ∃ k : Nat, k ≤ l.length + 16 ∧ i = .int .i64 k) (fun i _ => l.length + 16 - (intOf i).toNat)
  case atStart => exact ⟨0, Nat.zero_le _, rfl⟩
  case round =>
    obtain ⟨k, hk, rfl⟩ := hrel
    by_cases hlt : k < l.length + 16
    · obtain ⟨b, off, rfl, hb, hc⟩ := HL.out.at_ (k := k) (by rw [HLL.out]; exact hlt)
      by_cases hin : k < l.length
      · obtain ⟨b', off', rfl, hb', hc'⟩ := HL'.out.at_ hin
        rw [List.getElem_append_left hin] at hc
        go_wp2_with (go_at_call 84; refine (mark_any _ _ _ (by omega) (by omega) (by omega) (by omega)).mono ?_; rintro e w' ⟨rfl, rfl⟩)
        go_round
        case rel => exact ⟨k + 1, by omega, by go_num⟩
        case measure => simp [intOf]; omega
      · have hm : (l ++ marks)[k]'(by rw [HLL.out]; exact hlt) = mark 90 ((k : Int) - (l.length : Int)) := by
          have := marks_at l k hin hlt
          rw [List.getElem?_eq_getElem (by rw [HLL.out]; exact hlt)] at this
          exact Option.some.inj this
        rw [hm] at hc
        clear hm
        go_wp2_with (go_at_call 84; refine (mark_any _ _ _ (by omega) (by omega) (by omega) (by omega)).mono ?_; rintro e w' ⟨rfl, rfl⟩)
        go_round
        case rel => exact ⟨k + 1, by omega, by go_num⟩
        case measure => simp [intOf]; omega
    · obtain rfl : k = l.length + 16 := by omega
      go_wp2
      go_ret
      exact ⟨rfl, rfl⟩

set_option maxRecDepth 100000 in
set_option maxHeartbeats 1000000 in
theorem kept_yes (v u : Value) (l : List Int) (w : World) (B base : Nat) (h : Lent w base 5 (Value.int .u8) v l.length (l ++ marks)) (h' : Sl w B (Value.int .u8) u l) (hlen : l.length ≤ 140737488351232) (hB : B ≤ w.heap.size) :
    Calls Tryd.prog 45 #[v, u] w fun e w' => e = .returned (.bool true) ∧ w = w' := by
  obtain ⟨A', cap', rfl, hcap', hmax'⟩ := h'.form
  obtain ⟨g, c, rfl, hn, hown⟩ := h
  have hs := Sl.of_own hown
  obtain ⟨hcap, hmax⟩ := own_cap hown
  have hll : (l ++ marks).length = l.length + 16 := by simp [marks]
  rw [hll] at hs hcap
  have HL := Lib.hid hs; clear hs
  have HL' := Lib.hid h'; clear h'
  clear hown hll hn
  unfold maxLen at hmax'
  go_enter Tryd.func45, Tryd.ntmps45
  go_wp2_with (go_at_call 71; refine (keptfull_yes _ _ l _ w.heap.size HL.out (HL'.out.more hB) hlen).mono ?_; rintro e w' ⟨rfl, rfl⟩)
  go_ret
  exact ⟨rfl, rfl⟩
end bytesK
end Go.Proofs.YtpeeonfpmgddoaaDoor
