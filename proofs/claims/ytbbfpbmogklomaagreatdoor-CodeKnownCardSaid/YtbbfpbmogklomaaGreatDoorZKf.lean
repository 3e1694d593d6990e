/- Texts of this claim, one behind the other. No condition but those that each states. -/
import Derived.Test.YtbbfpbmogklomaaGreatDoorZCells
import Derived.Test.YtbbfpbmogklomaaGreatDoorZK0
import Derived.Laws.Tables
import Derived.Laws.CopyOwn
import Derived.Test.YtbbfpbmogklomaaGreatDoorZKa
import Derived.Test.YtbbfpbmogklomaaGreatDoorProg
import Derived.RegionTactic
import Derived.Deep.RegionWith
import Derived.Deep.QuietTactic
import Derived.BigQuiet
import Derived.Maps.AppendAt
import Derived.ArgAppend
import Derived.Outline

namespace Go.Bus.cellK
open Go.RowKit Go.Bus
theorem SlK.whole {α : Type} {k g : Nat} {R : Rel α} {w : World} {F : Foot} {T : TypeId} {l : List α} {cs : List Value} (h : Has w g T cs.toArray) (hl : cs.length = l.length * k) (hF : F g) (hm : l.length ≤ maxLen)
    (he : ∀ i x, l[i]? = some x → R w F (eltOf k cs i) x) : SlK k R w F (.slice (some ⟨g, 0, none⟩) l.length l.length) l :=
  ⟨cs, ⟨_, _, rfl, Nat.le_refl _, hm, hl, fun _ => ⟨g, 0, rfl, hF, fun j v hj => by
    rw [Nat.zero_add, h.cell j]
    simpa using hj⟩⟩, he⟩
end Go.Bus.cellK

namespace Go.Bus
open Go.RowKit
set_option linter.unusedVariables false
set_option linter.unusedSimpArgs false
section
variable {P : Program} {w : World} {g T ty : Nat} {cs cs' : Array Value} {d : TypeDesc} {ops : Array Oper} {rest : List Oper} {op : Oper} {a : Act} {Q : Exit → Act → World → Prop}
theorem wpList_load_has (hgd : op.guard = none) (ty : TypeId) (x : Operand) (ho : op.op = .load ty x) (g : Nat) (hx : a.eval x = .pointer (some ⟨g, 0, none⟩)) (hg : Has w g T cs)
    (hu : P.underlying ty = some d) (hd : d.isRow = true) (hi : (P.info? ty).map (·.size) = some cs.size) (h : wpList P ops Q rest (a.put op.dst (.agg cs)) w) : wpList P ops Q (op :: rest) a w :=
  wpList_plain hgd fun K hK => by
    unfold Oper.wp execOp
    simp only [ho, hx, Instr.loadAt, Instr.sureAddr, Sem.run_bind, Sem.run_pure, Result.andThen_ok, load_has (P := P) hg hu hd hi]
    exact hK _ _ h
theorem wpList_store_has (hgd : op.guard = none) (ty : TypeId) (x y : Operand) (ho : op.op = .store ty x y) (g : Nat) (hx : a.eval x = .pointer (some ⟨g, 0, none⟩)) (hy : a.eval y = .agg cs') (hg : Has w g T cs)
    (hi : (P.info? ty).map (·.size) = some cs'.size) (hs : cs.size = cs'.size) (h1 : cs'.all (·.oneCell') = true) (h : wpList P ops Q rest (a.put op.dst undef) (w.setRow g cs')) : wpList P ops Q (op :: rest) a w :=
  wpList_plain hgd fun K hK => by
    unfold Oper.wp execOp
    simp only [ho, hx, hy, Instr.storeAt, Instr.sureAddr, Sem.run_bind, Sem.run_pure, Result.andThen_ok, run_storeVar_row (P := P) w g T ty cs cs' hg hi hs h1]
    exact hK _ _ h
theorem setRow_last (w : World) (c c' : Array Value) (t : TypeId) : (w.alloc (.cells c t)).setRow w.heap.size c' = w.alloc (.cells c' t) := by
  simp only [World.setRow, World.alloc]
  congr 1
  apply Array.ext_getElem?
  intro i
  rw [Array.getElem?_modify]
  by_cases h : w.heap.size = i
  · subst h
    simp
  · have h' : ¬ i = w.heap.size := fun e => h e.symm
    simp [h, h', Array.getElem?_push]
/-- Into the block that was made last. -/
theorem wpList_store_last (hgd : op.guard = none) (ty : TypeId) (x y : Operand) (ho : op.op = .store ty x y) (t : TypeId) (c : Array Value) (hx : a.eval x = .pointer (some ⟨w.heap.size, 0, none⟩)) (hy : a.eval y = .agg cs')
    (hi : (P.info? ty).map (·.size) = some cs'.size) (hs : c.size = cs'.size) (h1 : cs'.all (·.oneCell') = true) (h : wpList P ops Q rest (a.put op.dst undef) (w.alloc (.cells cs' t))) : wpList P ops Q (op :: rest) a (w.alloc (.cells c t)) :=
  wpList_store_has hgd ty x y ho w.heap.size hx hy (Has.new w t c) hi hs h1 (by rw [setRow_last]; exact h)
theorem wpList_store_last1 {o1 : Obj} (hgd : op.guard = none) (ty : TypeId) (x y : Operand) (ho : op.op = .store ty x y) (t : TypeId) (c : Array Value) (hx : a.eval x = .pointer (some ⟨w.heap.size + 1, 0, none⟩)) (hy : a.eval y = .agg cs')
    (hi : (P.info? ty).map (·.size) = some cs'.size) (hs : c.size = cs'.size) (h1 : cs'.all (·.oneCell') = true) (h : wpList P ops Q rest (a.put op.dst undef) ((w.alloc o1).alloc (.cells cs' t))) : wpList P ops Q (op :: rest) a ((w.alloc o1).alloc (.cells c t)) :=
  wpList_store_last hgd ty x y ho t c (by rw [hx]; simp) hy hi hs h1 h
theorem wpList_store_last2 {o1 o2 : Obj} (hgd : op.guard = none) (ty : TypeId) (x y : Operand) (ho : op.op = .store ty x y) (t : TypeId) (c : Array Value) (hx : a.eval x = .pointer (some ⟨w.heap.size + 1 + 1, 0, none⟩)) (hy : a.eval y = .agg cs')
    (hi : (P.info? ty).map (·.size) = some cs'.size) (hs : c.size = cs'.size) (h1 : cs'.all (·.oneCell') = true) (h : wpList P ops Q rest (a.put op.dst undef) (((w.alloc o1).alloc o2).alloc (.cells cs' t))) : wpList P ops Q (op :: rest) a (((w.alloc o1).alloc o2).alloc (.cells c t)) :=
  wpList_store_last1 hgd ty x y ho t c (by rw [hx]; simp) hy hi hs h1 h
theorem Has.row (h : Has w g T cs) (cs' : Array Value) : Has (w.setRow g cs') g T cs' := setRow_heap w g cs cs' T (0, 0) h
theorem Has.rowFar {g' : Nat} (h : Has w g T cs) (hne : g ≠ g') (c : Array Value) : Has (w.setRow g' c) g T cs := (setRow_other w g' g c hne).trans h
end
end Go.Bus

namespace Go.Proofs.YtbbfpbmogklomaaGreatDoor
open Go.RowKit Go.Bus
set_option linter.unusedVariables false
namespace lentK
section
variable {α : Type} {w w' : World} {base B : Nat} {e : TypeId} {f : α → Value} {v : Value} {l t : List α}
theorem sl_of (h : Lent w base e f v l.length (l ++ t)) : Sl w w.heap.size f v l := by
  obtain ⟨g, cap, rfl, hn, ho⟩ := h
  obtain ⟨A', cap', hv, hl, hc, hx⟩ := Sl.of_own ho
  simp only [Value.slice.injEq] at hv
  obtain ⟨rfl, _, rfl⟩ := hv
  refine ⟨_, cap, rfl, by omega, hc, fun h0 => ?_⟩
  obtain ⟨b, off, hb, hlt, hcell⟩ := hx (by rw [List.length_append]; omega)
  exact ⟨b, off, hb, hlt, fun i x hi => hcell i x (by rw [List.getElem?_append_left (List.getElem?_eq_some_iff.1 hi).1]; exact hi)⟩
theorem own_below {v : Value} {n : Nat} {xs : List Value} (h : w.ownsRow base e 1 v n xs) (hb : Below B w w') (hlt : ∀ q, v.ownBlock = some q → q < B) : w'.ownsRow base e 1 v n xs := by
  refine ⟨h.1, ?_⟩
  rcases h.2 with hn | ⟨g, cap, cur, rfl, hbb, hgg, rest⟩
  · exact .inl hn
  · exact .inr ⟨g, cap, cur, rfl, hbb, (hb.block g (hlt g (by rfl))).trans hgg, rest⟩
theorem lent_below {n : Nat} (h : Lent w base e f v n l) (hb : Below B w w') (hlt : ∀ q, v.ownBlock = some q → q < B) : Lent w' base e f v n l := by
  obtain ⟨g, cap, rfl, hn, ho⟩ := h
  exact ⟨g, cap, rfl, hn, own_below ho hb (fun q hq => hlt q (by simpa [Value.ownBlock] using hq))⟩
theorem lent_lt {n : Nat} (h : Lent w base e f v n l) : ∀ q, v.ownBlock = some q → q < w.heap.size := by
  obtain ⟨g, cap, rfl, hn, ho⟩ := h
  intro q hq
  exact (ho.lt q (by simpa [Value.ownBlock] using hq)).2
end
end lentK
end Go.Proofs.YtbbfpbmogklomaaGreatDoor

namespace Go.Proofs.YtbbfpbmogklomaaGreatDoor
open Go.RowKit Go.Bus
set_option linter.unusedVariables false


namespace bytesK
/-- The mark of place i in the list k. -/
def mark (k i : Int) : Int := IntKind.u8.wrap (37 * (k + 1) + i)
def marks : List Int := (List.range 16).map fun i : Nat => mark 90 i

set_option maxHeartbeats 400000 in
theorem mark_any (k i : Int) (w : World) (h1 : -1000000000 ≤ k) (h2 : k ≤ 1000000000) (h3 : -4611686018427387904 ≤ i) (h4 : i ≤ 4611686018427387904) :
    Calls Tryz.prog 70 #[.int .i64 k, .int .i64 i] w fun e w' => e = .returned (.int .u8 (mark k i)) ∧ w = w' := by
  go_enter Tryz.func70, Tryz.ntmps70
  go_wp2
  go_ret
  exact ⟨rfl, rfl⟩

theorem marks_take (k : Nat) (hk : k < 16) : (marks.map (Value.int .u8)).take k ++ [Value.int .u8 (mark 90 k)] = (marks.map (Value.int .u8)).take (k + 1) := by
  have h1 : (marks.map (Value.int .u8))[k]? = some (Value.int .u8 (mark 90 k)) := by simp [marks, hk]
  rw [List.take_add_one, h1]; rfl
theorem marks_all : (marks.map (Value.int .u8)).take 16 = marks.map (Value.int .u8) := List.take_of_length_le (by simp [marks])
/-- A call that made a list of its own. -/
def Made (w : World) (xs : List Int) (e : Ending) (w' : World) : Prop :=
  ∃ v, e = .returned v ∧ w'.ownsRow w.heap.size 5 1 v xs.length (xs.map (Value.int .u8)) ∧ Below w.heap.size w w'

set_option maxRecDepth 100000 in
set_option maxHeartbeats 1000000 in
theorem full_any (v : Value) (l : List Int) (w : World) (h : Sl w w.heap.size (Value.int .u8) v l) (hlen : l.length ≤ 140737488351232) :
    Calls Tryz.prog 72 #[v] w (Made w (l ++ marks)) := by
  obtain ⟨A, cap, rfl, hcap, hmax⟩ := h.form
  obtain ⟨i0, hi, hz0, hz1, hz2⟩ := info_parts Tryz.infoB
  have HL := Lib.hid h; clear h
  unfold maxLen at hmax
  go_enter Tryz.func72, Tryz.ntmps72
  go_wp2
  go_loopw [3, 4] (fun o i wr => ∃ k : Nat, k ≤ l.length ∧ i = .int .i64 k ∧ wr.ownsRow w.heap.size 5 1 o k ((l.map (Value.int .u8)).take k) ∧ Below w.heap.size w wr) (fun _ i _ => l.length - (intOf i).toNat)
  case atStart => exact ⟨0, Nat.zero_le _, rfl, World.ownsRow_nil _ _ _ _, Below.refl _ _⟩
  case round =>
    obtain ⟨k, hk, rfl, hown, hbel⟩ := hrel
    by_cases hlt : k < l.length
    · obtain ⟨b, off, rfl, hb, hc0⟩ := HL.out.at_ hlt
      have hc : wr.cell? ⟨b, off + k, none⟩ = some (.int .u8 l[k]) := (hbel.cell (p := ⟨b, off + k, none⟩) hb).trans hc0
      clear hc0
      go_wp2_with (at_builtin; refine wpList_append_own _ rfl _ _ 28 rfl w.heap.size 5 i0 (.int .u8 0) 1 1 Tryz.underlying28 hi hz0 hz1 hz2 rfl (by decide) _ _ _ rfl (hown.alloc _) ⟨wr.heap.size, 0, none⟩ 1 1 [.int .u8 l[k]] rfl rfl ?c1 ?c2 ?c3 ?c4 ?c5 ?_)
      case c1 => exact one_new wr _ _
      case c2 => intro u hu; simp at hu; subst hu; rfl
      case c3 => unfold maxLen; omega
      case c4 => omega
      case c5 => have := hbel.size; simp; omega
      intro v' w1 hown' hgrow _
      have hr := Round.step hbel hown hown' hgrow (hxs := take_map_snoc _ l k hlt)
      clear hown hown' hgrow hbel hc
      obtain ⟨hown1, hbel1⟩ := hr
      go_wp2
      go_roundw
      case rel => exact ⟨k + 1, by omega, by go_num, hown1, hbel1⟩
      case measure => simp [intOf]; omega
    · obtain rfl : k = l.length := by omega
      rw [List.take_of_length_le (by simp)] at hown
      obtain ⟨wo, rfl⟩ : ∃ wo : World, wo = wr := ⟨_, rfl⟩
      go_wp2
      go_loopw [3, 5] (fun o i wr => ∃ k : Nat, k ≤ 16 ∧ i = .int .i64 k ∧ wr.ownsRow w.heap.size 5 1 o (l.length + k) (l.map (Value.int .u8) ++ (marks.map (Value.int .u8)).take k) ∧ Below w.heap.size w wr) (fun _ i _ => 16 - (intOf i).toNat)
      case atStart => exact ⟨0, Nat.zero_le _, rfl, by simpa using hown, hbel⟩
      case round =>
        clear hown hbel
        obtain ⟨k, hk, rfl, hown, hbel⟩ := hrel
        by_cases hlt : k < 16
        · go_wp2_with (first | (at_builtin; refine wpList_append_own _ rfl _ _ 28 rfl w.heap.size 5 i0 (.int .u8 0) 1 1 Tryz.underlying28 hi hz0 hz1 hz2 rfl (by decide) _ _ _ rfl (hown.alloc _) ⟨wr.heap.size, 0, none⟩ 1 1 [.int .u8 (mark 90 k)] rfl rfl ?d1 ?d2 ?d3 ?d4 ?d5 ?_) | (go_at_call 70; refine (mark_any _ _ _ (by omega) (by omega) (by omega) (by omega)).mono ?_; rintro e w' ⟨rfl, rfl⟩))
          case d1 => exact one_new wr _ _
          case d2 => intro u hu; simp at hu; subst hu; rfl
          case d3 => unfold maxLen; omega
          case d4 => omega
          case d5 => have := hbel.size; simp; omega
          intro v' w1 hown' hgrow _
          have hr := Round.step hbel hown hown' hgrow (hxs := by first | rw [List.append_assoc, marks_take k hlt] | rw [marks_take k hlt])
          clear hown hown' hgrow hbel
          obtain ⟨hown1, hbel1⟩ := hr
          go_wp2
          go_roundw
          case rel => exact ⟨k + 1, by omega, by go_num, hown1, hbel1⟩
          case measure => simp [intOf]; omega
        · obtain rfl : k = 16 := by omega
          go_wp2
          go_ret
          rw [marks_all] at hown
          exact ⟨_, rfl, by rw [List.length_append, List.map_append]; exact hown, hbel⟩

theorem marks_at (l : List Int) (k : Nat) (h1 : ¬ k < l.length) (h2 : k < l.length + 16) : (l ++ marks)[k]? = some (mark 90 ((k : Int) - (l.length : Int))) := by
  rw [List.getElem?_append_right (by omega)]
  have : k - l.length < 16 := by omega
  simp [marks, this]
  rw [Int.ofNat_sub (by omega)]

/-- A call that lent a list: the same, with the marks in its spare room. -/
def Lends (w : World) (l : List Int) (e : Ending) (w' : World) : Prop :=
  ∃ v, e = .returned v ∧ Lent w' w.heap.size 5 (Value.int .u8) v l.length (l ++ marks) ∧ Below w.heap.size w w'

set_option maxRecDepth 100000 in
set_option maxHeartbeats 1000000 in
theorem lent_any (v : Value) (l : List Int) (w : World) (h : Sl w w.heap.size (Value.int .u8) v l) (hlen : l.length ≤ 140737488351232) :
    Calls Tryz.prog 39 #[v] w (Lends w l) := by
  obtain ⟨A, cap, rfl, hcap, hmax⟩ := h.form
  have HL := Lib.hid h; clear h
  unfold maxLen at hmax
  go_enter Tryz.func39, Tryz.ntmps39
  go_wp2_with (go_at_call 72; refine (full_any _ l _ HL.out hlen).mono ?_; rintro e w' ⟨v', rfl, hown, hbel⟩; obtain ⟨g, c, rfl, hc1, hc2⟩ := own_form hown (by simp [marks]); have HO := Lib.hid hown; clear hown; simp only [List.length_append, marks, List.length_map, List.length_range] at hc1 ⊢)
  go_ret
  exact ⟨_, rfl, ⟨g, c, rfl, by simp, HO.out⟩, hbel⟩

set_option maxRecDepth 100000 in
set_option maxHeartbeats 1000000 in
theorem keptfull_yes (v u : Value) (l : List Int) (w : World) (B : Nat) (h : Sl w B (Value.int .u8) v (l ++ marks)) (h' : Sl w B (Value.int .u8) u l) (hlen : l.length ≤ 140737488351232) :
    Calls Tryz.prog 75 #[v, u] w fun e w' => e = .returned (.bool true) ∧ w = w' := by
  obtain ⟨A, cap, rfl, hcap, hmax⟩ := h.form
  obtain ⟨A', cap', rfl, hcap', hmax'⟩ := h'.form
  have HL := Lib.hid h; clear h
  have HL' := Lib.hid h'; clear h'
  have hll : (l ++ marks).length = l.length + 16 := by simp [marks]
  rw [hll] at HL hcap ⊢
  have HLL := Lib.hid hll; clear hll
  unfold maxLen at hmax hmax'
  go_enter Tryz.func75, Tryz.ntmps75
  go_wp2
  go_loop [5, 6] (fun i _ => ∃ k : Nat, k ≤ l.length + 16 ∧ i = .int .i64 k) (fun i _ => l.length + 16 - (intOf i).toNat)
  case atStart => exact ⟨0, Nat.zero_le _, rfl⟩
  case round =>
    obtain ⟨k, hk, rfl⟩ := hrel
    by_cases hlt : k < l.length + 16
    · obtain ⟨b, off, rfl, hb, hc⟩ := HL.out.at_ (k := k) (by rw [HLL.out]; exact hlt)
      by_cases hin : k < l.length
      · obtain ⟨b', off', rfl, hb', hc'⟩ := HL'.out.at_ hin
        rw [List.getElem_append_left hin] at hc
        go_wp2_with (go_at_call 70; refine (mark_any _ _ _ (by omega) (by omega) (by omega) (by omega)).mono ?_; rintro e w' ⟨rfl, rfl⟩)
        go_round
        case rel => exact ⟨k + 1, by omega, by go_num⟩
        case measure => simp [intOf]; omega
      · have hm : (l ++ marks)[k]'(by rw [HLL.out]; exact hlt) = mark 90 ((k : Int) - (l.length : Int)) := by
          have := marks_at l k hin hlt
          rw [List.getElem?_eq_getElem (by rw [HLL.out]; exact hlt)] at this
          exact Option.some.inj this
        rw [hm] at hc
        clear hm
        go_wp2_with (go_at_call 70; refine (mark_any _ _ _ (by omega) (by omega) (by omega) (by omega)).mono ?_; rintro e w' ⟨rfl, rfl⟩)
        go_round
        case rel => exact ⟨k + 1, by omega, by go_num⟩
        case measure => simp [intOf]; omega
    · obtain rfl : k = l.length + 16 := by omega
      go_wp2
      go_ret
      exact ⟨rfl, rfl⟩

set_option maxRecDepth 100000 in
set_option maxHeartbeats 1000000 in
theorem kept_yes (v u : Value) (l : List Int) (w : World) (B base : Nat) (h : Lent w base 5 (Value.int .u8) v l.length (l ++ marks)) (h' : Sl w B (Value.int .u8) u l) (hlen : l.length ≤ 140737488351232) (hB : B ≤ w.heap.size) :
    Calls Tryz.prog 42 #[v, u] w fun e w' => e = .returned (.bool true) ∧ w = w' := by
  obtain ⟨A', cap', rfl, hcap', hmax'⟩ := h'.form
  obtain ⟨g, c, rfl, hn, hown⟩ := h
  have hs := Sl.of_own hown
  obtain ⟨hcap, hmax⟩ := own_cap hown
  have hll : (l ++ marks).length = l.length + 16 := by simp [marks]
  rw [hll] at hs hcap
  have HL := Lib.hid hs; clear hs
  have HL' := Lib.hid h'; clear h'
  clear hown hll hn
  unfold maxLen at hmax'
  go_enter Tryz.func42, Tryz.ntmps42
  go_wp2_with (go_at_call 75; refine (keptfull_yes _ _ l _ w.heap.size HL.out (HL'.out.more hB) hlen).mono ?_; rintro e w' ⟨rfl, rfl⟩)
  go_ret
  exact ⟨rfl, rfl⟩
end bytesK
end Go.Proofs.YtbbfpbmogklomaaGreatDoor

namespace Go.Proofs.YtbbfpbmogklomaaGreatDoor
open Go.RowKit Go.Bus Go.Bus.farmK Go.Bus.apartG
set_option linter.unusedVariables false
theorem Tryz.infoRowBytes : (Tryz.prog.info? 28).map (fun i => (i.zero, i.size, i.bytes)) = some (some (.slice none 0 0), 1, 24) := by kernel_rfl
namespace apartBytes
abbrev Row := Value × List Int
def markI (k i : Nat) : Int := (((37 * (k + 1) + i) % 256 : Nat) : Int)
def M (k n : Nat) : List Int := (List.range n).map (markI k)
theorem M_len (k n : Nat) : (M k n).length = n := by simp [M]
theorem M_snoc (k n : Nat) : M k n ++ [markI k n] = M k (n + 1) := by simp [M, List.range_succ]
theorem M_take {k n m : Nat} (h : n ≤ m) : (M k m).take n = M k n := by
  unfold M; rw [← List.map_take, List.take_range, Nat.min_eq_left h]
theorem M_get {k n i : Nat} (h : i < n) : (M k n)[i]'(by rw [M_len]; exact h) = markI k i := by simp [M]
def E (k : Nat) (X : List Int) : List Int := M k (X.length + 64)
set_option maxRecDepth 100000 in
set_option maxHeartbeats 1000000 in
theorem mark_any (k i : Nat) (x z : Int) (w : World) (hx : x = k) (hz : z = i) (hk : k ≤ 1000000) (hi : i ≤ 281474976710656) :
    Calls Tryz.prog 70 #[.int .i64 x, .int .i64 z] w fun e w' => e = .returned (.int .u8 (markI k i)) ∧ w = w' := by
  subst hx
  subst hz
  have h1 : markI k i = IntKind.u8.wrap (37 * ((k : Int) + 1) + i) := by rw [IntKind.wrap_u8]; unfold markI; omega
  rw [h1]
  go_enter Tryz.func70, Tryz.ntmps70
  go_wp2
  go_ret
  exact ⟨rfl, rfl⟩

set_option maxRecDepth 100000 in
set_option maxHeartbeats 6000000 in
theorem apart_any (q base : Nat) (rows : List Row) (w : World) (hq : Has w q 28 (rows.map (·.1)).toArray) (hF : Farm w base 5 (Value.int .u8) rows) (hbase : base ≤ w.heap.size) (hN : rows.length ≤ 1000000) (hN0 : 0 < rows.length) (hlen : ∀ p ∈ rows, p.2.length ≤ 1000000000) :
    Calls Tryz.prog 35 #[.slice (some ⟨q, 0, none⟩) rows.length rows.length] w fun e w' => e = .returned (.bool true) ∧ Below base w w' := by
  obtain ⟨i0, hi, hz0, hz1, hz2⟩ := info_parts Tryz.infoB
  obtain ⟨i1, hj, hy0, hy1, hy2⟩ := info_parts Tryz.infoRowBytes
  have hqlt := hq.lt
  have HQ := Lib.hid hq
  have HF := Lib.hid hF
  have HL := Lib.hid hlen
  have hMM : ∀ k n, M k n = (List.range n).map (markI k) := fun _ _ => rfl
  have HMM := Lib.hid hMM
  clear hq hF hlen hMM
  go_enter Tryz.func35, Tryz.ntmps35
  go_wp2
  go_loopw [3] (fun i wr => ∃ (k : Nat) (R : List Row), i = .int .i64 k ∧ k ≤ rows.length ∧ Hid (S0 M rows R k) ∧ Farm wr base 5 (Value.int .u8) R ∧ Has wr q 28 (rows.map (·.1)).toArray ∧ Below base w wr ∧ w.heap.size ≤ wr.heap.size) (fun i _ => rows.length - (intOf i).toNat)
  case atStart => exact ⟨0, rows, rfl, Nat.zero_le _, Lib.hid ⟨rfl, rfl, fun j p h => absurd h (by omega)⟩, HF.out, HQ.out, Below.refl _ _, Nat.le_refl _⟩
  case round =>
    clear HF
    obtain ⟨k, R, rfl, hk, HS, hFm, hqr, hbel, hsz⟩ := hrel
    have HFm := Lib.hid hFm; clear hFm
    have HQR := Lib.hid hqr; clear hqr
    have HB := Lib.hid hbel; clear hbel
    have hRl : R.length = rows.length := by have := congrArg List.length HS.out.heads; simpa using this
    by_cases hlt : k < rows.length
    · obtain ⟨⟨V, X⟩, hr⟩ : ∃ p, rows[k]? = some p := ⟨_, List.getElem?_eq_getElem hlt⟩
      have hX : X.length ≤ 1000000000 := HL.out (V, X) (List.mem_of_getElem? hr)
      obtain ⟨Y, hRk, hYl⟩ := HS.out.at_ hr
      simp only at hYl
      obtain ⟨A, c, rfl, hc1, hc2, hA⟩ := HFm.out.form hRk
      have hkR : k < R.length := by omega
      have hqk : ∀ W : World, Has W q 28 (rows.map (·.1)).toArray → W.cell? ⟨q, k, none⟩ = some (.slice A Y.length c) := fun W h => by rw [h.cell k]; simp [hr]
      have HQK := Lib.hid hqk
      have HRk := Lib.hid hRk
      have HA := Lib.hid hA
      have hY : Y.length ≤ 1000000000 := by omega
      have hqc := hqk _ HQR.out
      clear hqk hRk hr hYl hA
      go_wp2
      clear hqc
      go_loopw [4] (fun i wr => ∃ t : Nat, i = .int .i64 t ∧ t ≤ Y.length ∧ Farm wr base 5 (Value.int .u8) (R.set k (.slice A Y.length c, M k t ++ Y.drop t)) ∧ Has wr q 28 (rows.map (·.1)).toArray ∧ Below base w wr ∧ w.heap.size ≤ wr.heap.size) (fun i _ => Y.length - (intOf i).toNat)
      case atStart => exact ⟨0, rfl, Nat.zero_le _, by rw [show M k 0 ++ Y.drop 0 = Y by simp [M], set_same HRk.out]; exact HFm.out, HQR.out, HB.out, hsz⟩
      case round =>
        clear HFm HQR HB hsz
        obtain ⟨t, rfl, ht, hFr, hqr, hbel, hsz⟩ := hrel
        have hqc := HQK.out _ hqr
        by_cases htl : t < Y.length
        · obtain ⟨g, rfl⟩ := HA.out (by omega)
          have hlen2 : (M k t ++ Y.drop t).length = Y.length := fill_len (HMM.out k) (by omega)
          have hgk : (R.set k (.slice (some ⟨g, 0, none⟩) Y.length c, M k t ++ Y.drop t))[k]? = some (.slice (some ⟨g, 0, none⟩) Y.length c, M k t ++ Y.drop t) := List.getElem?_set_self hkR
          obtain ⟨hc0, hf0⟩ := hFr.cell (t := t) hgk hlen2 (by omega)
          have hFn := hFr.set (t := t) hgk hlen2 (markI k t)
          rw [List.set_set, fill_set (HMM.out k) htl] at hFn
          have hown := hFr.own k _ _ hgk
          have hqn : Has (wr.setCell ⟨g, t, none⟩ ((Value.int .u8) (markI k t))) q 28 (rows.map (·.1)).toArray := hqr.far (p := ⟨g, t, none⟩) (fun e => own_has_ne hown hqr (by decide) (by rw [e]; rfl)) _
          have hbn : Below base w (wr.setCell ⟨g, t, none⟩ ((Value.int .u8) (markI k t))) := hbel.setCell (p := ⟨g, t, none⟩) (hown.lt g (by rfl)).1 _
          have HFn := Lib.hid hFn
          have HQn := Lib.hid hqn
          have HBn := Lib.hid hbn
          generalize (M k t ++ Y.drop t)[t]'(by rw [hlen2]; exact htl) = y at *
          clear hFn hqn hbn hown hgk hlen2 hFr hqr hbel
          go_wp2_with fail
          go_region_with (go_at_call 70; refine (mark_any k t _ _ _ (by rfl) (by rfl) (by omega) (by omega)).mono ?_; rintro e w9 ⟨rfl, rfl⟩)
          all_goals
            go_wp2
            go_roundw
          all_goals first
            | exact ⟨t + 1, by go_num, by omega, (by exact ⟨fun i v z hi => HFn.out.own i v z hi, HFn.out.apart⟩), (by exact HQn.out), (by exact ⟨HBn.out.os, HBn.out.tape, HBn.out.output, HBn.out.size, HBn.out.block⟩), by simp; omega⟩
            | (simp [intOf]; done)
            | (simp [intOf]; omega)
        · obtain rfl : t = Y.length := by omega
          rw [List.drop_of_length_le (Nat.le_refl _), List.append_nil] at hFr
          have HS1 := Lib.hid (HS.out.next HRk.out (M_len k _))
          have HFr := Lib.hid hFr
          have HQr := Lib.hid hqr
          have HBr := Lib.hid hbel
          clear hFr hqr hbel HS
          go_wp2
          go_roundw
          case rel => exact ⟨k + 1, _, by go_num, by omega, HS1, HFr.out, HQr.out, HBr.out, hsz⟩
          case measure => first | (simp [intOf]; done) | (simp [intOf]; omega)
    · obtain rfl : k = rows.length := by omega
      have hcont : ∀ (j : Nat) (p : Row), R[j]? = some p → p.2 = M j p.2.length := fun j p hp => HS.out.done j p (by have := (List.getElem?_eq_some_iff.1 hp).1; omega) hp
      have hbd : ∀ p ∈ R, p.2.length ≤ 1000000000 := by
        intro p hp
        obtain ⟨j, hj⟩ := List.mem_iff_getElem?.1 hp
        have hjl := (List.getElem?_eq_some_iff.1 hj).1
        obtain ⟨p2, hr2⟩ : ∃ p2, rows[j]? = some p2 := ⟨_, List.getElem?_eq_getElem (by omega)⟩
        obtain ⟨z, hz, hzl⟩ := HS.out.at_ hr2
        have := HL.out p2 (List.mem_of_getElem? hr2)
        rw [hj] at hz
        have := Option.some.inj hz
        rw [this]; simp only; omega
      have hhd : R.map (·.1) = rows.map (·.1) := HS.out.heads
      have hq2 : Has wr q 28 (R.map (·.1)).toArray := by rw [hhd]; exact HQR.out
      have HQR2 := Lib.hid hq2
      have HCO := Lib.hid hcont
      have HBD := Lib.hid hbd
      have hR1 : R.length ≤ rows.length := Nat.le_of_eq hRl
      have hR2 : rows.length ≤ R.length := Nat.le_of_eq hRl.symm
      clear hcont hbd hhd hq2 HQR HL HS hlt hk hRl
      go_wp2
      go_loopw [5, 6] (fun gsv' i wr => ∃ (gsv : Value) (k : Nat) (F D : List Row), gsv = gsv' ∧ i = .int .i64 k ∧ k ≤ rows.length ∧ Hid (P1 E R F D k) ∧ Farm wr base 5 (Value.int .u8) (F ++ D) ∧ wr.ownsRow w.heap.size 28 1 gsv k ((F.take k).map (·.1)) ∧ Has wr q 28 (R.map (·.1)).toArray ∧ Below base w wr ∧ w.heap.size ≤ wr.heap.size) (fun _ i _ => rows.length - (intOf i).toNat)
      case atStart => exact ⟨_, 0, R, [], rfl, rfl, Nat.zero_le _, Lib.hid ⟨rfl, rfl, fun i p h => absurd h (by omega), fun i _ => rfl⟩, by simpa using HFm.out, World.ownsRow_nil _ _ _ _, HQR2.out, HB.out, hsz⟩
      case round =>
        clear HFm HQR2 HB hsz
        obtain ⟨gsv, k, F, D, rfl, rfl, hk, HP, hFm, hgs, hqr, hbel, hsz⟩ := hrel
        have HFm := Lib.hid hFm; clear hFm
        have HGS := Lib.hid hgs; clear hgs
        have HQR := Lib.hid hqr; clear hqr
        have HB := Lib.hid hbel; clear hbel
        by_cases hlt : k < rows.length
        · have hltR : k < R.length := by omega
          obtain ⟨⟨V, X⟩, hr⟩ : ∃ p, R[k]? = some p := ⟨_, List.getElem?_eq_getElem hltR⟩
          have hX : X.length ≤ 1000000000 := HBD.out (V, X) (List.mem_of_getElem? hr)
          have hXM : X = M k X.length := HCO.out k (V, X) hr
          have hFk : (F ++ D)[k]? = some (V, X) := by
            rw [List.getElem?_append_left (by rw [HP.out.lenF]; exact hltR), HP.out.todo k (Nat.le_refl _)]; exact hr
          obtain ⟨A, c, rfl, hc1, hc2, hA⟩ := HFm.out.form hFk
          have hcv : wr.cell? ⟨q, k, none⟩ = some (.slice A X.length c) := by
            rw [HQR.out.cell k]; simp [hr]
          have HFK := Lib.hid hFk
          have HR := Lib.hid hr
          have HXM := Lib.hid hXM
          clear hFk hr hA hXM
          obtain ⟨wo, rfl⟩ : ∃ wo : World, wo = wr := ⟨_, rfl⟩
          have hkF : k < F.length := by rw [HP.out.lenF]; exact hltR
          have hdl : D.length = k := HP.out.lenD
          have h0 : Farm wo base 5 (Value.int .u8) (F.set k (.slice A X.length c, M k (X.length + 0)) ++ (D ++ [((Value.slice none 0 0 : Value), ([] : List Int))])) := by
            have e1 : F.set k (.slice A X.length c, M k (X.length + 0)) = F := by
              have hk2 : F[k]? = some (.slice A X.length c, X) := by rw [HP.out.todo k (Nat.le_refl _)]; exact HR.out
              have e2 : M k (X.length + 0) = X := HXM.out.symm
              rw [e2]
              exact set_same hk2
            rw [e1, ← List.append_assoc]
            exact HFm.out.snoc (World.ownsRow_nil _ _ _ _) (fun i u y q _ _ => by simp [Value.ownBlock])
          have H0 := Lib.hid h0; clear h0
          go_wp2
          go_loopw [7, 8] (fun gv' i wr => ∃ (gv : Value) (j : Nat) (d : Row), gv = gv' ∧ i = .int .i64 j ∧ j ≤ 64 ∧ Hid (Pair (.slice A X.length c) X (X.length + j) gv d) ∧ Farm wr base 5 (Value.int .u8) (F.set k (gv, M k (X.length + j)) ++ (D ++ [d])) ∧
              wr.ownsRow w.heap.size 28 1 gsv k ((F.take k).map (·.1)) ∧ Has wr q 28 (R.map (·.1)).toArray ∧ Below base w wr ∧ w.heap.size ≤ wr.heap.size) (fun _ i _ => 64 - (intOf i).toNat)
          case atStart => exact ⟨_, 0, _, rfl, rfl, Nat.zero_le _, Lib.hid (.inl ⟨rfl, A, c, rfl, rfl⟩), H0.out, HGS.out, HQR.out, HB.out, hsz⟩
          case round =>
            clear H0 hcv
            obtain ⟨gv, j, d, rfl, rfl, hj64, hPr, hFr, hgr, hqr, hbr, hzr⟩ := hrel
            obtain ⟨A1, c1, rfl⟩ : ∃ A1 c1, gv = .slice A1 (X.length + j) c1 := by
              rcases hPr.out with ⟨_, A1, c1, _, h⟩ | ⟨_, _, A1, c1, h⟩ <;> exact ⟨A1, c1, h⟩
            have hZ : (M k (X.length + j)).length = X.length + j := M_len _ _
            have hcv : wr.cell? ⟨q, k, none⟩ = some (.slice A X.length c) := by
              rw [hqr.cell k]; simp [HR.out]
            by_cases hlt2 : j < 64
            · have hown := hFr.own k _ _ (at_k hkF _ _)
              have hrd := own_reads (by rw [hZ] at hown; exact hown)
              obtain ⟨hn1, hn2, hn3⟩ := hrd
              have HPr := Lib.hid hPr.out; clear hPr
              have HFr := Lib.hid hFr; clear hFr
              have HGR := Lib.hid hgr; clear hgr
              have HQ2 := Lib.hid hqr; clear hqr
              have HBR := Lib.hid hbr; clear hbr
              have hl1 : (M k (X.length + (j + 1))).length = X.length + j + 1 := M_len _ _
              have hm1 : (M k (X.length + (j + 1))).map (Value.int .u8) = (M k (X.length + j)).map (Value.int .u8) ++ [(Value.int .u8) (markI k (X.length + j))] := by
                rw [show X.length + (j + 1) = (X.length + j) + 1 from rfl, ← M_snoc, List.map_append]; rfl
              have HL1 := Lib.hid hl1; clear hl1
              have HM1 := Lib.hid hm1; clear hm1
              have HZ := Lib.hid hZ
              have HN3 := Lib.hid hn3; clear hn3
              have HN1 := Lib.hid hn1; clear hn1
              rw [hZ] at hown
              have HOW := Lib.hid hown; clear hown hZ
              by_cases hfit : X.length + j < c1
              · obtain ⟨g, rfl⟩ := hn2 (by omega)
                clear hn2
                go_wp2_with fail
                refine (mark_any k (X.length + j) _ _ _ (by rfl) (by omega) (by omega) (by omega)).mono ?_
                rintro e w9 ⟨rfl, rfl⟩
                go_wp2_with (at_builtin; refine wpList_append_fits _ rfl _ _ 28 rfl base 5 i0 1 Tryz.underlying28 hi hz1 g (X.length + j) c1 ((M k (X.length + j)).map (Value.int .u8)) rfl (HOW.out.alloc _) ⟨wr.heap.size, 0, none⟩ 1 1 [(Value.int .u8) (markI k (X.length + j))] rfl rfl ?c1 ?c2 ?c3 ?_)
                case c1 => exact one_new wr _ _
                case c2 => intro u hu; simp at hu; subst hu; rfl
                case c3 => omega
                intro w1 hown1 hg1
                have hPn : Pair (.slice A X.length c) X (X.length + (j + 1)) (.slice (some ⟨g, 0, none⟩) (X.length + j + 1) c1) d := by
                  rcases HPr.out with ⟨hd, A0, c0, hV1, hV2⟩ | ⟨hd1, hd2, _⟩
                  · simp only [Value.slice.injEq] at hV2
                    obtain ⟨rfl, _, rfl⟩ := hV2
                    exact .inl ⟨hd, _, _, hV1, rfl⟩
                  · exact .inr ⟨hd1, hd2, _, _, rfl⟩
                have hFn := fit_step (v1 := .slice (some ⟨g, 0, none⟩) (X.length + j + 1) c1) (Z1 := M k (X.length + (j + 1))) hkF HFr.out (by rw [HL1.out, HM1.out]; exact hown1) hg1 rfl
                have hgn : w1.ownsRow w.heap.size 28 1 gsv k ((F.take k).map (·.1)) := (HGR.out.alloc _).kept hg1 (.inr (own_ne_own HOW.out HGR.out (by decide) g rfl))
                have hqn : Has w1 q 28 (R.map (·.1)).toArray := (HQ2.out.alloc _).grown hg1 (fun e => own_has_ne (HOW.out.alloc (.cells #[(Value.int .u8) (markI k (X.length + j))] 5)) (HQ2.out.alloc _) (by decide) e.symm)
                have hbn : Below base w w1 := Below.grown (HBR.out.alloc (by omega) _) hg1 (by simp; omega) (fun r hr => by cases hr; exact (HOW.out.lt g rfl).1)
                have hzn : w.heap.size ≤ w1.heap.size := Nat.le_trans (by simp; omega) hg1.size
                have HPn := Lib.hid hPn
                have HFn := Lib.hid hFn
                have HGn := Lib.hid hgn
                have HQn := Lib.hid hqn
                have HBn := Lib.hid hbn
                clear hPn hFn hgn hqn hbn hown1 hg1 hcv
                go_wp2
                go_roundw
                case rel => exact ⟨_, j + 1, d, rfl, by go_num, by omega, HPn, HFn.out, HGn.out, HQn.out, HBn.out, hzn⟩
                case measure => first | (simp [intOf]; done) | (simp [intOf]; omega)
              · have hce : c1 = X.length + j := by
                  have := (own_cap2 HOW.out).1
                  omega
                subst hce
                clear hn2 hfit
                go_wp2_with fail
                refine (mark_any k (X.length + j) _ _ _ (by rfl) (by omega) (by omega) (by omega)).mono ?_
                rintro e w9 ⟨rfl, rfl⟩
                go_wp2_with (at_builtin; refine wpList_append_grows _ rfl _ _ 28 rfl 5 i0 (.int .u8 0) 1 1 Tryz.underlying28 hi hz0 hz1 hz2 rfl (by decide) A1 (X.length + j) (X.length + j) ((M k (X.length + j)).map (Value.int .u8)) rfl ?d1 ?d2 ?d3 ⟨wr.heap.size, 0, none⟩ 1 1 [(Value.int .u8) (markI k (X.length + j))] rfl rfl ?d4 ?d5 ?d6 ?d7 ?d8 ?_)
                case d1 => exact (own_reads HOW.out).1
                case d2 => have := HOW.out.1; omega
                case d3 => exact (own_reads (HOW.out.alloc _)).2.2
                case d4 => exact one_new wr _ _
                case d5 => intro u hu; simp at hu; subst hu; rfl
                case d6 => omega
                case d7 => unfold maxLen; omega
                case d8 => omega
                intro v1 w1 hown1 hg1
                obtain ⟨g2, c2, rfl, hg21, hg22⟩ := own_form hown1 (by omega)
                obtain ⟨d1, hPn, hFn⟩ := grow_step (A := A1) (c := X.length + j) (Z1 := M k (X.length + (j + 1))) (X := X) hkF ((M_take (Nat.le_add_right _ _)).trans HXM.out.symm) (by rw [HZ.out]; omega) HZ.out rfl HPr.out HFr.out (by rw [HL1.out, HM1.out]; exact own_base hown1 (by simp)) (Nat.le_trans hbase hzr) hg1 ⟨_, _, rfl⟩
                have hgn : w1.ownsRow w.heap.size 28 1 gsv k ((F.take k).map (·.1)) := (HGR.out.alloc _).kept hg1 (by cases gsv.ownBlock with | none => exact .inl rfl | some r => exact .inr (by simp))
                have hqn : Has w1 q 28 (R.map (·.1)).toArray := (HQ2.out.alloc _).grown hg1 (by simp)
                have hbn : Below base w w1 := Below.grown (HBR.out.alloc (by omega) _) hg1 (by simp; omega) (fun r hr => by cases hr)
                have hzn : w.heap.size ≤ w1.heap.size := Nat.le_trans (by simp; omega) hg1.size
                have HPn := Lib.hid hPn
                have HFn := Lib.hid hFn
                have HGn := Lib.hid hgn
                have HQn := Lib.hid hqn
                have HBn := Lib.hid hbn
                clear hPn hFn hgn hqn hbn hown1 hg1 hcv
                go_wp2
                go_roundw
                case rel => exact ⟨_, j + 1, d1, rfl, by go_num, by omega, HPn, HFn.out, HGn.out, HQn.out, HBn.out, hzn⟩
                case measure => first | (simp [intOf]; done) | (simp [intOf]; omega)
            · obtain rfl : j = 64 := by omega
              obtain ⟨hPn, hTn⟩ := p1_step HP.out hltR HR.out (show Pair _ X (E k X).length _ d by unfold E; rw [M_len]; exact hPr.out)
              have HPn := Lib.hid hPn
              have HTn := Lib.hid hTn
              have HFr := Lib.hid hFr; clear hFr hPr hPn hTn
              have HGR := Lib.hid hgr; clear hgr
              have HQ2 := Lib.hid hqr; clear hqr
              have HBR := Lib.hid hbr; clear hbr hZ hcv
              go_wp2_with (at_builtin; refine wpList_append_own _ rfl _ _ 74 rfl w.heap.size 28 i1 (.slice none 0 0) 1 24 Tryz.underlying74 hj hy0 hy1 hy2 rfl (by decide) _ _ _ rfl (HGR.out.alloc _) ⟨wr.heap.size, 0, none⟩ 1 1 [.slice A1 (X.length + 64) c1] rfl rfl (one_new wr _ _) ?e2 ?e3 ?e4 ?e5 ?_)
              case e2 => first | rfl | (intro u hu; simp at hu; subst hu; rfl)
              case e3 => unfold maxLen; omega
              case e4 => omega
              case e5 => first | omega | (simp; omega)
              intro v1 w1 hown1 hg1 _
              have hFa : Farm (wr.alloc (.cells #[.slice A1 (X.length + 64) c1] 28)) base 5 (Value.int .u8) (F.set k (.slice A1 (X.length + 64) c1, M k (X.length + 64)) ++ (D ++ [d])) := HFr.out.below ((Below.refl _ _).alloc (Nat.le_refl _) _)
              have hFn := hFa.kept hg1 (fun i v z hiv => by
                cases hvb : v.ownBlock with
                | none => exact .inl rfl
                | some r => exact .inr fun he => own_ne_own (hFa.own i v z hiv) (HGR.out.alloc _) (by decide) r hvb he.symm)
              have hqn : Has w1 q 28 (R.map (·.1)).toArray := (HQ2.out.alloc _).grown hg1 (fun e => by have h1 := (HGR.out.lt q e.symm).1; omega)
              have hbn : Below base w w1 := Below.grown (HBR.out.alloc (by omega) _) hg1 (by simp; omega) (fun r hr => by have h1 := (HGR.out.lt r hr).1; omega)
              have hzn : w.heap.size ≤ w1.heap.size := Nat.le_trans (by simp; omega) hg1.size
              have HG1 : Hid (w1.ownsRow w.heap.size 28 1 v1 (k + 1) (((F.set k (.slice A1 (X.length + 64) c1, E k X)).take (k + 1)).map (·.1))) := by
                unfold Hid; rw [HTn.out, List.map_take]; exact hown1
              have HFn := Lib.hid hFn
              have HQn := Lib.hid hqn
              have HBn := Lib.hid hbn
              clear hFa hFn hqn hbn hown1 hg1
              go_wp2
              go_roundw
              case rel => exact ⟨_, k + 1, _, _, rfl, by go_num, by omega, HPn, HFn.out, HG1.out, HQn.out, HBn.out, hzn⟩
              case measure => first | (simp [intOf]; done) | (simp [intOf]; omega)
        · obtain rfl : k = rows.length := by omega
          have hFl : F.length = rows.length := by rw [HP.out.lenF]; omega
          have hgs2 : wr.ownsRow w.heap.size 28 1 gsv rows.length (F.map (·.1)) := by have := HGS.out; rw [List.take_of_length_le (by omega)] at this; exact this
          obtain ⟨gg, cg, rfl, hcg1, hcg2⟩ := own_form hgs2 hN0
          have HGS2 := Lib.hid hgs2; clear hgs2 HGS
          obtain ⟨wo, rfl⟩ : ∃ wo : World, wo = wr := ⟨_, rfl⟩
          have hrow : ∀ k, k < rows.length → ∃ (n g c c0 : Nat) (A0 : Option Addr), n ≤ 1000000000 ∧ wo.cell? ⟨gg, k, none⟩ = some (.slice (some ⟨g, 0, none⟩) (n + 64) c) ∧ wo.cell? ⟨q, k, none⟩ = some (.slice A0 n c0) ∧ n ≤ c0 ∧ c0 ≤ 9223372036854775807 ∧
              (∀ i, i < n + 64 → wo.cell? ⟨g, i, none⟩ = some ((Value.int .u8) (markI k i))) ∧ (∀ i, i < n → ∃ b, A0 = some ⟨b, 0, none⟩ ∧ wo.cell? ⟨b, i, none⟩ = some ((Value.int .u8) (markI k i))) := by
            intro k hk
            have hkR : k < R.length := by omega
            obtain ⟨⟨V, X⟩, hr⟩ : ∃ p, R[k]? = some p := ⟨_, List.getElem?_eq_getElem hkR⟩
            have hX : X.length ≤ 1000000000 := HBD.out (V, X) (List.mem_of_getElem? hr)
            have hXM : X = M k X.length := HCO.out k (V, X) hr
            obtain ⟨G, d, hFj, hDj, hPj⟩ := HP.out.done k (V, X) hk hr
            have hFD : (F ++ D)[k]? = some (G, M k (X.length + 64)) := by rw [List.getElem?_append_left (by omega)]; exact hFj
            obtain ⟨A, c, rfl, hc1, hc2, hA⟩ := HFm.out.form hFD
            rw [M_len] at hc1 hA
            obtain ⟨g, rfl⟩ := hA (by omega)
            have hcellG : ∀ i, i < X.length + 64 → wo.cell? ⟨g, i, none⟩ = some ((Value.int .u8) (markI k i)) := by
              intro i hi
              have h1 := (HFm.out.cell (t := i) hFD rfl (by rw [M_len]; exact hi)).1
              rw [h1, M_get hi]
            have hhdG : wo.cell? ⟨gg, k, none⟩ = some (.slice (some ⟨g, 0, none⟩) (X.length + 64) c) := by
              rw [HGS2.out.cellAt k (by omega), List.getElem?_map, hFj, M_len]; rfl
            have hhdV : wo.cell? ⟨q, k, none⟩ = some V := by rw [HQR.out.cell k]; simp [hr]
            rcases hPj with ⟨_, A0, c0, hV1, hG1⟩ | ⟨hd1, hd2, _⟩
            · simp only [Value.slice.injEq] at hG1
              obtain ⟨rfl, _, rfl⟩ := hG1
              simp only at hV1
              refine ⟨X.length, g, _, _, _, hX, hhdG, by rw [hhdV, hV1], by omega, by omega, hcellG, fun i hi => ⟨g, rfl, hcellG i (by omega)⟩⟩
            · simp only at hd1 hd2
              have hDk : (F ++ D)[F.length + k]? = some (V, X) := by
                rw [List.getElem?_append_right (by omega), Nat.add_sub_cancel_left, hDj, ← hd1, ← hd2]
              obtain ⟨A0, c0, hV1, h1, h2, h4⟩ := HFm.out.form hDk
              refine ⟨X.length, g, c, c0, A0, hX, hhdG, by rw [hhdV, hV1], h1, h2, hcellG, fun i hi => ?_⟩
              obtain ⟨b, rfl⟩ := h4 (by omega)
              subst hV1
              refine ⟨b, rfl, ?_⟩
              have h5 := (HFm.out.cell (t := i) hDk rfl hi).1
              rw [h5]
              have h6 : X[i] = markI k i := by
                have h7 : X[i]? = (M k X.length)[i]? := by rw [← hXM]
                rw [List.getElem?_eq_getElem hi, List.getElem?_eq_getElem (by rw [M_len]; exact hi)] at h7
                rw [Option.some.inj h7, M_get hi]
              rw [h6]
          have HROW := Lib.hid hrow
          clear hrow hFl HP HFm HGS2 HQR HCO HBD
          go_wp2
          go_loop [9] (fun i => ∃ k : Nat, i = .int .i64 k ∧ k ≤ rows.length) (fun i => rows.length - (intOf i).toNat)
          case atStart => exact ⟨0, rfl, Nat.zero_le _⟩
          case round =>
            obtain ⟨k, rfl, hk⟩ := hrel
            by_cases hlt3 : k < rows.length
            · obtain ⟨n, g, c, c0, A0, hn, hcg, hcv, hc1, hc2, hG, hV⟩ := HROW.out k hlt3
              have HG := Lib.hid hG
              have HV := Lib.hid hV
              clear hG hV
              go_wp2
              go_loop [10] (fun i => ∃ t : Nat, i = .int .i64 t ∧ t ≤ n + 64) (fun i => (n + 64) - (intOf i).toNat)
              case atStart => exact ⟨0, rfl, Nat.zero_le _⟩
              case round =>
                obtain ⟨t, rfl, ht⟩ := hrel
                by_cases htl : t < n + 64
                · have hct := HG.out t htl
                  by_cases htn : t < n
                  · obtain ⟨b, rfl, hcb⟩ := HV.out t htn
                    obtain ⟨x, hx⟩ : ∃ x, x = markI k t := ⟨_, rfl⟩
                    rw [← hx] at hct hcb
                    have HX := Lib.hid hx; clear hx
                    go_wp2_with fail
                    refine (mark_any k t _ _ _ (by rfl) (by rfl) (by omega) (by omega)).mono ?_
                    rintro e w9 ⟨rfl, rfl⟩
                    rw [← HX.out]
                    go_wp2
                    go_round
                    case rel => exact ⟨t + 1, by go_num, by omega⟩
                    case measure => first | (simp [intOf]; done) | (simp [intOf]; omega)
                  · obtain ⟨x, hx⟩ : ∃ x, x = markI k t := ⟨_, rfl⟩
                    rw [← hx] at hct
                    have HX := Lib.hid hx; clear hx
                    go_wp2_with fail
                    refine (mark_any k t _ _ _ (by rfl) (by rfl) (by omega) (by omega)).mono ?_
                    rintro e w9 ⟨rfl, rfl⟩
                    rw [← HX.out]
                    go_wp2
                    go_round
                    case rel => exact ⟨t + 1, by go_num, by omega⟩
                    case measure => first | (simp [intOf]; done) | (simp [intOf]; omega)
                · obtain rfl : t = n + 64 := by omega
                  go_wp2
                  go_round
                  case rel => exact ⟨k + 1, by go_num, by omega⟩
                  case measure => first | (simp [intOf]; done) | (simp [intOf]; omega)
            · obtain rfl : k = rows.length := by omega
              go_wp2
              go_ret
              exact ⟨rfl, HB.out⟩
end apartBytes
end Go.Proofs.YtbbfpbmogklomaaGreatDoor
