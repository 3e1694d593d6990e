/- The document's own row (busbarref23): New, Push, Pop; CopyInts. No condition. -/
import Derived.Test.YthjjockimpndbaaDoorIntsOpen
import Derived.Test.YthjjockimpndbaaDoorRingLaw
import Derived.Deep.QuietTactic
import Derived.BigQuiet
namespace Go.Proofs.YthjjockimpndbaaDoor
open Go.RowKit Go.Bus Go.Bus.ringK
set_option linter.unusedVariables false
namespace refQ
theorem infoI : (Tryd.prog.info? 3).map (fun i => (i.zero, i.size, i.bytes)) = some (some (.int .i64 0), 1, 8) := by kernel_rfl
theorem own_form0 {w : World} {base : Nat} {e : TypeId} {size n : Nat} {v : Value} {xs : List Value} (h : w.ownsRow base e size v n xs) : ∃ A c, v = .slice A n c := by
  rcases h.2 with ⟨rfl, rfl⟩ | ⟨g, cap, cur, rfl, _⟩
  · exact ⟨_, _, rfl⟩
  · exact ⟨_, _, rfl⟩
/-- A list of the call's own. -/
def Made (w : World) (xs : List Int) (e : Ending) (w' : World) : Prop :=
  ∃ v, e = .returned v ∧ w'.ownsRow w.heap.size 3 1 v xs.length (xs.map (Value.int .i64)) ∧ Below w.heap.size w w'

set_option maxRecDepth 100000 in
set_option maxHeartbeats 1000000 in
theorem copy_any (v : Value) (l : List Int) (w : World) (B : Nat) (hB : B ≤ w.heap.size) (h : Sl w B (Value.int .i64) v l) (hlen : l.length ≤ 64) :
    Calls Tryd.prog 38 #[v] w (Made w l) := by
  obtain ⟨A, cap, rfl, hcap, hmax⟩ := h.form
  obtain ⟨i0, hi, hz0, hz1, hz2⟩ := info_parts infoI
  have HL := Lib.hid h; clear h
  unfold maxLen at hmax
  go_enter Tryd.func38, Tryd.ntmps38
  go_wp2
  go_loopw [3, 4] (fun o i wr => ∃ k : Nat, k ≤ l.length ∧ i = .int .i64 k ∧ wr.ownsRow w.heap.size 3 1 o k ((l.map (Value.int .i64)).take k) ∧ Below w.heap.size w wr) (fun _ i _ => l.length - (intOf i).toNat)
  case atStart => exact ⟨0, Nat.zero_le _, rfl, World.ownsRow_nil _ _ _ _, Below.refl _ _⟩
  case round =>
    obtain ⟨k, hk, rfl, hown, hbel⟩ := hrel
    by_cases hlt : k < l.length
    · obtain ⟨b, off, rfl, hb, hc0⟩ := HL.out.at_ hlt
      have hc : wr.cell? ⟨b, off + k, none⟩ = some (.int .i64 l[k]) := (hbel.cell (p := ⟨b, off + k, none⟩) (Nat.lt_of_lt_of_le hb hB)).trans hc0
      clear hc0
      go_wp2_with (at_builtin; refine wpList_append_own _ rfl _ _ 70 rfl w.heap.size 3 i0 (.int .i64 0) 1 8 Tryd.underlying70 hi hz0 hz1 hz2 rfl (by decide) _ _ _ rfl (hown.alloc _) ⟨wr.heap.size, 0, none⟩ 1 1 [.int .i64 l[k]] rfl rfl ?c1 ?c2 ?c3 ?c4 ?c5 ?_)
      case c1 => exact one_new wr _ _
      case c2 => intro u hu; simp at hu; subst hu; rfl
      case c3 => unfold maxLen; omega
      case c4 => omega
      case c5 => have := hbel.size; simp; omega
      intro v' w1 hown' hgrow _
      have hr := Round.step hbel hown hown' hgrow (hxs := take_map_snoc _ l k hlt)
      clear hown hown' hgrow hbel hc
      obtain ⟨hown1, hbel1⟩ := hr
      go_wp2
      go_roundw
      case rel => exact ⟨k + 1, by omega, by go_num, hown1, hbel1⟩
      case measure => simp [intOf]; omega
    · obtain rfl : k = l.length := by omega
      rw [List.take_of_length_le (by simp)] at hown
      go_wp2
      go_ret
      exact ⟨_, rfl, hown, hbel⟩

/-- The row's struct in block rq, its list v. -/
structure RefS (w : World) (B rq : Nat) (room : Int) (v : Value) (L : List Int) : Prop where
  struct_ : Has w rq 72 #[.int .i64 room, v]
  row : w.ownsRow B 3 1 v L.length (L.map (Value.int .i64))
/-- What a Push or a Pop turns: block rq, and memory from B on. -/
structure Turn (w w' : World) (B rq : Nat) : Prop where
  rest : ∀ i, i < B → i ≠ rq → w'.heap[i]? = w.heap[i]?
  size : w.heap.size ≤ w'.heap.size
  far : ∀ (i : Nat) (t : TypeId) (cs : Array Value), Has w i t cs → 3 ≠ t → i ≠ rq → Has w' i t cs

set_option maxRecDepth 100000 in
set_option maxHeartbeats 1000000 in
theorem new_ok (room : Int) (w : World) (h1 : 1 ≤ room) (h2 : room ≤ 64) :
    Calls Tryd.prog 7 #[.int .i64 room] w fun e w' => e = .returned (.tuple #[.pointer (some ⟨w.heap.size, 0, none⟩), .int .i64 0]) ∧ Has w' w.heap.size 72 #[.int .i64 room, .slice none 0 0] ∧ Below w.heap.size w w' := by
  go_enter Tryd.func7, Tryd.ntmps7
  go_wp2
  go_ret2
  exact ⟨rfl, Has.new _ _ _, (by repeat (first | exact Below.refl _ _ | assumption | refine Below.drew ?_ | refine below_drewN ?_ _ | (refine Below.alloc ?_ (by (try simp); (try omega)) _) | (refine Below.setCell ?_ (by (try simp); (try omega)) _)))⟩
set_option maxRecDepth 100000 in
set_option maxHeartbeats 1000000 in
theorem new_bad (room : Int) (w : World) (h : room < 1 ∨ 64 < room) :
    Calls Tryd.prog 7 #[.int .i64 room] w fun e w' => e = .returned (.tuple #[.pointer none, .int .i64 1]) ∧ w = w' := by
  rcases h with h | h
  · go_enter Tryd.func7, Tryd.ntmps7
    go_wp2
    go_ret2
    exact ⟨rfl, rfl⟩
  · have h' : ¬ room < 1 := by omega
    go_enter Tryd.func7, Tryd.ntmps7
    go_wp2
    go_ret2
    exact ⟨rfl, rfl⟩

set_option maxRecDepth 100000 in
set_option maxHeartbeats 1000000 in
theorem push_full {w : World} {B rq : Nat} {room : Int} {v : Value} {L : List Int} (h : RefS w B rq room v L) (x : Int) (hl : (L.length : Int) = room) :
    Calls Tryd.prog 12 #[.pointer (some ⟨rq, 0, none⟩), .int .i64 x] w fun e w' => e = .returned (.int .i64 24) ∧ ∃ n, w' = w.drewN n := by
  have c0 := h.struct_.cell 0
  have c1 := h.struct_.cell 1
  simp only [List.getElem?_toArray, List.getElem?_cons_zero, List.getElem?_cons_succ] at c0 c1
  obtain ⟨A, cap, rfl⟩ := own_form0 h.row
  subst hl
  clear h
  go_enter Tryd.func12, Tryd.ntmps12
  go_wp2
  go_quiet (fail)
  go_wp2
  go_ret
  exact ⟨rfl, _, rfl⟩

/-- A Push that goes in. -/
def Pushed (w : World) (B0 B rq : Nat) (room : Int) (L : List Int) (x : Int) (e : Ending) (w' : World) : Prop :=
  ∃ v', e = .returned (.int .i64 0) ∧ RefS w' B rq room v' (L ++ [x]) ∧ Below B0 w w' ∧ Turn w w' B rq
set_option maxRecDepth 100000 in
set_option maxHeartbeats 1000000 in
theorem push_ok {w : World} {B0 B rq : Nat} {room : Int} {v : Value} {L : List Int} (h : RefS w B rq room v L) (x : Int) (hl : (L.length : Int) < room) (hr : room ≤ 64) (hB0 : B0 ≤ rq) (hB : rq < B) (hBw : B ≤ w.heap.size) :
    Calls Tryd.prog 12 #[.pointer (some ⟨rq, 0, none⟩), .int .i64 x] w (Pushed w B0 B rq room L x) := by
  obtain ⟨i0, hi, hz0, hz1, hz2⟩ := info_parts infoI
  have c0 := h.struct_.cell 0
  have c1 := h.struct_.cell 1
  have hrq := h.struct_.lt
  simp only [List.getElem?_toArray, List.getElem?_cons_zero, List.getElem?_cons_succ] at c0 c1
  have HROW := Lib.hid h.row
  have HS := Lib.hid h.struct_
  obtain ⟨A, cap, rfl⟩ := own_form0 h.row
  clear h
  go_enter Tryd.func12, Tryd.ntmps12
  go_wp2
  go_quiet (fail)
  go_wp2_with (at_builtin; refine wpList_append_own _ rfl _ _ 70 rfl B 3 i0 (.int .i64 0) 1 8 Tryd.underlying70 hi hz0 hz1 hz2 rfl (by decide) _ _ _ rfl (by exact HROW.out.alloc _) ⟨w.heap.size, 0, none⟩ 1 1 [.int .i64 x] rfl rfl ?c1 ?c2 ?c3 ?c4 ?c5 ?_)
  case c1 => exact one_new w _ _
  case c2 => intro u hu; simp at hu; subst hu; rfl
  case c3 => unfold maxLen; omega
  case c4 => omega
  case c5 => simp; omega
  intro v' w1 hown' hgrow _
  obtain ⟨A', c', rfl⟩ := own_form0 hown'
  have hs1 : Has w1 rq 72 #[.int .i64 room, .slice A L.length cap] := by
    refine Has.grown ?_ hgrow (fun e => own_has_ne HROW.out HS.out (by decide) e.symm)
    exact HS.out.alloc _
  have hc1 := hs1.cell 1
  have hf1 := hs1.frozen 1
  have HFAR : Hid (∀ (i : Nat) (t : TypeId) (cs : Array Value), Has w i t cs → 3 ≠ t → Has w1 i t cs) := by
    refine Lib.hid fun i t cs hi hne => Has.grown ?_ hgrow (fun e => own_has_ne HROW.out hi hne e.symm)
    exact hi.alloc _
  have hz := hgrow.size
  simp at hz
  have hb1 : Below B w w1 := by
    refine Below.grown (w := _) (by exact (below_drewN (Below.refl B w) _).alloc (by exact hBw) _) hgrow (by simp; omega) (fun k hk => (HROW.out.lt k hk).1)
  have HW := Lib.hid hown'
  have HS1 := Lib.hid hs1
  have HB1 := Lib.hid hb1
  simp only [List.getElem?_toArray, List.getElem?_cons_zero, List.getElem?_cons_succ] at hc1
  clear hown' hgrow hs1 hb1 c0 c1
  go_wp2
  go_ret
  refine ⟨.slice A' (L.length + 1) c', rfl, ⟨?_, ?_⟩, ?_, ⟨fun i hi hne => ?_, ?_, ?_⟩⟩
  · have := HS1.out.set 1 (.slice A' (L.length + 1) c')
    simpa using this
  · have h2 := HW.out
    rw [List.length_append, List.map_append]
    exact ownsRow_setCell_below h2 (show (⟨rq, 1, none⟩ : Addr).block < B from hB) _
  · exact (HB1.out.mono (by omega)).setCell (p := ⟨rq, 1, none⟩) hB0 _
  · exact (heap_setCell_other w1 ⟨rq, 1, none⟩ i _ hne).trans (HB1.out.block i hi)
  · simp; omega
  · intro i t cs hi hne hrq
    exact ((by exact HFAR.out i t cs hi hne : Has w1 i t cs)).far (p := ⟨rq, 1, none⟩) hrq _

set_option maxRecDepth 100000 in
set_option maxHeartbeats 1000000 in
theorem pop_none {w : World} {B rq : Nat} {room : Int} {v : Value} (h : RefS w B rq room v []) :
    Calls Tryd.prog 13 #[.pointer (some ⟨rq, 0, none⟩)] w fun e w' => e = .returned (.tuple #[.int .i64 0, .int .i64 25]) ∧ w = w' := by
  have c0 := h.struct_.cell 0
  have c1 := h.struct_.cell 1
  simp only [List.getElem?_toArray, List.getElem?_cons_zero, List.getElem?_cons_succ] at c0 c1
  obtain ⟨A, cap, rfl⟩ := own_form0 h.row
  clear h
  simp only [List.length_nil] at c1
  go_enter Tryd.func13, Tryd.ntmps13
  go_wp2
  go_ret2
  exact ⟨rfl, rfl⟩

/-- A Pop that takes one out. -/
def Popped (w : World) (B0 B rq : Nat) (room : Int) (L : List Int) (x : Int) (e : Ending) (w' : World) : Prop :=
  ∃ v', e = .returned (.tuple #[.int .i64 x, .int .i64 0]) ∧ RefS w' B rq room v' L ∧ Below B0 w w' ∧ Turn w w' B rq
set_option maxRecDepth 100000 in
set_option maxHeartbeats 1000000 in
theorem pop_one {w : World} {B0 B rq : Nat} {room : Int} {v : Value} {L : List Int} {x : Int} (h : RefS w B rq room v (x :: L)) (hl : L.length < 64) (hB0 : B0 ≤ rq) (hB : rq < B) (hBw : B ≤ w.heap.size) :
    Calls Tryd.prog 13 #[.pointer (some ⟨rq, 0, none⟩)] w (Popped w B0 B rq room L x) := by
  have c0 := h.struct_.cell 0
  have c1 := h.struct_.cell 1
  have hrq := h.struct_.lt
  simp only [List.getElem?_toArray, List.getElem?_cons_zero, List.getElem?_cons_succ] at c0 c1
  have HROW := Lib.hid h.row
  have HS := Lib.hid h.struct_
  have hsl := Sl.of_own h.row
  obtain ⟨gb, cap, rfl, hcap, hmax⟩ := own_form h.row (by simp)
  simp only [List.length_cons] at c1 hcap
  have hc0 : w.cell? ⟨gb, 0, none⟩ = some (.int .i64 x) := by
    obtain ⟨b, off, he, hb, hc⟩ := hsl.at_ (k := 0) (by simp)
    simp at he
    obtain ⟨rfl, rfl⟩ := he
    simpa using hc
  have HTAIL : Hid (∀ c, cap - 1 = c → Sl w w.heap.size (Value.int .i64) (.slice (some ⟨gb, 1, none⟩) L.length c) L) := by
    refine Lib.hid fun c hc => ?_
    obtain ⟨A', cap', hv, _, hm', hx⟩ := hsl
    simp only [Value.slice.injEq] at hv
    obtain ⟨b, off, he, hb, hcell⟩ := hx (by simp)
    obtain ⟨rfl, h2, rfl⟩ := hv
    simp at he
    obtain ⟨rfl, rfl⟩ := he
    refine ⟨some ⟨gb, 1, none⟩, c, rfl, by omega, by unfold maxLen at *; omega, fun h0 => ⟨gb, 1, rfl, hb, fun i y hi => ?_⟩⟩
    have := hcell (i + 1) y (by simpa using hi)
    rw [Nat.zero_add] at this
    rw [Nat.add_comm 1 i]
    exact this
  clear h hsl
  go_enter Tryd.func13, Tryd.ntmps13
  go_wp2_with fail
  · have hL0 : L = [] := List.eq_nil_of_length_eq_zero (by omega)
    subst hL0
    have hs0 : Sl w w.heap.size (Value.int .i64) (.slice (some ⟨gb, 0, none⟩) ([] : List Int).length 0) [] := ⟨_, 0, rfl, Nat.le_refl _, by unfold maxLen; omega, fun h => absurd h (by simp)⟩
    refine (copy_any _ [] w w.heap.size (Nat.le_refl _) hs0 (by simp)).mono ?_
    rintro e w1 ⟨v', rfl, hown, hb1⟩
    obtain ⟨A', c', rfl⟩ := own_form0 hown
    have hs1 := HS.out.below hb1 hrq
    have hc1 := hs1.cell 1
    have hf1 := hs1.frozen 1
    have hz := hb1.size
    simp only [List.getElem?_toArray, List.getElem?_cons_zero, List.getElem?_cons_succ] at hc1
    have HW := Lib.hid hown
    have HS1 := Lib.hid hs1
    have HB1 := Lib.hid hb1
    clear hown hs1 hb1 c0 c1 hc0
    go_wp2
    go_ret2
    refine ⟨.slice A' ([] : List Int).length c', rfl, ⟨?_, ?_⟩, ?_, ⟨fun i hi hne => ?_, ?_, ?_⟩⟩
    · have := HS1.out.set 1 (.slice A' ([] : List Int).length c')
      simpa using this
    · exact ownsRow_setCell_below (own_base HW.out hBw) (show (⟨rq, 1, none⟩ : Addr).block < B from hB) _
    · exact (HB1.out.mono (by omega)).setCell (p := ⟨rq, 1, none⟩) hB0 _
    · exact (heap_setCell_other w1 ⟨rq, 1, none⟩ i _ hne).trans (HB1.out.block i (by omega))
    · simp; omega
    · intro i t cs hi _ hrq2
      exact (hi.below HB1.out hi.lt).far (p := ⟨rq, 1, none⟩) hrq2 _
  · refine (copy_any _ L w w.heap.size (Nat.le_refl _) (HTAIL.out _ rfl) (by omega)).mono ?_
    rintro e w1 ⟨v', rfl, hown, hb1⟩
    obtain ⟨A', c', rfl⟩ := own_form0 hown
    have hs1 := HS.out.below hb1 hrq
    have hc1 := hs1.cell 1
    have hf1 := hs1.frozen 1
    have hz := hb1.size
    simp only [List.getElem?_toArray, List.getElem?_cons_zero, List.getElem?_cons_succ] at hc1
    have HW := Lib.hid hown
    have HS1 := Lib.hid hs1
    have HB1 := Lib.hid hb1
    clear hown hs1 hb1 c0 c1 hc0
    go_wp2
    go_ret2
    refine ⟨.slice A' L.length c', rfl, ⟨?_, ?_⟩, ?_, ⟨fun i hi hne => ?_, ?_, ?_⟩⟩
    · have := HS1.out.set 1 (.slice A' L.length c')
      simpa using this
    · exact ownsRow_setCell_below (own_base HW.out hBw) (show (⟨rq, 1, none⟩ : Addr).block < B from hB) _
    · exact (HB1.out.mono (by omega)).setCell (p := ⟨rq, 1, none⟩) hB0 _
    · exact (heap_setCell_other w1 ⟨rq, 1, none⟩ i _ hne).trans (HB1.out.block i (by omega))
    · simp; omega
    · intro i t cs hi _ hrq2
      exact (hi.below HB1.out hi.lt).far (p := ⟨rq, 1, none⟩) hrq2 _

end refQ
end Go.Proofs.YthjjockimpndbaaDoor
