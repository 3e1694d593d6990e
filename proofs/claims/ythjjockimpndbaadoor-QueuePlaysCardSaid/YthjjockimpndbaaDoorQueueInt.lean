/- queue.Queue[int]: New, Push, Peek, Pop, Len by their contracts. -/
import Derived.Test.YthjjockimpndbaaDoorRingLaw
import Derived.Test.YthjjockimpndbaaDoorProg
import Derived.Deep.QuietTactic
import Derived.BigQuiet
import Derived.RegionTactic
import Derived.Deep.RegionWith
import Derived.Laws.MakeOwn
import Derived.WalkLawsBesides
import Derived.Outline
namespace Go.Proofs.YthjjockimpndbaaDoor
open Go.RowKit Go.Bus Go.Bus.ringK
set_option linter.unusedVariables false
theorem Tryd.infoQint : (Tryd.prog.info? 3).map (fun i => (i.zero, i.size, i.bytes)) = some (some (.int .i64 0), 1, 8) := by kernel_rfl
namespace qint
abbrev RingS (w : World) (q g room from_ : Nat) (L : List Int) : Prop := Ring w q g 75 3 room from_ (Value.int .i64) L
def zS : Value := .int .i64 0

set_option maxRecDepth 100000 in
set_option maxHeartbeats 1000000 in
theorem at_any {w : World} {q g room from_ : Nat} {c : Int} (h : Has w q 75 #[.slice (some ⟨g, 0, none⟩) room room, .int .i64 (from_ : Int), .int .i64 c]) (hf : from_ < room) (i : Nat) (hi : i ≤ room) (hr : room ≤ 64) :
    Calls Tryd.prog 37 #[.pointer (some ⟨q, 0, none⟩), .int .i64 (i : Int)] w fun e w' => e = .returned (.int .i64 (place room from_ i : Nat)) ∧ ∃ n, w' = w.drewN n := by
  have c0 : w.cell? ⟨q, 0, none⟩ = some (.slice (some ⟨g, 0, none⟩) room room) := (h.cell 0).trans rfl
  have c1 : w.cell? ⟨q, 1, none⟩ = some (.int .i64 (from_ : Int)) := (h.cell 1).trans rfl
  have HP := Lib.hid (place_int hf hi)
  clear h
  go_enter Tryd.func37, Tryd.ntmps37
  go_wp2
  go_quiet (fail)
  go_wp2
  go_ret
  exact ⟨ret_int HP.out, _, rfl⟩

set_option maxRecDepth 100000 in
set_option maxHeartbeats 1000000 in
theorem peek_none {w : World} {q g room from_ : Nat} (h : RingS w q g room from_ []) :
    Calls Tryd.prog 39 #[.pointer (some ⟨q, 0, none⟩)] w fun e w' => e = .returned (.tuple #[zS, .bool false]) ∧ ∃ n, w' = w.drewN n := by
  obtain ⟨c0, c1, c2, fq, fg, cg⟩ := h.cells
  clear h cg fq fg
  go_enter Tryd.func39, Tryd.ntmps39
  go_wp2
  go_ret2
  exact ⟨rfl, 0, rfl⟩

set_option maxRecDepth 100000 in
set_option maxHeartbeats 1000000 in
theorem peek_one {w : World} {q g room from_ : Nat} {x : Int} {L : List Int} (h : RingS w q g room from_ (x :: L)) (hr : room ≤ 64) :
    Calls Tryd.prog 39 #[.pointer (some ⟨q, 0, none⟩)] w fun e w' => e = .returned (.tuple #[.int .i64 x, .bool true]) ∧ ∃ n, w' = w.drewN n := by
  obtain ⟨c0, c1, c2, fq, fg, cg⟩ := h.cells
  have hf := h.hfrom
  have hx := h.at_ (i := 0) (by simp)
  rw [place_zero hf, List.getElem_cons_zero] at hx
  have d0 : (((x :: L).length : Int) == 0) = false := by rw [beq_eq_false_iff_ne]; simp; omega
  obtain ⟨n, hn⟩ : ∃ n, n = (x :: L).length := ⟨_, rfl⟩
  rw [← hn] at c2 d0
  clear h cg fq fg hn
  go_enter Tryd.func39, Tryd.ntmps39
  go_wp2
  go_quiet (fail)
  go_wp2
  go_ret2
  exact ⟨rfl, _, rfl⟩

def Pushed (q g room from_ : Nat) (L : List Int) (x : Int) (B : Nat) (w : World) (e : Ending) (w' : World) : Prop :=
  e = .returned .nilIface ∧ RingS w' q g room from_ (L ++ [x]) ∧ Below B w w' ∧ w'.heap.size = w.heap.size ∧ ∀ i, i ≠ q → i ≠ g → w'.heap[i]? = w.heap[i]?

set_option maxRecDepth 100000 in
set_option maxHeartbeats 1000000 in
theorem push_full {w : World} {q g room from_ : Nat} {L : List Int} (h : RingS w q g room from_ L) (x : Int) (hl : L.length = room) :
    Calls Tryd.prog 11 #[.pointer (some ⟨q, 0, none⟩), .int .i64 x] w fun e w' => e = .returned (.iface 73 (.int .i64 24)) ∧ ∃ n, w' = w.drewN n := by
  obtain ⟨c0, c1, c2, fq, fg, cg⟩ := h.cells
  rw [hl] at c2
  clear h cg fq fg hl
  go_enter Tryd.func11, Tryd.ntmps11
  go_wp2
  go_quiet (fail)
  go_wp2
  go_ret
  exact ⟨rfl, _, rfl⟩

set_option maxRecDepth 100000 in
set_option maxHeartbeats 1000000 in
theorem push_ok {w : World} {q g room from_ B : Nat} {L : List Int} (h : RingS w q g room from_ L) (x : Int) (hl : L.length < room) (hr : room ≤ 64) (hq : B ≤ q) (hg : B ≤ g) :
    Calls Tryd.prog 11 #[.pointer (some ⟨q, 0, none⟩), .int .i64 x] w (Pushed q g room from_ L x B w) := by
  obtain ⟨c0, c1, c2, fq, fg, cg⟩ := h.cells
  have d0 : ((L.length : Int) == (room : Int)) = false := by rw [beq_eq_false_iff_ne]; omega
  have hf := h.hfrom
  have hp := place_lt (i := L.length) hf (by omega)
  obtain ⟨u0, hu0⟩ := cg _ hp
  have hne : ¬ q = g := h.ne_ (by decide)
  have hne2 : ¬ g = q := fun e => hne e.symm
  have HR := Lib.hid (h.push (by decide) hl x)
  have H := Lib.hid h; clear h cg
  obtain ⟨p, hpp⟩ : ∃ p, p = place room from_ L.length := ⟨_, rfl⟩
  rw [← hpp] at hp hu0 HR
  have HPP := Lib.hid hpp; clear hpp
  go_enter Tryd.func11, Tryd.ntmps11
  go_wp2
  go_quiet (fail)
  go_wp2
  go_region_with (go_at_call 37; refine (at_any (g := g) (c := (L.length : Int)) (by exact H.out.struct_) hf L.length (by omega) hr).mono ?_; rintro e w1 ⟨rfl, n1, rfl⟩; rw [← HPP.out])
  all_goals
    go_wp2
    go_ret
    exact ⟨rfl, (by exact HR.out.drewN _), (by repeat (first | exact Below.refl _ _ | assumption | refine Below.drew ?_ | refine below_drewN ?_ _ | (refine Below.alloc ?_ (by (try simp); (try omega)) _) | (refine Below.setCell ?_ (by (try simp); (try omega)) _))), by simp, fun i a1 a2 => by rw [heap_setCell_other _ ⟨q, _, none⟩ _ _ (by exact a1), heap_setCell_other _ ⟨g, _, none⟩ _ _ (by exact a2)]; rfl⟩

def Popped (q g room from_ : Nat) (L : List Int) (x : Int) (B : Nat) (w : World) (e : Ending) (w' : World) : Prop :=
  e = .returned (.tuple #[.int .i64 x, .nilIface]) ∧ RingS w' q g room (place room from_ 1) L ∧ Below B w w' ∧ w'.heap.size = w.heap.size ∧ ∀ i, i ≠ q → i ≠ g → w'.heap[i]? = w.heap[i]?

set_option maxRecDepth 100000 in
set_option maxHeartbeats 1000000 in
theorem pop_none {w : World} {q g room from_ : Nat} (h : RingS w q g room from_ []) :
    Calls Tryd.prog 14 #[.pointer (some ⟨q, 0, none⟩)] w fun e w' => e = .returned (.tuple #[zS, .iface 73 (.int .i64 25)]) ∧ ∃ n, w' = w.drewN n := by
  have H := Lib.hid h; clear h
  go_enter Tryd.func14, Tryd.ntmps14
  go_wp2_with fail
  refine (peek_none H.out).mono ?_
  rintro e w1 ⟨rfl, n1, rfl⟩
  unfold zS
  go_wp2
  go_ret2
  exact ⟨rfl, _, rfl⟩

set_option maxRecDepth 100000 in
set_option maxHeartbeats 1000000 in
theorem pop_one {w : World} {q g room from_ B : Nat} {x : Int} {L : List Int} (h : RingS w q g room from_ (x :: L)) (hr : room ≤ 64) (hq : B ≤ q) (hg : B ≤ g) :
    Calls Tryd.prog 14 #[.pointer (some ⟨q, 0, none⟩)] w (Popped q g room from_ L x B w) := by
  obtain ⟨c0, c1, c2, fq, fg, cg⟩ := h.cells
  have hf := h.hfrom
  have hl := h.hlen
  simp only [List.length_cons] at hl
  obtain ⟨u0, hu0⟩ := cg _ hf
  have hne : ¬ q = g := h.ne_ (by decide)
  have hne2 : ¬ g = q := fun e => hne e.symm
  have HR := Lib.hid (h.pop (by decide) zS)
  have HST := Lib.hid (show Has (w.setCell ⟨g, from_, none⟩ zS) q 75 #[.slice (some ⟨g, 0, none⟩) room room, .int .i64 (from_ : Int), .int .i64 ((x :: L).length : Int)] from h.struct_.far (p := ⟨g, from_, none⟩) hne zS)
  have H := Lib.hid h; clear h cg
  rw [show ((x :: L).length : Int) = (L.length : Int) + 1 from by simp] at c2
  obtain ⟨p, hpp⟩ : ∃ p, p = place room from_ 1 := ⟨_, rfl⟩
  have hp : p < room := by rw [hpp]; exact place_lt hf (by omega)
  rw [← hpp] at HR
  have HPP := Lib.hid hpp; clear hpp
  go_enter Tryd.func14, Tryd.ntmps14
  go_wp2_with fail
  refine (peek_one H.out hr).mono ?_
  rintro e w1 ⟨rfl, n1, rfl⟩
  go_wp2
  go_region
  go_wp2_with fail
  refine (at_any (g := g) (by exact HST.out) hf 1 (by omega) hr).mono ?_
  rintro e w2 ⟨rfl, n2, rfl⟩
  rw [← HPP.out]
  have e3 : (L.length : Int) + 1 - 1 = (L.length : Int) := by omega
  go_wp2
  go_ret2
  exact ⟨rfl, (by rw [← HPP.out]; exact ⟨HR.out.struct_, HR.out.row, HR.out.hfrom, HR.out.hlen⟩), (by repeat (first | exact Below.refl _ _ | assumption | refine Below.drew ?_ | refine below_drewN ?_ _ | (refine Below.alloc ?_ (by (try simp); (try omega)) _) | (refine Below.setCell ?_ (by (try simp); (try omega)) _))), by simp, fun i a1 a2 => by rw [heap_setCell_other _ ⟨q, _, none⟩ _ _ (by exact a1), heap_setCell_other _ ⟨q, _, none⟩ _ _ (by exact a1)]; exact heap_setCell_other _ ⟨g, _, none⟩ _ _ (by exact a2)⟩

def Made (room : Nat) (w : World) (e : Ending) (w' : World) : Prop :=
  ∃ q g, e = .returned (.tuple #[.pointer (some ⟨q, 0, none⟩), .nilIface]) ∧ RingS w' q g room 0 [] ∧ Below w.heap.size w w' ∧ w.heap.size ≤ q ∧ w.heap.size ≤ g

set_option maxRecDepth 100000 in
set_option maxHeartbeats 1000000 in
theorem new_ok (room : Nat) (w : World) (h1 : 1 ≤ room) (hr : room ≤ 64) :
    Calls Tryd.prog 8 #[.int .i64 (room : Int)] w (Made room w) := by
  obtain ⟨i0, hi, hz0, hz1, hz2⟩ := info_parts Tryd.infoQint
  have hmk := fun W => run_make (P := Tryd.prog) W 70 3 i0 (.int .i64 0) Tryd.underlying70 hi hz0 .i64 .i64 (room : Int) (room : Int) (by omega) (by omega) (by rw [hz2]; omega) (by omega)
  rw [hz1] at hmk
  go_enter Tryd.func8, Tryd.ntmps8
  go_wp2
  go_ret2
  refine ⟨w.heap.size + 1, w.heap.size, rfl, ⟨?_, ⟨madeCells #[.int .i64 0] room, ?_, ?_, ?_⟩, by omega, by simp⟩, (by repeat (first | exact Below.refl _ _ | assumption | refine Below.drew ?_ | refine below_drewN ?_ _ | (refine Below.alloc ?_ (by (try simp); (try omega)) _) | (refine Below.setCell ?_ (by (try simp); (try omega)) _))), by omega, Nat.le_refl _⟩
  · have := Has.new (w.alloc (.cells (madeCells #[.int .i64 0] room) 3)) 75 #[.slice (some ⟨w.heap.size, 0, none⟩) room room, .int .i64 0, .int .i64 0]
    simpa using this
  · exact (Has.new w _ _).alloc _
  · rw [size_madeCells]
  · intro i x hi; simp at hi

set_option maxRecDepth 100000 in
set_option maxHeartbeats 1000000 in
theorem new_bad (x : Int) (w : World) (h : x < 1 ∨ 64 < x) :
    Calls Tryd.prog 8 #[.int .i64 x] w fun e w' => e = .returned (.tuple #[.pointer none, .iface 73 (.int .i64 1)]) ∧ w = w' := by
  rcases h with h | h
  · go_enter Tryd.func8, Tryd.ntmps8
    go_wp2
    go_ret2
    exact ⟨rfl, rfl⟩
  · have h2 : ¬ x < 1 := by omega
    go_enter Tryd.func8, Tryd.ntmps8
    go_wp2
    go_ret2
    exact ⟨rfl, rfl⟩
end qint
end Go.Proofs.YthjjockimpndbaaDoor
