/- busbarkit.Book over the lists of a database: one list more. Conditions: fewer than 10^9 lists. -/
import Derived.Test.YtdibfkcddcjiiaaDbData
import Derived.Test.YtdibfkcddcjiiaaFarm2
import Derived.Test.YtdibfkcddcjiiaaProg
import Derived.ArgAppend
import Derived.Deep.MidRow
namespace Go.Proofs.Ytdibfkcddcjiiaa
open Go.RowKit Go.Bus Go.Bus.cellK Go.Bus.dbK
set_option linter.unusedVariables false
set_option linter.unusedSimpArgs false
namespace bookD
theorem info_t : (Try.prog.info? 26).map (fun i => (i.zero, i.size, i.bytes)) = some (some (.slice none 0 0), 1, 24) := by kernel_rfl
theorem info_r : (Try.prog.info? 77).map (fun i => (i.zero, i.size, i.bytes)) = some (some (.slice none 0 0), 1, 24) := by kernel_rfl
theorem info_s : (Try.prog.info? 60).map (fun i => (i.zero, i.size, i.bytes)) = some (some (.slice none 0 0), 1, 24) := by kernel_rfl
theorem info_m : (Try.prog.info? 29).map (fun i => (i.zero, i.size, i.bytes)) = some (some (.slice none 0 0), 1, 24) := by kernel_rfl
theorem info_b : (Try.prog.info? 30).map (fun i => (i.zero, i.size, i.bytes)) = some (some (.slice none 0 0), 1, 24) := by kernel_rfl
structure BV where
  t : Value
  r : Value
  s : Value
  m : Value
  b : Value
structure BL where
  t : List Value
  r : List Value
  s : List Value
  m : List Value
  b : List Value
def bookC (v : BV) : Array Value := #[.slice none 0 0, v.t, .slice none 0 0, .slice none 0 0, .slice none 0 0, v.r, .slice none 0 0, .slice none 0 0, .slice none 0 0, .slice none 0 0, v.s, v.m, v.b, .slice none 0 0, .slice none 0 0]
structure Bk (w : World) (q : Nat) (v : BV) (x : BL) : Prop where
  has : Has w q 54 (bookC v)
  rt : w.ownsRow q 26 1 v.t x.t.length x.t
  rr : w.ownsRow q 77 1 v.r x.r.length x.r
  rs : w.ownsRow q 60 1 v.s x.s.length x.s
  rm : w.ownsRow q 29 1 v.m x.m.length x.m
  rb : w.ownsRow q 30 1 v.b x.b.length x.b
theorem Bk.below {w w' : World} {q : Nat} {v : BV} {x : BL} (h : Bk w q v x) (hb : Below w.heap.size w w') : Bk w' q v x := ⟨h.has.below hb h.has.lt, own_kept h.rt hb, own_kept h.rr hb, own_kept h.rs hb, own_kept h.rm hb, own_kept h.rb hb⟩
/-- Blocks of all types but the book's own stay as they are. -/
def KB (w wr : World) : Prop := ∀ (g : Nat) (t : TypeId) (cs : Array Value), t ∉ [54, 26, 77, 60, 29, 30] → Has w g t cs → Has wr g t cs
theorem KB.refl (w : World) : KB w w := fun _ _ _ _ h => h
theorem KB.trans {a b c : World} (h : KB a b) (k : KB b c) : KB a c := fun g t cs h1 hg => k g t cs h1 (h g t cs h1 hg)
theorem KB.below {w wr W : World} (h : KB w wr) (hb : Below wr.heap.size wr W) : KB w W := fun g t cs h1 hg => (h g t cs h1 hg).below hb (h g t cs h1 hg).lt
theorem KB.grown {w wr w1 : World} {base n s : Nat} {e : TypeId} {v : Value} {xs : List Value} (h : KB w wr) (o : Obj) (hg : (wr.alloc o).grownBy w1 v.ownBlock) (ho : wr.ownsRow base e s v n xs) (he : e ∈ [54, 26, 77, 60, 29, 30]) : KB w w1 :=
  fun g' t cs h1 hh => ((h g' t cs h1 hh).alloc o).grown hg (fun e' => own_has_ne ho (h g' t cs h1 hh) (fun e2 => h1 (e2 ▸ he)) e'.symm)
theorem KB.set {w wr : World} {q : Nat} {cs : Array Value} (h : KB w wr) (hq : Has wr q 54 cs) (i : Nat) (u : Value) : KB w (wr.setCell ⟨q, i, none⟩ u) :=
  fun g' t cs' h1 hh => (h g' t cs' h1 hh).far (p := ⟨q, i, none⟩) (fun e => by
    have h2 := h g' t cs' h1 hh
    have e' : g' = q := e
    rw [e'] at h2
    have h3 : (Obj.cells cs' t (0, 0)) = (Obj.cells cs 54 (0, 0)) := Option.some.inj (h2.symm.trans hq)
    injection h3 with h4 h5
    exact h1 (by rw [h5]; decide)) u
theorem KB.own {w w1 : World} {base s n : Nat} {e : TypeId} {v : Value} {xs : List Value} (hk : KB w w1) (h : w.ownsRow base e s v n xs) (h1 : e ∉ [54, 26, 77, 60, 29, 30]) : w1.ownsRow base e s v n xs := by
  refine ⟨h.1, ?_⟩
  rcases h.2 with h3 | ⟨g, cap, cur, rfl, hb, hg, rest⟩
  · exact .inl h3
  · exact .inr ⟨g, cap, cur, rfl, hb, hk g e cur h1 hg, rest⟩
def BkP (q : Nat) (v0 : BV) (x : BL) (w : World) (e : Ending) (w' : World) : Prop := ∃ v, e = .returned (.tuple #[]) ∧ Bk w' q v x ∧ Below q w w' ∧ KB w w' ∧ (v.r = v0.r ∧ v.m = v0.m ∧ v.b = v0.b)
def BkR (q : Nat) (v0 : BV) (x : BL) (w : World) (e : Ending) (w' : World) : Prop := ∃ v, e = .returned (.tuple #[]) ∧ Bk w' q v x ∧ Below q w w' ∧ KB w w' ∧ (v.t = v0.t ∧ v.s = v0.s ∧ v.m = v0.m ∧ v.b = v0.b)
theorem Bk.push_t {w w7 : World} {q : Nat} {v : BV} {x : BL} {v7 u : Value} {o : Obj} (h : Bk w q v x) (ho7 : w7.ownsRow q 26 1 v7 (x.t.length + 1) (x.t ++ [u])) (hg7 : (w.alloc o).grownBy w7 v.t.ownBlock) :
    Has w7 q 54 (bookC v) ∧ Bk (w7.setCell ⟨q, 1, none⟩ v7) q { v with t := v7 } { x with t := x.t ++ [u] } ∧ Below q w (w7.setCell ⟨q, 1, none⟩ v7) ∧ KB w (w7.setCell ⟨q, 1, none⟩ v7) := by
  have hne := own_has_ne h.rt h.has (by decide)
  have hq7 : Has w7 q 54 (bookC v) := (h.has.alloc _).grown hg7 (fun e => hne e.symm)
  have hlt := h.has.lt
  have hB7 : Below q w w7 := Below.grown (((Below.refl w.heap.size w).alloc (Nat.le_refl _) o).mono (Nat.le_of_lt hlt)) hg7 (by simp; omega) fun r hr => (h.rt.lt r hr).1
  refine ⟨hq7, ⟨hq7.set 1 _, (by rw [List.length_append]; exact own_far ho7 hq7 (by decide) (only_set (World.grownBy.refl _ _) 1 _)), (own_far ((h.rr.alloc _).kept hg7 (by cases hv : v.r.ownBlock with | none => exact .inl rfl | some k => exact .inr (fun e => farmK.own_ne_own h.rr h.rt (by decide) k hv e.symm))) hq7 (by decide) (only_set (World.grownBy.refl _ _) 1 _)), (own_far ((h.rs.alloc _).kept hg7 (by cases hv : v.s.ownBlock with | none => exact .inl rfl | some k => exact .inr (fun e => farmK.own_ne_own h.rs h.rt (by decide) k hv e.symm))) hq7 (by decide) (only_set (World.grownBy.refl _ _) 1 _)), (own_far ((h.rm.alloc _).kept hg7 (by cases hv : v.m.ownBlock with | none => exact .inl rfl | some k => exact .inr (fun e => farmK.own_ne_own h.rm h.rt (by decide) k hv e.symm))) hq7 (by decide) (only_set (World.grownBy.refl _ _) 1 _)), (own_far ((h.rb.alloc _).kept hg7 (by cases hv : v.b.ownBlock with | none => exact .inl rfl | some k => exact .inr (fun e => farmK.own_ne_own h.rb h.rt (by decide) k hv e.symm))) hq7 (by decide) (only_set (World.grownBy.refl _ _) 1 _))⟩, below_only hB7 (only_set (World.grownBy.refl _ _) 1 _) (Nat.le_of_lt hq7.lt) (Nat.le_refl _), ((KB.refl w).grown o hg7 h.rt (by decide)).set hq7 _ _⟩
theorem Bk.push_r {w w7 : World} {q : Nat} {v : BV} {x : BL} {v7 u : Value} {o : Obj} (h : Bk w q v x) (ho7 : w7.ownsRow q 77 1 v7 (x.r.length + 1) (x.r ++ [u])) (hg7 : (w.alloc o).grownBy w7 v.r.ownBlock) :
    Has w7 q 54 (bookC v) ∧ Bk (w7.setCell ⟨q, 5, none⟩ v7) q { v with r := v7 } { x with r := x.r ++ [u] } ∧ Below q w (w7.setCell ⟨q, 5, none⟩ v7) ∧ KB w (w7.setCell ⟨q, 5, none⟩ v7) := by
  have hne := own_has_ne h.rr h.has (by decide)
  have hq7 : Has w7 q 54 (bookC v) := (h.has.alloc _).grown hg7 (fun e => hne e.symm)
  have hlt := h.has.lt
  have hB7 : Below q w w7 := Below.grown (((Below.refl w.heap.size w).alloc (Nat.le_refl _) o).mono (Nat.le_of_lt hlt)) hg7 (by simp; omega) fun r hr => (h.rr.lt r hr).1
  refine ⟨hq7, ⟨hq7.set 5 _, (own_far ((h.rt.alloc _).kept hg7 (by cases hv : v.t.ownBlock with | none => exact .inl rfl | some k => exact .inr (fun e => farmK.own_ne_own h.rt h.rr (by decide) k hv e.symm))) hq7 (by decide) (only_set (World.grownBy.refl _ _) 5 _)), (by rw [List.length_append]; exact own_far ho7 hq7 (by decide) (only_set (World.grownBy.refl _ _) 5 _)), (own_far ((h.rs.alloc _).kept hg7 (by cases hv : v.s.ownBlock with | none => exact .inl rfl | some k => exact .inr (fun e => farmK.own_ne_own h.rs h.rr (by decide) k hv e.symm))) hq7 (by decide) (only_set (World.grownBy.refl _ _) 5 _)), (own_far ((h.rm.alloc _).kept hg7 (by cases hv : v.m.ownBlock with | none => exact .inl rfl | some k => exact .inr (fun e => farmK.own_ne_own h.rm h.rr (by decide) k hv e.symm))) hq7 (by decide) (only_set (World.grownBy.refl _ _) 5 _)), (own_far ((h.rb.alloc _).kept hg7 (by cases hv : v.b.ownBlock with | none => exact .inl rfl | some k => exact .inr (fun e => farmK.own_ne_own h.rb h.rr (by decide) k hv e.symm))) hq7 (by decide) (only_set (World.grownBy.refl _ _) 5 _))⟩, below_only hB7 (only_set (World.grownBy.refl _ _) 5 _) (Nat.le_of_lt hq7.lt) (Nat.le_refl _), ((KB.refl w).grown o hg7 h.rr (by decide)).set hq7 _ _⟩
theorem Bk.push_s {w w7 : World} {q : Nat} {v : BV} {x : BL} {v7 u : Value} {o : Obj} (h : Bk w q v x) (ho7 : w7.ownsRow q 60 1 v7 (x.s.length + 1) (x.s ++ [u])) (hg7 : (w.alloc o).grownBy w7 v.s.ownBlock) :
    Has w7 q 54 (bookC v) ∧ Bk (w7.setCell ⟨q, 10, none⟩ v7) q { v with s := v7 } { x with s := x.s ++ [u] } ∧ Below q w (w7.setCell ⟨q, 10, none⟩ v7) ∧ KB w (w7.setCell ⟨q, 10, none⟩ v7) := by
  have hne := own_has_ne h.rs h.has (by decide)
  have hq7 : Has w7 q 54 (bookC v) := (h.has.alloc _).grown hg7 (fun e => hne e.symm)
  have hlt := h.has.lt
  have hB7 : Below q w w7 := Below.grown (((Below.refl w.heap.size w).alloc (Nat.le_refl _) o).mono (Nat.le_of_lt hlt)) hg7 (by simp; omega) fun r hr => (h.rs.lt r hr).1
  refine ⟨hq7, ⟨hq7.set 10 _, (own_far ((h.rt.alloc _).kept hg7 (by cases hv : v.t.ownBlock with | none => exact .inl rfl | some k => exact .inr (fun e => farmK.own_ne_own h.rt h.rs (by decide) k hv e.symm))) hq7 (by decide) (only_set (World.grownBy.refl _ _) 10 _)), (own_far ((h.rr.alloc _).kept hg7 (by cases hv : v.r.ownBlock with | none => exact .inl rfl | some k => exact .inr (fun e => farmK.own_ne_own h.rr h.rs (by decide) k hv e.symm))) hq7 (by decide) (only_set (World.grownBy.refl _ _) 10 _)), (by rw [List.length_append]; exact own_far ho7 hq7 (by decide) (only_set (World.grownBy.refl _ _) 10 _)), (own_far ((h.rm.alloc _).kept hg7 (by cases hv : v.m.ownBlock with | none => exact .inl rfl | some k => exact .inr (fun e => farmK.own_ne_own h.rm h.rs (by decide) k hv e.symm))) hq7 (by decide) (only_set (World.grownBy.refl _ _) 10 _)), (own_far ((h.rb.alloc _).kept hg7 (by cases hv : v.b.ownBlock with | none => exact .inl rfl | some k => exact .inr (fun e => farmK.own_ne_own h.rb h.rs (by decide) k hv e.symm))) hq7 (by decide) (only_set (World.grownBy.refl _ _) 10 _))⟩, below_only hB7 (only_set (World.grownBy.refl _ _) 10 _) (Nat.le_of_lt hq7.lt) (Nat.le_refl _), ((KB.refl w).grown o hg7 h.rs (by decide)).set hq7 _ _⟩
theorem Bk.push_m {w w7 : World} {q : Nat} {v : BV} {x : BL} {v7 u : Value} {o : Obj} (h : Bk w q v x) (ho7 : w7.ownsRow q 29 1 v7 (x.m.length + 1) (x.m ++ [u])) (hg7 : (w.alloc o).grownBy w7 v.m.ownBlock) :
    Has w7 q 54 (bookC v) ∧ Bk (w7.setCell ⟨q, 11, none⟩ v7) q { v with m := v7 } { x with m := x.m ++ [u] } ∧ Below q w (w7.setCell ⟨q, 11, none⟩ v7) ∧ KB w (w7.setCell ⟨q, 11, none⟩ v7) := by
  have hne := own_has_ne h.rm h.has (by decide)
  have hq7 : Has w7 q 54 (bookC v) := (h.has.alloc _).grown hg7 (fun e => hne e.symm)
  have hlt := h.has.lt
  have hB7 : Below q w w7 := Below.grown (((Below.refl w.heap.size w).alloc (Nat.le_refl _) o).mono (Nat.le_of_lt hlt)) hg7 (by simp; omega) fun r hr => (h.rm.lt r hr).1
  refine ⟨hq7, ⟨hq7.set 11 _, (own_far ((h.rt.alloc _).kept hg7 (by cases hv : v.t.ownBlock with | none => exact .inl rfl | some k => exact .inr (fun e => farmK.own_ne_own h.rt h.rm (by decide) k hv e.symm))) hq7 (by decide) (only_set (World.grownBy.refl _ _) 11 _)), (own_far ((h.rr.alloc _).kept hg7 (by cases hv : v.r.ownBlock with | none => exact .inl rfl | some k => exact .inr (fun e => farmK.own_ne_own h.rr h.rm (by decide) k hv e.symm))) hq7 (by decide) (only_set (World.grownBy.refl _ _) 11 _)), (own_far ((h.rs.alloc _).kept hg7 (by cases hv : v.s.ownBlock with | none => exact .inl rfl | some k => exact .inr (fun e => farmK.own_ne_own h.rs h.rm (by decide) k hv e.symm))) hq7 (by decide) (only_set (World.grownBy.refl _ _) 11 _)), (by rw [List.length_append]; exact own_far ho7 hq7 (by decide) (only_set (World.grownBy.refl _ _) 11 _)), (own_far ((h.rb.alloc _).kept hg7 (by cases hv : v.b.ownBlock with | none => exact .inl rfl | some k => exact .inr (fun e => farmK.own_ne_own h.rb h.rm (by decide) k hv e.symm))) hq7 (by decide) (only_set (World.grownBy.refl _ _) 11 _))⟩, below_only hB7 (only_set (World.grownBy.refl _ _) 11 _) (Nat.le_of_lt hq7.lt) (Nat.le_refl _), ((KB.refl w).grown o hg7 h.rm (by decide)).set hq7 _ _⟩
theorem Bk.push_b {w w7 : World} {q : Nat} {v : BV} {x : BL} {v7 u : Value} {o : Obj} (h : Bk w q v x) (ho7 : w7.ownsRow q 30 1 v7 (x.b.length + 1) (x.b ++ [u])) (hg7 : (w.alloc o).grownBy w7 v.b.ownBlock) :
    Has w7 q 54 (bookC v) ∧ Bk (w7.setCell ⟨q, 12, none⟩ v7) q { v with b := v7 } { x with b := x.b ++ [u] } ∧ Below q w (w7.setCell ⟨q, 12, none⟩ v7) ∧ KB w (w7.setCell ⟨q, 12, none⟩ v7) := by
  have hne := own_has_ne h.rb h.has (by decide)
  have hq7 : Has w7 q 54 (bookC v) := (h.has.alloc _).grown hg7 (fun e => hne e.symm)
  have hlt := h.has.lt
  have hB7 : Below q w w7 := Below.grown (((Below.refl w.heap.size w).alloc (Nat.le_refl _) o).mono (Nat.le_of_lt hlt)) hg7 (by simp; omega) fun r hr => (h.rb.lt r hr).1
  refine ⟨hq7, ⟨hq7.set 12 _, (own_far ((h.rt.alloc _).kept hg7 (by cases hv : v.t.ownBlock with | none => exact .inl rfl | some k => exact .inr (fun e => farmK.own_ne_own h.rt h.rb (by decide) k hv e.symm))) hq7 (by decide) (only_set (World.grownBy.refl _ _) 12 _)), (own_far ((h.rr.alloc _).kept hg7 (by cases hv : v.r.ownBlock with | none => exact .inl rfl | some k => exact .inr (fun e => farmK.own_ne_own h.rr h.rb (by decide) k hv e.symm))) hq7 (by decide) (only_set (World.grownBy.refl _ _) 12 _)), (own_far ((h.rs.alloc _).kept hg7 (by cases hv : v.s.ownBlock with | none => exact .inl rfl | some k => exact .inr (fun e => farmK.own_ne_own h.rs h.rb (by decide) k hv e.symm))) hq7 (by decide) (only_set (World.grownBy.refl _ _) 12 _)), (own_far ((h.rm.alloc _).kept hg7 (by cases hv : v.m.ownBlock with | none => exact .inl rfl | some k => exact .inr (fun e => farmK.own_ne_own h.rm h.rb (by decide) k hv e.symm))) hq7 (by decide) (only_set (World.grownBy.refl _ _) 12 _)), (by rw [List.length_append]; exact own_far ho7 hq7 (by decide) (only_set (World.grownBy.refl _ _) 12 _))⟩, below_only hB7 (only_set (World.grownBy.refl _ _) 12 _) (Nat.le_of_lt hq7.lt) (Nat.le_refl _), ((KB.refl w).grown o hg7 h.rb (by decide)).set hq7 _ _⟩
set_option maxRecDepth 100000 in
set_option maxHeartbeats 2000000 in
theorem texts_any (q : Nat) (v : BV) (x : BL) (A : Option Addr) (n c : Nat) (w : World) (h : Bk w q v x) (hn : x.t.length ≤ 1000000000) :
    Calls Try.prog 60 #[.pointer (some ⟨q, 0, none⟩), .slice A n c] w (BkP q v { x with t := x.t ++ [.slice A n c] } w) := by
  obtain ⟨i0, hi, hz0, hz1, hz2⟩ := info_parts info_t
  have HB := Lib.hid h
  have c0 : w.cell? ⟨q, 1, none⟩ = some v.t := h.has.cell 1
  have zq : q < w.heap.size := h.has.lt
  clear h
  go_enter Try.func60, Try.ntmps60
  go_wp2_with (at_builtin; refine wpList_append_own _ rfl _ _ 39 rfl q 26 i0 (.slice none 0 0) 1 24 Try.underlying39 hi hz0 hz1 hz2 rfl (by decide) _ _ _ rfl (HB.out.rt.alloc _) ⟨w.heap.size, 0, none⟩ 1 1 [.slice A n c] rfl rfl (one_new w _ _) (by intro u hu; simp at hu; subst hu; rfl) (by unfold maxLen; omega) (by omega) (by simp; omega) ?_)
  intro v7 w7 ho7 hg7 _
  obtain ⟨g7, p7, rfl, -, -⟩ := own_form ho7 (by omega)
  have hp := HB.out.push_t ho7 hg7
  have hq7 := hp.1
  have HP := Lib.hid hp.2
  have c7 : w7.cell? ⟨q, 1, none⟩ = some v.t := hq7.cell 1
  have f7 : w7.frozen? ⟨q, 1, none⟩ = false := hq7.frozen 1
  have zq7 : q < w7.heap.size := hq7.lt
  clear ho7 hg7 hq7 hp
  go_wp2
  go_end0
  exact ⟨_, rfl, HP.out.1, HP.out.2.1, HP.out.2.2, ⟨rfl, rfl, rfl⟩⟩
set_option maxRecDepth 100000 in
set_option maxHeartbeats 2000000 in
theorem rows_any (q : Nat) (v : BV) (x : BL) (A : Option Addr) (n c : Nat) (w : World) (h : Bk w q v x) (hn : x.r.length ≤ 1000000000) :
    Calls Try.prog 61 #[.pointer (some ⟨q, 0, none⟩), .slice A n c] w (BkR q v { x with r := x.r ++ [.slice A n c] } w) := by
  obtain ⟨i0, hi, hz0, hz1, hz2⟩ := info_parts info_r
  have HB := Lib.hid h
  have c0 : w.cell? ⟨q, 5, none⟩ = some v.r := h.has.cell 5
  have zq : q < w.heap.size := h.has.lt
  clear h
  go_enter Try.func61, Try.ntmps61
  go_wp2_with (at_builtin; refine wpList_append_own _ rfl _ _ 43 rfl q 77 i0 (.slice none 0 0) 1 24 Try.underlying43 hi hz0 hz1 hz2 rfl (by decide) _ _ _ rfl (HB.out.rr.alloc _) ⟨w.heap.size, 0, none⟩ 1 1 [.slice A n c] rfl rfl (one_new w _ _) (by intro u hu; simp at hu; subst hu; rfl) (by unfold maxLen; omega) (by omega) (by simp; omega) ?_)
  intro v7 w7 ho7 hg7 _
  obtain ⟨g7, p7, rfl, -, -⟩ := own_form ho7 (by omega)
  have hp := HB.out.push_r ho7 hg7
  have hq7 := hp.1
  have HP := Lib.hid hp.2
  have c7 : w7.cell? ⟨q, 5, none⟩ = some v.r := hq7.cell 5
  have f7 : w7.frozen? ⟨q, 5, none⟩ = false := hq7.frozen 5
  have zq7 : q < w7.heap.size := hq7.lt
  clear ho7 hg7 hq7 hp
  go_wp2
  go_end0
  exact ⟨_, rfl, HP.out.1, HP.out.2.1, HP.out.2.2, ⟨rfl, rfl, rfl, rfl⟩⟩
set_option maxRecDepth 100000 in
set_option maxHeartbeats 2000000 in
theorem signal_any (q : Nat) (v : BV) (x : BL) (y : Sig) (A : Option Addr) (n c : Nat) (w : World) (h : Bk w q v x) (hn : x.t.length ≤ 1000000000) :
    Calls Try.prog 73 #[.pointer (some ⟨q, 0, none⟩), .agg #[.int .i64 y.line, .int .i64 y.col, .string y.name, .int .i64 y.role, .int .u64 y.branch, .int .i64 y.start, .int .i64 y.size, .bool y.mot, .bool y.sgn, .int .i64 y.sn, .int .i64 y.sd, .int .i64 y.on, .int .i64 y.od, .int .i64 y.mn, .int .i64 y.md, .int .i64 y.xn, .int .i64 y.xd, .string y.unit, .slice A n c]] w (BkP q v { x with t := x.t ++ [.slice A n c] } w) := by
  have HB := Lib.hid h
  have zq : q < w.heap.size := h.has.lt
  clear h
  go_enter Try.func73, Try.ntmps73
  go_wp2_with fail
  refine (texts_any q v x A n c _ (HB.out.below (by repeat' (first | (with_reducible assumption) | (with_reducible refine Below.setCell ?_ ?_ _) | (with_reducible refine Below.alloc ?_ ?_ _) | (with_reducible refine Below.drew ?_) | (with_reducible refine below_drewN ?_ _) | (with_reducible exact Below.refl _ _) | (show _ ≤ _; (try simp); (try omega); done) | exact Below.refl _ _ | assumption))) hn).mono ?_
  rintro e w1 ⟨v', rfl, hk, hb, hkb, hsm⟩
  have HK := Lib.hid hk
  have HB2 := Lib.hid hb
  have HKB := Lib.hid hkb
  clear hk hb hkb
  go_wp2
  go_end0
  exact ⟨v', rfl, HK.out, Below.trans (by have zz := zq; exact (Below.mono (by repeat' (first | (with_reducible assumption) | (with_reducible refine Below.setCell ?_ ?_ _) | (with_reducible refine Below.alloc ?_ ?_ _) | (with_reducible refine Below.drew ?_) | (with_reducible refine below_drewN ?_ _) | (with_reducible exact Below.refl _ _) | (show _ ≤ _; (try simp); (try omega); done) | exact Below.refl _ _ | assumption)) (Nat.le_of_lt zz))) HB2.out, ((KB.refl w).below (by repeat' (first | (with_reducible assumption) | (with_reducible refine Below.setCell ?_ ?_ _) | (with_reducible refine Below.alloc ?_ ?_ _) | (with_reducible refine Below.drew ?_) | (with_reducible refine below_drewN ?_ _) | (with_reducible exact Below.refl _ _) | (show _ ≤ _; (try simp); (try omega); done) | exact Below.refl _ _ | assumption))).trans HKB.out, hsm⟩
set_option maxRecDepth 100000 in
set_option maxHeartbeats 8000000 in
theorem signals_any (q gx : Nat) (v : BV) (x : BL) (D : List Value) (ls : List Sig) (A : Option Addr) (c : Nat) (w : World) (h : Bk w q v x) (hn : x.t.length + ls.length ≤ 1000000000) (hy : x.s.length ≤ 100000000) (hcl : ls.length ≤ c) (hcm : c ≤ 9223372036854775807)
    (hD : D.length = ls.length) (hA : 0 < ls.length → A = some ⟨gx, 0, none⟩ ∧ gx < w.heap.size ∧ ∃ cs, Has w gx 119 cs) (hsl : ∀ i (h : i < ls.length), (∃ A' c', (D[i]'(by rw [hD]; exact h)) = .slice A' ls[i].to.length c') ∧ w.rangeAt gx (i * 19) (sigCells ls[i] (D[i]'(by rw [hD]; exact h)))) :
    Calls Try.prog 47 #[.pointer (some ⟨q, 0, none⟩), .slice A ls.length c] w (BkP q v { x with t := x.t ++ D, s := x.s ++ [.slice A ls.length c] } w) := by
  obtain ⟨n, hnl⟩ : ∃ n, n = ls.length := ⟨_, rfl⟩
  have hi1 : (Try.prog.info? 119).map (·.size) = some 19 := by kernel_rfl
  have HI1 := Lib.hid hi1
  have HA := Lib.hid hA
  have HSL := Lib.hid hsl
  have HD := Lib.hid hD
  clear hA hsl hi1 hnl
  obtain ⟨i0, hi, hz0, hz1, hz2⟩ := info_parts info_s
  have HB := Lib.hid h
  have c0 : w.cell? ⟨q, 10, none⟩ = some v.s := h.has.cell 10
  have zq : q < w.heap.size := h.has.lt
  clear h
  go_enter Try.func47, Try.ntmps47
  go_wp2_with (at_builtin; refine wpList_append_own _ rfl _ _ 48 rfl q 60 i0 (.slice none 0 0) 1 24 Try.underlying48 hi hz0 hz1 hz2 rfl (by decide) _ _ _ rfl (HB.out.rs.alloc _) ⟨w.heap.size, 0, none⟩ 1 1 [.slice A ls.length c] rfl rfl (one_new w _ _) (by intro u hu; simp at hu; subst hu; rfl) (by unfold maxLen; omega) (by omega) (by simp; omega) ?_)
  intro v7 w7 ho7 hg7 _
  obtain ⟨g7, p7, rfl, -, -⟩ := own_form ho7 (by omega)
  have hp := HB.out.push_s ho7 hg7
  have hq7 := hp.1
  have HP := Lib.hid hp.2
  have c7 : w7.cell? ⟨q, 10, none⟩ = some v.s := hq7.cell 10
  have f7 : w7.frozen? ⟨q, 10, none⟩ = false := hq7.frozen 10
  have zq7 : q < w7.heap.size := hq7.lt
  clear ho7 hg7 hq7 hp
  have HK8 := Lib.hid HP.out.1
  have HB8 := Lib.hid HP.out.2.1
  have HKB8 := Lib.hid HP.out.2.2
  clear HP
  go_wp2
  go_loopw [4] (fun iv wr => ∃ (k : Nat) (v' : BV), iv = .int .i64 (k : Nat) ∧ k ≤ ls.length ∧ Hid (Bk wr q v' { x with t := x.t ++ D.take k, s := x.s ++ [.slice A ls.length c] }) ∧ Hid (Below q w wr) ∧ Hid (KB w wr) ∧ Hid (v'.r = v.r ∧ v'.m = v.m ∧ v'.b = v.b)) (fun iv _ => ls.length - (intOf iv).toNat)
  case atStart => exact ⟨0, { v with s := .slice (some ⟨g7, 0, none⟩) (x.s.length + 1) p7 }, rfl, Nat.zero_le _, by rw [List.take_zero, List.append_nil]; exact HK8, HB8, HKB8, ⟨rfl, rfl, rfl⟩⟩
  case round =>
    obtain ⟨k, v', rfl, hk, HK, HBr, HKr, HSr⟩ := hrel
    by_cases hlt : k < ls.length
    · obtain ⟨rfl, hgq, cs, hgx⟩ := HA.out (by omega)
      obtain ⟨⟨A', c', hDk⟩, hrg⟩ := HSL.out k hlt
      rw [hDk] at hrg
      have hgx2 := HKr.out gx _ _ (by decide) hgx
      have HRG : Hid (wr.rangeAt gx (k * 19) (sigCells ls[k] (.slice A' ls[k].to.length c'))) := Lib.hid (fun j u hj => by
        have h1 := hrg j u hj
        rw [show (⟨gx, k * 19 + j, none⟩ : Addr) = ⟨gx, k * 19 + j, none⟩ from rfl] at h1
        exact (World.cell?_of_block (a := ⟨gx, k * 19 + j, none⟩) (hgx2.trans hgx.symm)).trans h1)
      have HTK : Hid (D.take (k + 1) = D.take k ++ [.slice A' ls[k].to.length c']) := Lib.hid (by rw [List.take_succ_eq_append_getElem (by rw [HD.out]; exact hlt), hDk])
      have HLX : Hid ((x.t ++ D.take k).length ≤ 1000000000) := Lib.hid (by rw [List.length_append, List.length_take]; omega)
      generalize ls[k] = y at *
      have zg : gx < wr.heap.size := hgx2.lt
      clear hrg hDk hgx hgx2
      unfold sigCells at HRG
      go_wp2_with (refine wpList_load_mid rfl 119 _ rfl gx (k * 19) rfl [.int .i64 y.line, .int .i64 y.col, .string y.name, .int .i64 y.role, .int .u64 y.branch, .int .i64 y.start, .int .i64 y.size, .bool y.mot, .bool y.sgn, .int .i64 y.sn, .int .i64 y.sd, .int .i64 y.on, .int .i64 y.od, .int .i64 y.mn, .int .i64 y.md, .int .i64 y.xn, .int .i64 y.xd, .string y.unit, .slice A' y.to.length c'] _ (by exact HRG.out) Try.underlying119 rfl (HI1.out) ?_)
      refine (signal_any q v' _ y A' y.to.length c' wr HK.out HLX.out).mono ?_
      rintro e w9 ⟨vb9, rfl, hk9, hb9, hkb9, hs9⟩
      have HK9 : Hid (Bk w9 q vb9 { x with t := x.t ++ D.take (k + 1), s := x.s ++ [.slice (some ⟨gx, 0, none⟩) ls.length c] }) := Lib.hid (by rw [HTK.out, ← List.append_assoc]; exact hk9)
      have HB9 : Hid (Below q w w9) := Lib.hid (HBr.out.trans hb9)
      have HKB9 : Hid (KB w w9) := Lib.hid (HKr.out.trans hkb9)
      have HS9 : Hid (vb9.r = v.r ∧ vb9.m = v.m ∧ vb9.b = v.b) := Lib.hid ⟨hs9.1.trans HSr.out.1, hs9.2.1.trans HSr.out.2.1, hs9.2.2.trans HSr.out.2.2⟩
      clear hk9 hb9 hkb9 hs9
      go_wp2
      go_roundw
      case rel => exact ⟨k + 1, vb9, by go_num, by omega, HK9, HB9, HKB9, HS9⟩
      case measure => simp [intOf]; omega
    · obtain rfl : k = ls.length := by omega
      have HKF : Hid (Bk wr q v' { x with t := x.t ++ D, s := x.s ++ [.slice A ls.length c] }) := Lib.hid (by have h := HK.out; rwa [List.take_of_length_le (by rw [HD.out]; exact Nat.le_refl _)] at h)
      go_wp2
      go_end0
      exact ⟨_, rfl, HKF.out, HBr.out, HKr.out, HSr.out⟩
set_option maxRecDepth 100000 in
set_option maxHeartbeats 2000000 in
theorem stations_any (q : Nat) (v : BV) (x : BL) (y : Sta) (A : Option Addr) (n c : Nat) (w : World) (h : Bk w q v x) (hn : x.t.length ≤ 1000000000) :
    Calls Try.prog 29 #[.pointer (some ⟨q, 0, none⟩), .agg #[.int .i64 y.line, .int .i64 y.col, .slice A n c]] w (BkP q v { x with t := x.t ++ [.slice A n c] } w) := by
  have HB := Lib.hid h
  have zq : q < w.heap.size := h.has.lt
  clear h
  go_enter Try.func29, Try.ntmps29
  go_wp2_with fail
  refine (texts_any q v x A n c _ (HB.out.below (by repeat' (first | (with_reducible assumption) | (with_reducible refine Below.setCell ?_ ?_ _) | (with_reducible refine Below.alloc ?_ ?_ _) | (with_reducible refine Below.drew ?_) | (with_reducible refine below_drewN ?_ _) | (with_reducible exact Below.refl _ _) | (show _ ≤ _; (try simp); (try omega); done) | exact Below.refl _ _ | assumption))) hn).mono ?_
  rintro e w1 ⟨v', rfl, hk, hb, hkb, hsm⟩
  have HK := Lib.hid hk
  have HB2 := Lib.hid hb
  have HKB := Lib.hid hkb
  clear hk hb hkb
  go_wp2
  go_end0
  exact ⟨v', rfl, HK.out, Below.trans (by have zz := zq; exact (Below.mono (by repeat' (first | (with_reducible assumption) | (with_reducible refine Below.setCell ?_ ?_ _) | (with_reducible refine Below.alloc ?_ ?_ _) | (with_reducible refine Below.drew ?_) | (with_reducible refine below_drewN ?_ _) | (with_reducible exact Below.refl _ _) | (show _ ≤ _; (try simp); (try omega); done) | exact Below.refl _ _ | assumption)) (Nat.le_of_lt zz))) HB2.out, ((KB.refl w).below (by repeat' (first | (with_reducible assumption) | (with_reducible refine Below.setCell ?_ ?_ _) | (with_reducible refine Below.alloc ?_ ?_ _) | (with_reducible refine Below.drew ?_) | (with_reducible refine below_drewN ?_ _) | (with_reducible exact Below.refl _ _) | (show _ ≤ _; (try simp); (try omega); done) | exact Below.refl _ _ | assumption))).trans HKB.out, hsm⟩
set_option maxRecDepth 100000 in
set_option maxHeartbeats 2000000 in
theorem table_any (q : Nat) (v : BV) (x : BL) (y : Tab) (A : Option Addr) (n c : Nat) (w : World) (h : Bk w q v x) (hn : x.r.length ≤ 1000000000) :
    Calls Try.prog 30 #[.pointer (some ⟨q, 0, none⟩), .agg #[.int .i64 y.line, .int .i64 y.col, .int .u32 y.id, .bool y.wide, .string y.signal, .slice A n c]] w (BkR q v { x with r := x.r ++ [.slice A n c] } w) := by
  have HB := Lib.hid h
  have zq : q < w.heap.size := h.has.lt
  clear h
  go_enter Try.func30, Try.ntmps30
  go_wp2_with fail
  refine (rows_any q v x A n c _ (HB.out.below (by repeat' (first | (with_reducible assumption) | (with_reducible refine Below.setCell ?_ ?_ _) | (with_reducible refine Below.alloc ?_ ?_ _) | (with_reducible refine Below.drew ?_) | (with_reducible refine below_drewN ?_ _) | (with_reducible exact Below.refl _ _) | (show _ ≤ _; (try simp); (try omega); done) | exact Below.refl _ _ | assumption))) hn).mono ?_
  rintro e w1 ⟨v', rfl, hk, hb, hkb, hsm⟩
  have HK := Lib.hid hk
  have HB2 := Lib.hid hb
  have HKB := Lib.hid hkb
  clear hk hb hkb
  go_wp2
  go_end0
  exact ⟨v', rfl, HK.out, Below.trans (by have zz := zq; exact (Below.mono (by repeat' (first | (with_reducible assumption) | (with_reducible refine Below.setCell ?_ ?_ _) | (with_reducible refine Below.alloc ?_ ?_ _) | (with_reducible refine Below.drew ?_) | (with_reducible refine below_drewN ?_ _) | (with_reducible exact Below.refl _ _) | (show _ ≤ _; (try simp); (try omega); done) | exact Below.refl _ _ | assumption)) (Nat.le_of_lt zz))) HB2.out, ((KB.refl w).below (by repeat' (first | (with_reducible assumption) | (with_reducible refine Below.setCell ?_ ?_ _) | (with_reducible refine Below.alloc ?_ ?_ _) | (with_reducible refine Below.drew ?_) | (with_reducible refine below_drewN ?_ _) | (with_reducible exact Below.refl _ _) | (show _ ≤ _; (try simp); (try omega); done) | exact Below.refl _ _ | assumption))).trans HKB.out, hsm⟩
set_option maxRecDepth 100000 in
set_option maxHeartbeats 2000000 in
theorem message_any (q gx : Nat) (v : BV) (x : BL) (D : List Value) (y : Msg) (A : Option Addr) (c : Nat) (w : World) (h : Bk w q v x) (hn : x.t.length + y.sigs.length ≤ 1000000000) (hy : x.s.length ≤ 100000000) (hcl : y.sigs.length ≤ c) (hcm : c ≤ 9223372036854775807)
    (hD : D.length = y.sigs.length) (hA : 0 < y.sigs.length → A = some ⟨gx, 0, none⟩ ∧ gx < w.heap.size ∧ ∃ cs, Has w gx 119 cs) (hsl : ∀ i (h : i < y.sigs.length), (∃ A' c', (D[i]'(by rw [hD]; exact h)) = .slice A' y.sigs[i].to.length c') ∧ w.rangeAt gx (i * 19) (sigCells y.sigs[i] (D[i]'(by rw [hD]; exact h)))) :
    Calls Try.prog 14 #[.pointer (some ⟨q, 0, none⟩), .agg #[.int .i64 y.line, .int .i64 y.col, .int .u32 y.id, .bool y.wide, .string y.name, .int .i64 y.size, .string y.sender, .slice A y.sigs.length c]] w (BkP q v { x with t := x.t ++ D, s := x.s ++ [.slice A y.sigs.length c] } w) := by
  have HB := Lib.hid h
  have zq : q < w.heap.size := h.has.lt
  have HC := Lib.hid (signals_any q gx v x D y.sigs A c (w.alloc (.cells #[.int .i64 y.line, .int .i64 y.col, .int .u32 y.id, .bool y.wide, .string y.name, .int .i64 y.size, .string y.sender, .slice A y.sigs.length c] 62)) (h.below ((Below.refl _ _).alloc (Nat.le_refl _) _)) hn hy hcl hcm hD (fun h0 => by
    obtain ⟨h1, h2, cs, h3⟩ := hA h0
    exact ⟨h1, by simp; omega, cs, h3.alloc _⟩) (fun i hi => ⟨(hsl i hi).1, fun j u hj => by
    obtain ⟨_, h2, _⟩ := hA (by omega)
    exact (World.cell?_alloc_lt _ _ _ h2).trans ((hsl i hi).2 j u hj)⟩))
  clear h hsl hA
  go_enter Try.func14, Try.ntmps14
  go_wp2_with fail
  refine (HC.out).mono ?_
  rintro e w1 ⟨v', rfl, hk, hb, hkb, hsm⟩
  have HK := Lib.hid hk
  have HB2 := Lib.hid hb
  have HKB := Lib.hid hkb
  clear hk hb hkb
  go_wp2
  go_end0
  exact ⟨v', rfl, HK.out, Below.trans (by have zz := zq; exact (Below.mono (by repeat' (first | (with_reducible assumption) | (with_reducible refine Below.setCell ?_ ?_ _) | (with_reducible refine Below.alloc ?_ ?_ _) | (with_reducible refine Below.drew ?_) | (with_reducible refine below_drewN ?_ _) | (with_reducible exact Below.refl _ _) | (show _ ≤ _; (try simp); (try omega); done) | exact Below.refl _ _ | assumption)) (Nat.le_of_lt zz))) HB2.out, ((KB.refl w).below (by repeat' (first | (with_reducible assumption) | (with_reducible refine Below.setCell ?_ ?_ _) | (with_reducible refine Below.alloc ?_ ?_ _) | (with_reducible refine Below.drew ?_) | (with_reducible refine below_drewN ?_ _) | (with_reducible exact Below.refl _ _) | (show _ ≤ _; (try simp); (try omega); done) | exact Below.refl _ _ | assumption))).trans HKB.out, hsm⟩
end bookD
end Go.Proofs.Ytdibfkcddcjiiaa
