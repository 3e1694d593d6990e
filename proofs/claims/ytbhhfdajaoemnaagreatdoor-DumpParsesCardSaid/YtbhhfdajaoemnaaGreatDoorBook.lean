/- busbarkit.Book's Bytes, Frame, Line: one list more. Condition: fewer than 10^9 lists. -/
import Derived.Test.YtbhhfdajaoemnaaGreatDoorCells
import Derived.Test.YtbhhfdajaoemnaaGreatDoorFarm2
import Derived.Test.YtbhhfdajaoemnaaGreatDoorDumpTx
import Derived.Test.YtbhhfdajaoemnaaGreatDoorProg
import Derived.ArgAppend
namespace Go.Proofs.YtbhhfdajaoemnaaGreatDoor
open Go.RowKit Go.Bus Go.Bus.cellK Go.Bus.dumpK
set_option linter.unusedVariables false
set_option linter.unusedSimpArgs false
namespace bookK
theorem infoRows : (Tryz.prog.info? 38).map (fun i => (i.zero, i.size, i.bytes)) = some (some (.slice none 0 0), 1, 24) := by kernel_rfl
/-- A Book with lists of bytes and of lines alone. -/
def bookC (vb vl : Value) : Array Value := #[vb, .slice none 0 0, .slice none 0 0, .slice none 0 0, .slice none 0 0, .slice none 0 0, .slice none 0 0, .slice none 0 0, .slice none 0 0, .slice none 0 0, .slice none 0 0, .slice none 0 0, .slice none 0 0, .slice none 0 0, vl]
structure Bk (w : World) (q : Nat) (vb vl : Value) (xs ys : List Value) : Prop where
  has : Has w q 68 (bookC vb vl)
  row : w.ownsRow q 38 1 vb xs.length xs
  row2 : w.ownsRow q 24 1 vl ys.length ys
theorem Bk.below {w w' : World} {q : Nat} {vb vl : Value} {xs ys : List Value} (h : Bk w q vb vl xs ys) (hb : Below w.heap.size w w') : Bk w' q vb vl xs ys := ⟨h.has.below hb h.has.lt, own_kept h.row hb, own_kept h.row2 hb⟩
def BkP (q : Nat) (vl : Value) (xs ys : List Value) (w : World) (e : Ending) (w' : World) : Prop := ∃ vb', e = .returned (.tuple #[]) ∧ Bk w' q vb' vl xs ys ∧ Below q w w'
set_option maxRecDepth 100000 in
set_option maxHeartbeats 2000000 in
theorem bytes_any (q : Nat) (vb vl : Value) (xs ys : List Value) (A : Option Addr) (n c : Nat) (w : World) (h : Bk w q vb vl xs ys) (hn : xs.length ≤ 1000000000) :
    Calls Tryz.prog 77 #[.pointer (some ⟨q, 0, none⟩), .slice A n c] w (BkP q vl (xs ++ [.slice A n c]) ys w) := by
  obtain ⟨i0, hi, hz0, hz1, hz2⟩ := info_parts infoRows
  have HB := Lib.hid h
  have c0 : w.cell? ⟨q, 0, none⟩ = some vb := h.has.cell 0
  have zq : q < w.heap.size := h.has.lt
  clear h
  go_enter Tryz.func77, Tryz.ntmps77
  go_wp2_with (at_builtin; refine wpList_append_own _ rfl _ _ 52 rfl q 38 i0 (.slice none 0 0) 1 24 Tryz.underlying52 hi hz0 hz1 hz2 rfl (by decide) _ _ _ rfl (HB.out.row.alloc _) ⟨w.heap.size, 0, none⟩ 1 1 [.slice A n c] rfl rfl (one_new w _ _) (by intro u hu; simp at hu; subst hu; rfl) (by unfold maxLen; omega) (by omega) (by simp; omega) ?_)
  intro v7 w7 ho7 hg7 _
  obtain ⟨g7, p7, rfl, -, -⟩ := own_form ho7 (by omega)
  have hne : (vb.ownBlock : Option Nat) ≠ some q := own_has_ne HB.out.row HB.out.has (by decide)
  have hq7 : Has w7 q 68 (bookC vb vl) := (HB.out.has.alloc _).grown hg7 (fun e => hne e.symm)
  have HQ7 := Lib.hid hq7
  have HO7 := Lib.hid ho7
  have HL7 := Lib.hid (show w7.ownsRow q 24 1 vl ys.length ys from (HB.out.row2.alloc _).kept hg7 (by
    cases hv : vl.ownBlock with
    | none => exact .inl rfl
    | some k => exact .inr (fun e => farmK.own_ne_own HB.out.row2 HB.out.row (by decide) k hv e.symm)))
  have HB7 := Lib.hid (Below.grown (((Below.refl w.heap.size w).alloc (Nat.le_refl _) (.cells #[.slice A n c] 38)).mono (Nat.le_of_lt zq)) hg7 (by simp; omega) fun r hr => (HB.out.row.lt r hr).1)
  have c7 : w7.cell? ⟨q, 0, none⟩ = some vb := hq7.cell 0
  have f7 : w7.frozen? ⟨q, 0, none⟩ = false := hq7.frozen 0
  have zq7 : q < w7.heap.size := hq7.lt
  clear ho7 hg7 hq7 hne
  go_wp2
  go_end0
  refine ⟨_, rfl, ⟨HQ7.out.set 0 _, ?_, ?_⟩, ?_⟩
  · rw [List.length_append]
    exact own_far HO7.out HQ7.out (by decide) (only_set (World.grownBy.refl _ _) 0 _)
  · exact own_far HL7.out HQ7.out (by decide) (only_set (World.grownBy.refl _ _) 0 _)
  · exact below_only HB7.out (only_set (World.grownBy.refl _ _) 0 _) (Nat.le_of_lt zq7) (Nat.le_refl _)
set_option maxRecDepth 100000 in
set_option maxHeartbeats 2000000 in
theorem frame_any (q : Nat) (vb vl : Value) (xs ys : List Value) (id : Int) (wide : Bool) (A : Option Addr) (n c : Nat) (w : World) (h : Bk w q vb vl xs ys) (hn : xs.length ≤ 1000000000) :
    Calls Tryz.prog 41 #[.pointer (some ⟨q, 0, none⟩), .agg #[.int .u32 id, .bool wide, .slice A n c]] w (BkP q vl (xs ++ [.slice A n c]) ys w) := by
  have HB := Lib.hid h
  have zq : q < w.heap.size := h.has.lt
  clear h
  go_enter Tryz.func41, Tryz.ntmps41
  go_wp2_with fail
  refine (bytes_any q vb vl xs ys A n c _ (HB.out.below (by repeat' (first | (with_reducible assumption) | (with_reducible refine Below.setCell ?_ ?_ _) | (with_reducible refine Below.alloc ?_ ?_ _) | (with_reducible refine Below.drew ?_) | (with_reducible refine below_drewN ?_ _) | (with_reducible exact Below.refl _ _) | (show _ ≤ _; (try simp); (try omega); done) | exact Below.refl _ _ | assumption))) hn).mono ?_
  rintro e w1 ⟨vb', rfl, hk, hb⟩
  have HK := Lib.hid hk
  have HB2 := Lib.hid hb
  clear hk hb
  go_wp2
  go_end0
  exact ⟨vb', rfl, HK.out, Below.trans (by have zz := zq; exact (Below.mono (by repeat' (first | (with_reducible assumption) | (with_reducible refine Below.setCell ?_ ?_ _) | (with_reducible refine Below.alloc ?_ ?_ _) | (with_reducible refine Below.drew ?_) | (with_reducible refine below_drewN ?_ _) | (with_reducible exact Below.refl _ _) | (show _ ≤ _; (try simp); (try omega); done) | exact Below.refl _ _ | assumption)) (Nat.le_of_lt zz))) HB2.out⟩
set_option maxRecDepth 100000 in
set_option maxHeartbeats 2000000 in
theorem line_any (q : Nat) (vb vl : Value) (xs ys : List Value) (t : Int) (p : ByteArray) (id : Int) (wide : Bool) (A : Option Addr) (n c : Nat) (w : World) (h : Bk w q vb vl xs ys) (hn : xs.length ≤ 1000000000) :
    Calls Tryz.prog 21 #[.pointer (some ⟨q, 0, none⟩), .agg #[.int .u64 t, .string p, .int .u32 id, .bool wide, .slice A n c]] w (BkP q vl (xs ++ [.slice A n c]) ys w) := by
  have HB := Lib.hid h
  have zq : q < w.heap.size := h.has.lt
  clear h
  go_enter Tryz.func21, Tryz.ntmps21
  go_wp2_with fail
  refine (frame_any q vb vl xs ys id wide A n c _ (HB.out.below (by repeat' (first | (with_reducible assumption) | (with_reducible refine Below.setCell ?_ ?_ _) | (with_reducible refine Below.alloc ?_ ?_ _) | (with_reducible refine Below.drew ?_) | (with_reducible refine below_drewN ?_ _) | (with_reducible exact Below.refl _ _) | (show _ ≤ _; (try simp); (try omega); done) | exact Below.refl _ _ | assumption))) hn).mono ?_
  rintro e w1 ⟨vb', rfl, hk, hb⟩
  have HK := Lib.hid hk
  have HB2 := Lib.hid hb
  clear hk hb
  go_wp2
  go_end0
  exact ⟨vb', rfl, HK.out, Below.trans (by have zz := zq; exact (Below.mono (by repeat' (first | (with_reducible assumption) | (with_reducible refine Below.setCell ?_ ?_ _) | (with_reducible refine Below.alloc ?_ ?_ _) | (with_reducible refine Below.drew ?_) | (with_reducible refine below_drewN ?_ _) | (with_reducible exact Below.refl _ _) | (show _ ≤ _; (try simp); (try omega); done) | exact Below.refl _ _ | assumption)) (Nat.le_of_lt zz))) HB2.out⟩
end bookK
end Go.Proofs.YtbhhfdajaoemnaaGreatDoor
