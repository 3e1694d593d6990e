/- The bus as lists: what each call makes of them. Plain. No condition. -/
import Derived.Test.YtomkgnlooheibaaRing3
import Derived.Test.YtomkgnlooheibaaAllLaw
import Derived.Test.YtomkgnlooheibaaOrdLaw
namespace Go.Bus.busK
open Go.RowKit Go.Bus Go.Bus.ring3K Go.Bus.bitK Go.Bus.decK
set_option linter.unusedVariables false
set_option linter.unusedSimpArgs false
abbrev F3 := Int × Bool × List Int
abbrev FrOut := Except Err F3
structure Rl where
  wide : Bool
  code : Int
  mask : Int
def Rl.c (r : Rl) : List Value := [.bool r.wide, .int .u32 r.code, .int .u32 r.mask]
def Rl.hits (id : Int) (wide : Bool) (r : Rl) : Bool := r.wide == wide && (bits BinOp.and IntKind.u32 (bits BinOp.xor IntKind.u32 id r.code) r.mask == 0)
/-- Do rules take a frame? -/
def takesL (l : List Rl) (f : F3) : Bool := l.any (Rl.hits f.1 f.2.1) || l.isEmpty
structure Cn where
  sent : Int
  taken : Int
  refused : Int
  damaged : Int
  dropped : Int
def Cn.c (x : Cn) : List Value := [.int .i64 x.sent, .int .i64 x.taken, .int .i64 x.refused, .int .i64 x.damaged, .int .i64 x.dropped]
def inc (x : Int) : Int := wrap64 (x + 1)
structure ASt where
  out : List F3
  inn : List F3
  rules : List Rl
  cn : Cn
structure ALt where
  from_ : Int
  bits : List Bool
  twice : Bool
  by_ : Int
/-- A frame that may be sent. -/
def okF (f : F3) : Prop := 0 ≤ f.1 ∧ f.1 < (if f.2.1 = true then 536870912 else 2048) ∧ f.2.2.length ≤ 8 ∧ ∀ b ∈ f.2.2, 0 ≤ b ∧ b < 256
/-- A station hears what comes. -/
def hearA (room : Nat) (r : FrOut) (s : ASt) : ASt :=
  match r with
  | .error _ => { s with cn := { s.cn with damaged := inc s.cn.damaged } }
  | .ok f => if takesL s.rules f = false then { s with cn := { s.cn with refused := inc s.cn.refused } }
    else if s.inn.length = room then { s with cn := { s.cn with dropped := inc s.cn.dropped } }
    else { s with inn := s.inn ++ [f], cn := { s.cn with taken := inc s.cn.taken } }
def tellA (room : Nat) (from_ : Int) (r : FrOut) (A : List ASt) : List ASt := A.mapIdx fun i s => if (i : Int) = from_ then s else hearA room r s
def comesA (room : Nat) (A : List ASt) (x : ALt) : List ASt :=
  let r := decE x.bits
  let A1 := tellA room x.from_ r A
  if x.twice = true then tellA room x.from_ r A1 else A1
/-- The order of arbitration, as a number. -/
def ordA (f : F3) : Int := orderK.ord f.1 f.2.1
/-- The station whose frame goes, of the first k. -/
def firstA : List ASt → Nat → Option (Nat × F3)
  | _, 0 => none
  | A, k + 1 =>
    match A[k]? with
    | some s => match s.out, firstA A k with
      | [], r => r
      | f :: _, none => some (k, f)
      | f :: _, some (j, g) => if ordA f < ordA g then some (k, f) else some (j, g)
    | none => firstA A k
def flip1 (l : List Bool) (n : Int) : List Bool := if 0 ≤ n ∧ n < l.length then l.set n.toNat (!(l.getD n.toNat false)) else l
def flipL (l : List Bool) (flips : List Int) : List Bool := flips.foldl flip1 l
theorem flip1_length (l : List Bool) (n : Int) : (flip1 l n).length = l.length := by unfold flip1; split <;> simp
theorem flipL_length (l : List Bool) (flips : List Int) : (flipL l flips).length = l.length := by
  induction flips generalizing l with
  | nil => rfl
  | cons n t ih => rw [flipL, List.foldl_cons]; exact (ih _).trans (flip1_length l n)
structure AWire where
  lost : Bool
  twice : Bool
  late : Int
  flips : List Int
/-- One frame goes: what becomes of the stations, and what becomes late. -/
def goesA (room : Nat) (A : List ASt) (at_ : Nat) (f : F3) (w : AWire) : List ASt × List ALt :=
  match A[at_]? with
  | none => (A, [])
  | some s =>
    let A1 := A.set at_ { s with out := s.out.tail, cn := { s.cn with sent := inc s.cn.sent } }
    let x : ALt := ⟨at_, flipL (bitsF f.1 f.2.1 f.2.2) w.flips, w.twice, w.late⟩
    if w.lost = true then (A1, []) else if 0 < w.late then (A1, [x]) else (comesA room A1 x, [])
/-- What was late: what comes, what is late still. -/
def lateA (room : Nat) : List ALt → List ASt → List ASt × List ALt
  | [], A => (A, [])
  | x :: L, A =>
    let y := wrap64 (x.by_ - 1)
    if 0 < y then ((lateA room L A).1, { x with by_ := y } :: (lateA room L A).2) else lateA room L (comesA room A x)
structure ABus where
  st : List ASt
  late : List ALt
def tickA (room : Nat) (B : ABus) (w : AWire) : Option ABus :=
  match firstA B.st B.st.length with
  | none => if B.late = [] then none else some ⟨(lateA room B.late B.st).1, (lateA room B.late B.st).2⟩
  | some (i, f) =>
    let g := goesA room B.st i f w
    some ⟨(lateA room B.late g.1).1, (lateA room B.late g.1).2 ++ g.2⟩
/-- What is wrong with a frame; 0: nothing. -/
def frNo (f : F3) : Int := if 536870911 < f.1 ∨ (f.2.1 = false ∧ 2047 < f.1) then 26 else if 8 < f.2.2.length then 15 else 0
/-- The error of Send (0: none), and the stations behind it. -/
def sendA (room : Nat) (A : List ASt) (n : Int) (f : F3) : Int × List ASt :=
  if n < 0 then (1, A) else
  match A[n.toNat]? with
  | none => (1, A)
  | some s => if frNo f ≠ 0 then (frNo f, A) else if s.out.length = room then (24, A) else (0, A.set n.toNat { s with out := s.out ++ [f] })
theorem frNo_ok {f : F3} (h : frNo f = 0) (h0 : 0 ≤ f.1) (hb : ∀ b ∈ f.2.2, 0 ≤ b ∧ b < 256) : okF f := by
  unfold frNo at h
  split at h
  · cases h
  · rename_i h1
    split at h
    · cases h
    · rename_i h2
      refine ⟨h0, ?_, by omega, hb⟩
      cases hw : f.2.1 with
      | true => rw [if_pos rfl]; omega
      | false =>
        rw [if_neg (by simp)]
        have : ¬ 2047 < f.1 := fun h => h1 (.inr ⟨hw, h⟩)
        omega
theorem frNo_bad {f : F3} (h : frNo f ≠ 0) : (frNo f = 26 ∧ (536870911 < f.1 ∨ (f.2.1 = false ∧ 2047 < f.1))) ∨ (frNo f = 15 ∧ f.1 ≤ 536870911 ∧ (f.2.1 = false → f.1 ≤ 2047) ∧ 8 < f.2.2.length) := by
  unfold frNo at h ⊢
  split
  · rename_i h1; exact .inl ⟨rfl, h1⟩
  · rename_i h1
    split
    · rename_i h2
      refine .inr ⟨rfl, by omega, fun hw => ?_, h2⟩
      have : ¬ 2047 < f.1 := fun h => h1 (.inr ⟨hw, h⟩)
      omega
    · rename_i h2
      rw [if_neg h1, if_neg h2] at h
      exact absurd rfl h
theorem tellA_length (room : Nat) (from_ : Int) (r : FrOut) (A : List ASt) : (tellA room from_ r A).length = A.length := by simp [tellA]
theorem tellA_get (room : Nat) (from_ : Int) (r : FrOut) (A : List ASt) (k : Nat) : (tellA room from_ r A)[k]? = A[k]?.map fun s => if (k : Int) = from_ then s else hearA room r s := by simp [tellA]
theorem comesA_length (room : Nat) (A : List ASt) (x : ALt) : (comesA room A x).length = A.length := by unfold comesA; dsimp only; split <;> simp [tellA_length]
/-- The first k anew, the others as they were: one more. -/
theorem mix_set {α : Type} {X A : List α} {k : Nat} {x : α} (hl : X.length = A.length) (hx : X[k]? = some x) : (X.take k ++ A.drop k).set k x = X.take (k + 1) ++ A.drop (k + 1) := by
  have hk : k < X.length := (List.getElem?_eq_some_iff.1 hx).1
  have hk2 : k < A.length := by omega
  rw [List.set_append_right _ _ (by rw [List.length_take]; omega), List.length_take, Nat.min_eq_left (Nat.le_of_lt hk), Nat.sub_self, List.drop_eq_getElem_cons hk2, List.set_cons_zero, List.take_succ_eq_append_getElem hk, (List.getElem?_eq_some_iff.1 hx).2]
  simp
theorem mix_same {α : Type} {X A : List α} {k : Nat} {x : α} (hl : X.length = A.length) (hx : X[k]? = some x) (ha : A[k]? = some x) : X.take k ++ A.drop k = X.take (k + 1) ++ A.drop (k + 1) := by
  have hk : k < X.length := (List.getElem?_eq_some_iff.1 hx).1
  have hk2 : k < A.length := by omega
  rw [List.drop_eq_getElem_cons hk2, List.take_succ_eq_append_getElem hk, (List.getElem?_eq_some_iff.1 hx).2, (List.getElem?_eq_some_iff.1 ha).2]
  simp
theorem mix_get {α : Type} {X A : List α} {k : Nat} (hl : X.length = A.length) (hk : k < A.length) : (X.take k ++ A.drop k)[k]? = A[k]? := by
  rw [List.getElem?_append_right (by rw [List.length_take]; omega), List.length_take, Nat.min_eq_left (by omega), Nat.sub_self, List.getElem?_drop, Nat.add_zero]
end Go.Bus.busK
