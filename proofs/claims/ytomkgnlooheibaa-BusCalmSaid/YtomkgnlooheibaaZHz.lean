/- Texts of this claim, one behind the other. No condition but those that each states. -/
import Derived.Test.YtomkgnlooheibaaZBz
import Derived.Deep.AppendLies
import Derived.Deep.RegionHeld3
import Derived.Test.YtomkgnlooheibaaNum

namespace Go.Proofs.Ytomkgnlooheibaa
open Go.RowKit Go.Bus Go.Bus.busK Go.Bus.decK Go.Bus.bitK Go.Bus.crcLaw
set_option linter.unusedVariables false
set_option linter.unusedSimpArgs false
namespace busM
abbrev SentL := List (Int × F3)
def StHon (T : SentL) (i : Nat) (s : ASt) : Prop := (∀ f ∈ s.out, ((i : Int), f) ∈ T ∧ okF f) ∧ ∀ f ∈ s.inn, ∃ j, j ≠ (i : Int) ∧ (j, f) ∈ T
def LtHon (T : SentL) (x : ALt) : Prop := ∃ f, (x.from_, f) ∈ T ∧ okF f ∧ x.bits.length = (bitsF f.1 f.2.1 f.2.2).length ∧ (diff (bitsF f.1 f.2.1 f.2.2) x.bits).count true ≤ 5
def StsHon (T : SentL) (A : List ASt) : Prop := ∀ (i : Nat) s, A[i]? = some s → StHon T i s
def Hon (T : SentL) (A : ABus) : Prop := StsHon T A.st ∧ ∀ x ∈ A.late, LtHon T x
section
variable {T T' : SentL} {A : List ASt} {room : Nat}
theorem StHon.mono {i : Nat} {s : ASt} (h : StHon T i s) (hT : ∀ x ∈ T, x ∈ T') : StHon T' i s :=
  ⟨fun f hf => ⟨hT _ (h.1 f hf).1, (h.1 f hf).2⟩, fun f hf => by obtain ⟨j, h1, h2⟩ := h.2 f hf; exact ⟨j, h1, hT _ h2⟩⟩
theorem Hon.mono {B : ABus} (h : Hon T B) (hT : ∀ x ∈ T, x ∈ T') : Hon T' B :=
  ⟨fun i s hi => (h.1 i s hi).mono hT, fun x hx => by obtain ⟨f, h1, h2⟩ := h.2 x hx; exact ⟨f, hT _ h1, h2⟩⟩
theorem hear_hon {i : Nat} {s : ASt} {r : FrOut} (h : StHon T i s) (hr : ∀ f, r = .ok f → ∃ j, j ≠ (i : Int) ∧ (j, f) ∈ T) : StHon T i (hearA room r s) := by
  unfold hearA
  cases r with
  | error x => exact h
  | ok f =>
    dsimp only
    split
    · exact h
    · split
      · exact h
      · refine ⟨h.1, fun g hg => ?_⟩
        rcases List.mem_append.1 hg with h1 | h1
        · exact h.2 g h1
        · simp at h1; subst h1; exact hr _ rfl
theorem tell_hon {from_ : Int} {r : FrOut} (h : StsHon T A) (hr : ∀ f, r = .ok f → (from_, f) ∈ T) : StsHon T (tellA room from_ r A) := by
  intro i s hi
  rw [tellA_get] at hi
  obtain ⟨s0, h0, rfl⟩ := Option.map_eq_some_iff.1 hi
  by_cases hf : (i : Int) = from_
  · rw [if_pos hf]; exact h i s0 h0
  · rw [if_neg hf]
    exact hear_hon (h i s0 h0) fun f e => ⟨from_, fun e => hf e.symm, hr f e⟩
theorem dec_hon {x : ALt} (h : LtHon T x) : ∀ f, decE x.bits = .ok f → (x.from_, f) ∈ T := by
  intro f hf
  obtain ⟨g, h1, h2, h3, h4⟩ := h
  by_cases he : x.bits = bitsF g.1 g.2.1 g.2.2
  · rw [he, dec_bits h2] at hf
    cases hf
    exact h1
  · obtain ⟨e, he⟩ := five_seen h2.2.2.1 h3 h4 he
    rw [he] at hf
    cases hf
theorem comes_hon {x : ALt} (h : StsHon T A) (hx : LtHon T x) : StsHon T (comesA room A x) := by
  unfold comesA
  dsimp only
  split
  · exact tell_hon (tell_hon h (dec_hon hx)) (dec_hon hx)
  · exact tell_hon h (dec_hon hx)
theorem late_hon : ∀ (L : List ALt) (A : List ASt), StsHon T A → (∀ x ∈ L, LtHon T x) → StsHon T (lateA room L A).1 ∧ ∀ x ∈ (lateA room L A).2, LtHon T x := by
  intro L
  induction L with
  | nil => intro A h _; exact ⟨h, by intro x hx; simp [lateA] at hx⟩
  | cons y t ih =>
    intro A h hL
    rw [lateA]
    split
    · obtain ⟨h1, h2⟩ := ih A h fun x hx => hL x (List.mem_cons_of_mem _ hx)
      refine ⟨h1, fun x hx => ?_⟩
      rcases List.mem_cons.1 hx with rfl | hx
      · exact hL y List.mem_cons_self
      · exact h2 x hx
    · exact ih _ (comes_hon h (hL y List.mem_cons_self)) fun x hx => hL x (List.mem_cons_of_mem _ hx)
theorem flip_count (X : List Bool) : ∀ (fl : List Int) (Y : List Bool), X.length = Y.length → (diff X (flipL Y fl)).count true ≤ (diff X Y).count true + fl.length := by
  intro fl
  induction fl with
  | nil => intro Y _; simp [flipL]
  | cons n t ih =>
    intro Y h
    have h1 := ih (flip1 Y n) (by rw [flip1_length]; exact h)
    have h2 : (diff X (flip1 Y n)).count true ≤ (diff X Y).count true + 1 := by
      unfold flip1
      split
      · exact diff_set X Y _ _ h
      · omega
    show (diff X (flipL (flip1 Y n) t)).count true ≤ _
    rw [List.length_cons]
    omega
theorem goes_hon {k : Nat} {f : F3} {w : AWire} {s : ASt} {rest : List F3} (h : StsHon T A) (hs : A[k]? = some s) (ho : s.out = f :: rest) (hw : w.flips.length ≤ 5) : StsHon T (goesA room A k f w).1 ∧ ∀ x ∈ (goesA room A k f w).2, LtHon T x := by
  have hk := h k s hs
  obtain ⟨hf1, hf2⟩ := hk.1 f (by rw [ho]; exact List.mem_cons_self)
  have hA1 : StsHon T (A.set k { s with out := s.out.tail, cn := { s.cn with sent := inc s.cn.sent } }) := by
    intro i t hi
    by_cases hki : k = i
    · subst hki
      rw [List.getElem?_set_self (List.getElem?_eq_some_iff.1 hs).1] at hi
      cases hi
      exact ⟨fun g hg => hk.1 g (List.mem_of_mem_tail hg), hk.2⟩
    · rw [List.getElem?_set_ne hki] at hi
      exact h i t hi
  have hlt : LtHon T ⟨(k : Int), flipL (bitsF f.1 f.2.1 f.2.2) w.flips, w.twice, w.late⟩ := by
    refine ⟨f, hf1, hf2, flipL_length _ _, ?_⟩
    have := flip_count (bitsF f.1 f.2.1 f.2.2) w.flips (bitsF f.1 f.2.1 f.2.2) rfl
    rw [diff_self] at this
    show (diff _ (flipL _ _)).count true ≤ 5
    omega
  unfold goesA
  rw [hs]
  dsimp only
  split
  · exact ⟨hA1, by intro x hx; cases hx⟩
  · split
    · refine ⟨hA1, fun x hx => ?_⟩
      simp at hx; subst hx; exact hlt
    · exact ⟨comes_hon hA1 hlt, by intro x hx; cases hx⟩
theorem first_head : ∀ (k : Nat) (j : Nat) (f : F3), firstA A k = some (j, f) → ∃ s rest, A[j]? = some s ∧ s.out = f :: rest := by
  intro k
  induction k with
  | zero => intro j f h; simp [firstA] at h
  | succ k ih =>
    intro j f h
    rw [firstA] at h
    cases hs : A[k]? with
    | none => rw [hs] at h; exact ih j f h
    | some s =>
      rw [hs] at h
      dsimp only at h
      cases ho : s.out with
      | nil => rw [ho] at h; exact ih j f h
      | cons g rest =>
        rw [ho] at h
        cases h0 : firstA A k with
        | none => rw [h0] at h; cases h; exact ⟨s, rest, hs, ho⟩
        | some y =>
          obtain ⟨j', g'⟩ := y
          rw [h0] at h
          dsimp only at h
          split at h
          · cases h; exact ⟨s, rest, hs, ho⟩
          · cases h; exact ih _ _ h0
theorem tick_hon {B B' : ABus} {w : AWire} (h : Hon T B) (hw : w.flips.length ≤ 5) (ht : tickA room B w = some B') : Hon T B' := by
  cases hf : firstA B.st B.st.length with
  | none =>
    rw [tickA_none hf] at ht
    split at ht
    · cases ht
    · cases ht
      exact late_hon _ _ h.1 h.2
  | some y =>
    obtain ⟨j, f⟩ := y
    rw [tickA_some hf] at ht
    cases ht
    obtain ⟨s, rest, hs, ho⟩ := first_head _ _ _ hf
    obtain ⟨g1, g2⟩ := goes_hon (room := room) h.1 hs ho hw
    obtain ⟨l1, l2⟩ := late_hon (room := room) _ _ g1 h.2
    refine ⟨l1, fun x hx => ?_⟩
    rcases List.mem_append.1 hx with h1 | h1
    · exact l2 x h1
    · exact g2 x h1
theorem send_hon {B : ABus} {n : Int} {f : F3} (h : Hon T B) (h0 : 0 ≤ f.1) (hb : ∀ b ∈ f.2.2, 0 ≤ b ∧ b < 256) (hs : (sendA room B.st n f).1 = 0) : Hon (T ++ [(n, f)]) ⟨(sendA room B.st n f).2, B.late⟩ := by
  have hm := h.mono (T' := T ++ [(n, f)]) fun x hx => List.mem_append_left _ hx
  unfold sendA at hs ⊢
  by_cases hn : n < 0
  · rw [if_pos hn] at hs; cases hs
  · rw [if_neg hn] at hs ⊢
    cases hA : B.st[n.toNat]? with
    | none => rw [hA] at hs; cases hs
    | some s =>
      rw [hA] at hs
      dsimp only at hs ⊢
      by_cases hno : frNo f ≠ 0
      · rw [if_pos hno] at hs; exact absurd hs hno
      · rw [if_neg hno] at hs ⊢
        by_cases hl : s.out.length = room
        · rw [if_pos hl] at hs; cases hs
        · rw [if_neg hl]
          have hok := frNo_ok (f := f) (by omega) h0 hb
          refine ⟨fun i t hi => ?_, hm.2⟩
          by_cases hki : n.toNat = i
          · subst hki
            dsimp only at hi
            rw [List.getElem?_set_self (List.getElem?_eq_some_iff.1 hA).1] at hi
            cases hi
            refine ⟨fun g hg => ?_, (hm.1 _ s hA).2⟩
            rcases List.mem_append.1 hg with h1 | h1
            · exact (hm.1 _ s hA).1 g h1
            · simp at h1; subst h1
              exact ⟨List.mem_append_right _ (by rw [show ((n.toNat : Nat) : Int) = n from by omega]; exact List.mem_singleton.2 rfl), hok⟩
          · dsimp only at hi
            rw [List.getElem?_set_ne hki] at hi
            exact hm.1 i t hi
theorem take_hon {B : ABus} {n : Int} (h : Hon T B) : Hon T ⟨(takeA B.st n).2.2, B.late⟩ ∧ ((takeA B.st n).1 = 0 → ∃ j, j ≠ n ∧ (j, (takeA B.st n).2.1) ∈ T) := by
  unfold takeA
  by_cases hn : n < 0
  · rw [if_pos hn]; exact ⟨h, by intro h; cases h⟩
  · rw [if_neg hn]
    cases hA : B.st[n.toNat]? with
    | none => exact ⟨h, by intro h; cases h⟩
    | some s =>
      dsimp only
      cases hi : s.inn with
      | nil => exact ⟨h, by intro h; cases h⟩
      | cons f rest =>
        have hs := h.1 _ s hA
        refine ⟨⟨fun i t ht => ?_, h.2⟩, fun _ => ?_⟩
        · by_cases hki : n.toNat = i
          · subst hki
            dsimp only at ht
            rw [List.getElem?_set_self (List.getElem?_eq_some_iff.1 hA).1] at ht
            cases ht
            exact ⟨hs.1, fun g hg => hs.2 g (by rw [hi]; exact List.mem_cons_of_mem _ hg)⟩
          · dsimp only at ht
            rw [List.getElem?_set_ne hki] at ht
            exact h.1 i t ht
        · obtain ⟨j, h1, h2⟩ := hs.2 f (by rw [hi]; exact List.mem_cons_self)
          exact ⟨j, fun e => h1 (by omega), h2⟩
theorem new_hon (rules : List (List Rl)) : Hon [] ⟨rules.map freshA, []⟩ := by
  refine ⟨fun i s hi => ?_, by intro x hx; cases hx⟩
  rw [List.getElem?_map] at hi
  obtain ⟨l, _, rfl⟩ := Option.map_eq_some_iff.1 hi
  exact ⟨(by intro f hf; cases hf), (by intro f hf; cases hf)⟩
end
end busM
end Go.Proofs.Ytomkgnlooheibaa

namespace Go.Proofs.Ytomkgnlooheibaa
open Go.RowKit Go.Bus Go.Bus.cellK Go.Bus.busK Go.Joins Go.ChangeShapes Go.WideShapes
set_option linter.unusedVariables false
set_option linter.unusedSimpArgs false
namespace busO
open busM
def byteE : Rel Int := fun _ _ cs x => cs = [.int .u8 x]
def intE : Rel Int := fun _ _ cs x => cs = [.int .i64 x]
theorem byteE_mono : Mono byteE := fun _ _ _ _ _ _ _ _ h => h
theorem intE_mono : Mono intE := fun _ _ _ _ _ _ _ _ h => h
def Byte (x : Int) : Prop := 0 ≤ x ∧ x < 256
def Int64 (x : Int) : Prop := -9223372036854775808 ≤ x ∧ x ≤ 9223372036854775807
/-- One cell an element: the short form. -/
theorem sl_of_slk {f : Int → Value} {R : Rel Int} {w : World} {B : Nat} {v : Value} {l : List Int} (hR : ∀ F cs x, R w F cs x → cs = [f x]) (h : SlK 1 R w (Old B) v l) : Sl w B f v l := by
  obtain ⟨xs, ⟨A, cap, rfl, h1, h2, hl, h0⟩, hx⟩ := h
  refine ⟨A, cap, rfl, h1, h2, fun hn => ?_⟩
  obtain ⟨b, off, rfl, hb, hr⟩ := h0 hn
  refine ⟨b, off, rfl, hb, fun i x hi => ?_⟩
  have he := hR _ _ _ (hx i x hi)
  have hg : (eltOf 1 xs i)[0]? = some (f x) := by rw [he]; rfl
  have := eltOf_get hg
  have := hr (i * 1 + 0) _ this.1
  simpa using this
structure FrD where
  id : Int
  wide : Bool
  bytes : List Int
def FrD.a (x : FrD) : F3 := (x.id, x.wide, x.bytes)
def FrD.Ok (x : FrD) : Prop := 0 ≤ x.id ∧ x.id < 4294967296 ∧ (∀ b ∈ x.bytes, Byte b) ∧ x.bytes.length ≤ 140737488351232
structure SntD where
  by_ : Int
  f : FrD
def sntE : Rel SntD := fun w F cs x => ∃ v, cs = [.int .i64 x.by_, .int .u32 x.f.id, .bool x.f.wide, v] ∧ SlK 1 byteE w F v x.f.bytes
theorem sntE_mono : Mono sntE := fun w w' F F' cs x hF hk ⟨v, e, h⟩ => ⟨v, e, h.keep byteE_mono hF hk⟩
def SntD.Ok (x : SntD) : Prop := Int64 x.by_ ∧ x.f.Ok
structure StpD where
  kind : Int
  stn : Int
  f : FrD
  lost : Bool
  twice : Bool
  late : Int
  flips : List Int
def stpE : Rel StpD := fun w F cs x => ∃ v u, cs = [.int .i64 x.kind, .int .i64 x.stn, .int .u32 x.f.id, .bool x.f.wide, v, .bool x.lost, .bool x.twice, .int .i64 x.late, u] ∧ SlK 1 byteE w F v x.f.bytes ∧ SlK 1 intE w F u x.flips
theorem stpE_mono : Mono stpE := fun w w' F F' cs x hF hk ⟨v, u, e, h, h'⟩ => ⟨v, u, e, h.keep byteE_mono hF hk, h'.keep intE_mono hF hk⟩
def StpD.Ok (x : StpD) : Prop := Int64 x.kind ∧ Int64 x.stn ∧ x.f.Ok ∧ Int64 x.late ∧ (∀ n ∈ x.flips, Int64 n) ∧ x.flips.length * 8 ≤ 140737488351232
section
variable {H : Type} {enc : TypeId × Value → H} {w : World} {r : Reach} {b0 : Nat} {n : Nat} {cs : List Value} {z : DataW H × List MemPlace}
theorem byte_el (hl : cs.length = 1) (h : DataW.trod enc Try.prog w 0 (fun _ => true) true n 5 cs = some z) (hw : ∀ q ∈ z.1.weights Try.prog 5, q ≤ reachBytes) : ∃ x, byteE w (Old w.heap.size) cs x ∧ Byte x := by
  obtain ⟨x, e, _, o⟩ := DataW.trod_int Try.underlying5 h
  exact ⟨x, e, wf_u8 o⟩
theorem int_el (hl : cs.length = 1) (h : DataW.trod enc Try.prog w 0 (fun _ => true) true n 3 cs = some z) (hw : ∀ q ∈ z.1.weights Try.prog 3, q ≤ reachBytes) : ∃ x, intE w (Old w.heap.size) cs x ∧ Int64 x := by
  obtain ⟨x, e, _, o⟩ := DataW.trod_int Try.underlying3 h
  exact ⟨x, e, wf_i64 o⟩
set_option maxRecDepth 100000 in
theorem rule_el (hl : cs.length = 3) (h : DataW.trod enc Try.prog w 0 (fun _ => true) true n 69 cs = some z) (hw : ∀ q ∈ z.1.weights Try.prog 69, q ≤ reachBytes) : ∃ x, ruleE w (Old w.heap.size) cs x ∧ True := by
  clear hl
  obtain ⟨hl, hf⟩ := field_of Try.underlying69 h hw
  rw [show Try.prog.cellsOf 69 = 3 from by kernel_rfl] at hl
  match cs, hl with
  | [c0, c1, c2], _ =>
    obtain ⟨y0, m0, g0, _⟩ := hf 0 4 0 1 rfl (by kernel_rfl)
    obtain ⟨wide, e0, _⟩ := DataW.trod_bool Try.underlying4 g0
    obtain rfl : c0 = .bool wide := by simpa using e0
    obtain ⟨y1, m1, g1, _⟩ := hf 1 32 1 1 rfl (by kernel_rfl)
    obtain ⟨code, e1, _, o1⟩ := DataW.trod_int Try.underlying32 g1
    obtain rfl : c1 = .int .u32 code := by simpa using e1
    obtain ⟨y2, m2, g2, _⟩ := hf 2 32 2 1 rfl (by kernel_rfl)
    obtain ⟨mask, e2, _, o2⟩ := DataW.trod_int Try.underlying32 g2
    obtain rfl : c2 = .int .u32 mask := by simpa using e2
    exact ⟨⟨wide, code, mask⟩, rfl, trivial⟩
theorem rules_el (hl : cs.length = 1) (h : DataW.trod enc Try.prog w 0 (fun _ => true) true n 57 cs = some z) (hw : ∀ q ∈ z.1.weights Try.prog 57, q ≤ reachBytes) : ∃ x, rowsE w (Old w.heap.size) cs x ∧ x.length * 12 ≤ 140737488351232 := by
  match cs, hl with
  | [v], _ =>
    obtain ⟨l, h1, _, h3⟩ := open_slk (R := ruleE) (Q := fun _ => True) Try.underlying57 (show Try.prog.cellsOf 69 = 3 from by kernel_rfl) (by decide) h hw (fun m cs z hl h hw => rule_el hl h hw)
    rw [show Try.prog.bytesOf 69 = 12 from by kernel_rfl] at h3
    exact ⟨l, ⟨v, rfl, h1⟩, h3⟩
set_option maxRecDepth 100000 in
theorem frame_el (h : DataW.trod enc Try.prog w 0 (fun _ => true) true n 35 cs = some z) (hw : ∀ q ∈ z.1.weights Try.prog 35, q ≤ reachBytes) : ∃ (x : FrD) (v : Value), cs = [.int .u32 x.id, .bool x.wide, v] ∧ SlK 1 byteE w (Old w.heap.size) v x.bytes ∧ x.Ok := by
  obtain ⟨hl, hf⟩ := field_of Try.underlying35 h hw
  rw [show Try.prog.cellsOf 35 = 3 from by kernel_rfl] at hl
  match cs, hl with
  | [c0, c1, c2], _ =>
    obtain ⟨y0, m0, g0, _⟩ := hf 0 32 0 1 rfl (by kernel_rfl)
    obtain ⟨id, e0, _, o0⟩ := DataW.trod_int Try.underlying32 g0
    obtain rfl : c0 = .int .u32 id := by simpa using e0
    obtain ⟨y1, m1, g1, _⟩ := hf 1 4 1 1 rfl (by kernel_rfl)
    obtain ⟨wide, e1, _⟩ := DataW.trod_bool Try.underlying4 g1
    obtain rfl : c1 = .bool wide := by simpa using e1
    obtain ⟨y2, m2, g2, w2⟩ := hf 2 33 2 1 rfl (by kernel_rfl)
    obtain ⟨bytes, s, q, o⟩ := open_slk (R := byteE) (Q := Byte) Try.underlying33 (show Try.prog.cellsOf 5 = 1 from by kernel_rfl) (by decide) g2 w2 (fun m cs z hl h hw => byte_el hl h hw)
    rw [show Try.prog.bytesOf 5 = 1 from by kernel_rfl] at o
    exact ⟨⟨id, wide, bytes⟩, _, rfl, s, ⟨(wf_u32 o0).1, (wf_u32 o0).2, q, by simpa using o⟩⟩
set_option maxRecDepth 100000 in
theorem wire_el (h : DataW.trod enc Try.prog w 0 (fun _ => true) true n 38 cs = some z) (hw : ∀ q ∈ z.1.weights Try.prog 38, q ≤ reachBytes) : ∃ (lost twice : Bool) (late : Int) (u : Value) (flips : List Int), cs = [.bool lost, .bool twice, .int .i64 late, u] ∧ SlK 1 intE w (Old w.heap.size) u flips ∧ Int64 late ∧ (∀ n ∈ flips, Int64 n) ∧ flips.length * 8 ≤ 140737488351232 := by
  obtain ⟨hl, hf⟩ := field_of Try.underlying38 h hw
  rw [show Try.prog.cellsOf 38 = 4 from by kernel_rfl] at hl
  match cs, hl with
  | [c0, c1, c2, c3], _ =>
    obtain ⟨y0, m0, g0, _⟩ := hf 0 4 0 1 rfl (by kernel_rfl)
    obtain ⟨lost, e0, _⟩ := DataW.trod_bool Try.underlying4 g0
    obtain rfl : c0 = .bool lost := by simpa using e0
    obtain ⟨y1, m1, g1, _⟩ := hf 1 4 1 1 rfl (by kernel_rfl)
    obtain ⟨twice, e1, _⟩ := DataW.trod_bool Try.underlying4 g1
    obtain rfl : c1 = .bool twice := by simpa using e1
    obtain ⟨y2, m2, g2, _⟩ := hf 2 3 2 1 rfl (by kernel_rfl)
    obtain ⟨late, e2, _, o2⟩ := DataW.trod_int Try.underlying3 g2
    obtain rfl : c2 = .int .i64 late := by simpa using e2
    obtain ⟨y3, m3, g3, w3⟩ := hf 3 36 3 1 rfl (by kernel_rfl)
    obtain ⟨flips, s, q, o⟩ := open_slk (R := intE) (Q := Int64) Try.underlying36 (show Try.prog.cellsOf 3 = 1 from by kernel_rfl) (by decide) g3 w3 (fun m cs z hl h hw => int_el hl h hw)
    rw [show Try.prog.bytesOf 3 = 8 from by kernel_rfl] at o
    exact ⟨lost, twice, late, _, flips, rfl, s, wf_i64 o2, q, o⟩
set_option maxRecDepth 100000 in
theorem step_el (hl : cs.length = 9) (h : DataW.trod enc Try.prog w 0 (fun _ => true) true n 40 cs = some z) (hw : ∀ q ∈ z.1.weights Try.prog 40, q ≤ reachBytes) : ∃ x, stpE w (Old w.heap.size) cs x ∧ x.Ok := by
  clear hl
  obtain ⟨hl, hf⟩ := field_of Try.underlying40 h hw
  rw [show Try.prog.cellsOf 40 = 9 from by kernel_rfl] at hl
  match cs, hl with
  | [c0, c1, c2, c3, c4, c5, c6, c7, c8], _ =>
    obtain ⟨y0, m0, g0, _⟩ := hf 0 3 0 1 rfl (by kernel_rfl)
    obtain ⟨kind, e0, _, o0⟩ := DataW.trod_int Try.underlying3 g0
    obtain rfl : c0 = .int .i64 kind := by simpa using e0
    obtain ⟨y1, m1, g1, _⟩ := hf 1 3 1 1 rfl (by kernel_rfl)
    obtain ⟨stn, e1, _, o1⟩ := DataW.trod_int Try.underlying3 g1
    obtain rfl : c1 = .int .i64 stn := by simpa using e1
    obtain ⟨y2, m2, g2, w2⟩ := hf 2 35 2 3 rfl (by kernel_rfl)
    obtain ⟨f, v, e2, sf, of_⟩ := frame_el g2 w2
    obtain ⟨rfl, rfl, rfl⟩ : c2 = .int .u32 f.id ∧ c3 = .bool f.wide ∧ c4 = v := by simpa using e2
    obtain ⟨y3, m3, g3, w3⟩ := hf 3 38 5 4 rfl (by kernel_rfl)
    obtain ⟨lost, twice, late, u, flips, e3, sw, ol, oq, ob⟩ := wire_el g3 w3
    obtain ⟨rfl, rfl, rfl, rfl⟩ : c5 = .bool lost ∧ c6 = .bool twice ∧ c7 = .int .i64 late ∧ c8 = u := by simpa using e3
    exact ⟨⟨kind, stn, f, lost, twice, late, flips⟩, ⟨_, _, rfl, sf, sw⟩, ⟨wf_i64 o0, wf_i64 o1, of_, ol, oq, ob⟩⟩
end
set_option maxRecDepth 100000 in
theorem open_rules {H : Type} {enc : TypeId × Value → H} {w : World} {r : Reach} {b0 : Nat} {v : Value} {d : DataW H} {p : List MemPlace} (hv : Value.okWide Try.prog w r b0 22 v)
    (h : DataW.Trod enc Try.prog w 0 (fun _ => true) true 22 v d p) (hw : ∀ m ∈ d.weights Try.prog 22, m ≤ reachBytes) :
    ∃ l : List (List Rl), SlK 1 rowsE w (Old w.heap.size) v l ∧ (∀ x ∈ l, x.length * 12 ≤ 140737488351232) ∧ l.length * 24 ≤ 140737488351232 := by
  obtain ⟨a0, n0, c0, rfl⟩ := Go.WideShapes.okWide_slice Try.underlying22 hv
  obtain ⟨m, hm⟩ := h
  obtain ⟨l, h1, h2, h3⟩ := open_slk (y := (d, p)) (R := rowsE) (Q := fun x => x.length * 12 ≤ 140737488351232) Try.underlying22 (show Try.prog.cellsOf 57 = 1 from by kernel_rfl) (by decide) hm hw (fun m cs z hl h hw => rules_el hl h hw)
  rw [show Try.prog.bytesOf 57 = 24 from by kernel_rfl] at h3
  exact ⟨l, h1, h2, h3⟩
set_option maxRecDepth 100000 in
theorem open_steps {H : Type} {enc : TypeId × Value → H} {w : World} {r : Reach} {b0 : Nat} {v : Value} {d : DataW H} {p : List MemPlace} (hv : Value.okWide Try.prog w r b0 23 v)
    (h : DataW.Trod enc Try.prog w 0 (fun _ => true) true 23 v d p) (hw : ∀ m ∈ d.weights Try.prog 23, m ≤ reachBytes) :
    ∃ l : List StpD, SlK 9 stpE w (Old w.heap.size) v l ∧ (∀ x ∈ l, x.Ok) := by
  obtain ⟨a0, n0, c0, rfl⟩ := Go.WideShapes.okWide_slice Try.underlying23 hv
  obtain ⟨m, hm⟩ := h
  obtain ⟨l, h1, h2, h3⟩ := open_slk (y := (d, p)) (R := stpE) (Q := StpD.Ok) Try.underlying23 (show Try.prog.cellsOf 40 = 9 from by kernel_rfl) (by decide) hm hw (fun m cs z hl h hw => step_el hl h hw)
  exact ⟨l, h1, h2⟩
end busO
end Go.Proofs.Ytomkgnlooheibaa

namespace Go.Proofs.Ytomkgnlooheibaa
open Go.RowKit Go.Bus Go.Bus.ringK Go.Bus.ring3K Go.Bus.busK Go.Bus.cellK Go.Bus.decK Go.Bus.bitK
set_option linter.unusedVariables false
set_option linter.unusedSimpArgs false
theorem Try.infoEInt : (Try.prog.info? 3).map (fun i => (i.zero, i.size, i.bytes)) = some (some (.int .i64 0), 1, 8) := by kernel_rfl
namespace busH
open busM busO qframe
set_option maxRecDepth 100000 in
set_option maxHeartbeats 1000000 in
theorem copy_bytes (v : Value) (l : List Int) (w : World) (h : Sl w w.heap.size (Value.int .u8) v l) (hn : l.length ≤ 140737488351232) :
    Calls Try.prog 30 #[v] w fun e w' => ∃ v', e = .returned v' ∧ w'.ownsRow w.heap.size tU 1 v' l.length (l.map (Value.int .u8)) ∧ Below w.heap.size w w' := by
  obtain ⟨i0, hi, hz0, hz1, hz2⟩ := info_parts Try.infoEU8
  obtain ⟨A, cap, rfl, hcap, hmax⟩ := h.form
  unfold maxLen at hmax
  have HL := Lib.hid h; clear h
  go_enter Try.func30, Try.ntmps30
  go_wp2
  go_loopw [4, 3] (fun i v' wr => ∃ (v : Value) (k : Nat), v = v' ∧ k ≤ l.length ∧ i = .int .i64 k ∧ Hid (wr.ownsRow w.heap.size tU 1 v k ((l.take k).map (Value.int .u8))) ∧ Below w.heap.size w wr) (fun i _ _ => l.length - (intOf i).toNat)
  case atStart => exact ⟨_, 0, rfl, Nat.zero_le _, rfl, Lib.hid (World.ownsRow_nil _ _ _ _), Below.refl _ _⟩
  case round =>
    obtain ⟨v, k, rfl, hk, rfl, hO, hB⟩ := hrel
    have hsz := hB.size
    by_cases hlt : k < l.length
    · obtain ⟨b, off, rfl, hb, hc⟩ := HL.out.at_ (A := A) hlt
      have q0 : wr.cell? ⟨b, off + k, none⟩ = some (.int .u8 l[k]) := (hB.cell (p := ⟨b, off + k, none⟩) hb).trans hc
      have hbr : b < wr.heap.size := by omega
      obtain ⟨x, hx⟩ : ∃ x, x = l[k] := ⟨_, rfl⟩
      rw [← hx] at q0
      have hstep : Hid ((l.take k).map (Value.int .u8) ++ [.int .u8 x] = (l.take (k + 1)).map (Value.int .u8)) := by
        unfold Hid
        rw [take_snoc l k hlt, List.map_append, hx]; rfl
      clear hc hx
      go_wp2_with (at_builtin; refine wpList_append_own _ rfl _ _ 33 rfl w.heap.size tU i0 (.int .u8 0) 1 1 Try.underlying33 hi hz0 hz1 hz2 rfl (by decide) _ k ((l.take k).map (Value.int .u8)) rfl (hO.out.alloc _) ⟨wr.heap.size, 0, none⟩ 1 1 [.int .u8 x] rfl rfl (one_new wr _ _) (by intro u hu; simp at hu; subst hu; rfl) (by unfold maxLen; omega) (by omega) (by simp; omega) ?_; intro v7 w7 ho7 hg7 _; have HO7 := Lib.hid (show w7.ownsRow w.heap.size tU 1 v7 (k + 1) ((l.take (k + 1)).map (Value.int .u8)) from by rw [← hstep.out]; exact ho7); have HB7 := Lib.hid (show Below w.heap.size w w7 from (hB.alloc hsz _).grown hg7 (by simp; omega) (fun r hr => (hO.out.lt r hr).1)); clear ho7 hg7)
      exact ⟨⟨_, k + 1, rfl, by omega, by go_num, HO7, HB7.out⟩, by simp [intOf]; omega⟩
    · obtain rfl : k = l.length := by omega
      have ho := hO.out
      rw [List.take_length] at ho
      have HO := Lib.hid ho
      clear ho
      go_wp2
      go_ret
      exact ⟨_, rfl, HO.out, hB⟩
set_option maxRecDepth 100000 in
set_option maxHeartbeats 1000000 in
theorem five_any (v : Value) (l : List Int) (w : World) (h : Sl w w.heap.size (Value.int .i64) v l) (hn : l.length ≤ 140737488351232) :
    Calls Try.prog 12 #[v] w fun e w' => ∃ v' , e = .returned v' ∧ w'.ownsRow w.heap.size 3 1 v' (l.take 5).length ((l.take 5).map (Value.int .i64)) ∧ Below w.heap.size w w' := by
  obtain ⟨i0, hi, hz0, hz1, hz2⟩ := info_parts Try.infoEInt
  obtain ⟨A, cap, rfl, hcap, hmax⟩ := h.form
  unfold maxLen at hmax
  have HL := Lib.hid h; clear h
  obtain ⟨n, hnn⟩ : ∃ n, n = (l.take 5).length := ⟨_, rfl⟩
  have hn5 : n ≤ 5 := by rw [hnn, List.length_take]; omega
  have hnl : n ≤ l.length := by rw [hnn, List.length_take]; omega
  have hne : n < 5 → n = l.length := by rw [hnn, List.length_take]; omega
  have HT : Hid (l.take n = l.take 5) := by
    unfold Hid
    rw [hnn, List.length_take]
    rcases Nat.le_total 5 l.length with h | h
    · rw [Nat.min_eq_left h]
    · rw [Nat.min_eq_right h, List.take_length, List.take_of_length_le h]
  rw [← hnn, ← HT.out]
  have HNN := Lib.hid hnn
  clear hnn
  go_enter Try.func12, Try.ntmps12
  go_wp2
  go_loopw [4, 3] (fun i v' wr => ∃ (v : Value) (k : Nat), v = v' ∧ k ≤ n ∧ i = .int .i64 k ∧ Hid (wr.ownsRow w.heap.size 3 1 v k ((l.take k).map (Value.int .i64))) ∧ Below w.heap.size w wr) (fun i _ _ => n - (intOf i).toNat)
  case atStart => exact ⟨_, 0, rfl, Nat.zero_le _, rfl, Lib.hid (World.ownsRow_nil _ _ _ _), Below.refl _ _⟩
  case round =>
    obtain ⟨v, k, rfl, hk, rfl, hO, hB⟩ := hrel
    have hsz := hB.size
    by_cases hlt : k < n
    · obtain ⟨b, off, rfl, hb, hc⟩ := HL.out.at_ (A := A) (show k < l.length by omega)
      have q0 : wr.cell? ⟨b, off + k, none⟩ = some (.int .i64 l[k]) := (hB.cell (p := ⟨b, off + k, none⟩) hb).trans hc
      have hbr : b < wr.heap.size := by omega
      obtain ⟨x, hx⟩ : ∃ x, x = l[k] := ⟨_, rfl⟩
      rw [← hx] at q0
      have hstep : Hid ((l.take k).map (Value.int .i64) ++ [.int .i64 x] = (l.take (k + 1)).map (Value.int .i64)) := by
        unfold Hid
        rw [take_snoc l k (by omega), List.map_append, hx]; rfl
      have t1 : decide ((k : Int) < (l.length : Int)) = true := decide_eq_true (by omega)
      have t2 : decide ((k : Int) < 5) = true := decide_eq_true (by omega)
      clear hc hx
      go_wp2_with (at_builtin; refine wpList_append_own _ rfl _ _ 36 rfl w.heap.size 3 i0 (.int .i64 0) 1 8 Try.underlying36 hi hz0 hz1 hz2 rfl (by decide) _ k ((l.take k).map (Value.int .i64)) rfl (hO.out.alloc _) ⟨wr.heap.size, 0, none⟩ 1 1 [.int .i64 x] rfl rfl (one_new wr _ _) (by intro u hu; simp at hu; subst hu; rfl) (by unfold maxLen; omega) (by omega) (by simp; omega) ?_; intro v7 w7 ho7 hg7 _; have HO7 := Lib.hid (show w7.ownsRow w.heap.size 3 1 v7 (k + 1) ((l.take (k + 1)).map (Value.int .i64)) from by rw [← hstep.out]; exact ho7); have HB7 := Lib.hid (show Below w.heap.size w w7 from (hB.alloc hsz _).grown hg7 (by simp; omega) (fun r hr => (hO.out.lt r hr).1)); clear ho7 hg7)
      exact ⟨⟨_, k + 1, rfl, by omega, by go_num, HO7, HB7.out⟩, by simp [intOf]; omega⟩
    · obtain rfl : k = n := by omega
      have HO := hO
      by_cases h5 : k = 5
      · obtain rfl : k = 5 := h5
        go_wp2
        all_goals
          go_ret
          exact ⟨v, rfl, (by first | exact HO.out | (rw [← List.map_take]; exact HO.out)), hB⟩
      · have t1 : decide ((k : Int) < (l.length : Int)) = false := decide_eq_false (by omega)
        go_wp2
        go_ret
        exact ⟨_, rfl, HO.out, hB⟩
set_option maxRecDepth 100000 in
set_option maxHeartbeats 1000000 in
theorem copy_frame (id : Int) (wide : Bool) (v : Value) (l : List Int) (w : World) (h : Sl w w.heap.size (Value.int .u8) v l) (hl : l.length ≤ 140737488351232) :
    Calls Try.prog 11 #[.agg #[.int .u32 id, .bool wide, v]] w fun e w' => ∃ v', e = .returned (.agg #[.int .u32 id, .bool wide, v']) ∧ w'.ownsRow w.heap.size tU 1 v' l.length (l.map (Value.int .u8)) ∧ Below w.heap.size w w' := by
  obtain ⟨A, cap, rfl, hcap, hmax⟩ := h.form
  unfold maxLen at hmax
  have HL := Lib.hid h; clear h
  go_enter Try.func11, Try.ntmps11
  go_wp2_with fail
  refine (copy_bytes _ l _ (by exact HL.out.at_below (by repeat' (first | (with_reducible assumption) | (with_reducible refine Below.setCell ?_ ?_ _) | (with_reducible refine Below.alloc ?_ ?_ _) | (with_reducible refine Below.drew ?_) | (with_reducible refine below_drewN ?_ _) | (with_reducible exact Below.refl _ _) | (show _ ≤ _; (try simp); (try omega); done) | exact Below.refl _ _ | assumption))) hl).mono ?_
  rintro e w1 ⟨v', rfl, hown, hb_w1⟩
  have hB1 : Below w.heap.size w w1 := Below.trans (b := _) (by repeat' (first | (with_reducible assumption) | (with_reducible refine Below.setCell ?_ ?_ _) | (with_reducible refine Below.alloc ?_ ?_ _) | (with_reducible refine Below.drew ?_) | (with_reducible refine below_drewN ?_ _) | (with_reducible exact Below.refl _ _) | (show _ ≤ _; (try simp); (try omega); done) | exact Below.refl _ _ | assumption)) (hb_w1.mono (by (try simp); (try omega)))
  have hz := hb_w1.size
  simp at hz
  have hR := ((has_new1 w (.cells #[.int .u32 id, .bool wide, .slice A l.length cap] 35) 35 #[.int .u32 0, .bool false, .slice none 0 0]).alloc (.cells #[.int .u32 id, .bool wide, .slice A l.length cap] 35)).below hb_w1 (by simp <;> omega)
  have hX := (show Has (((w.alloc (.cells #[.int .u32 id, .bool wide, .slice A l.length cap] 35)).alloc (.cells #[.int .u32 0, .bool false, .slice none 0 0] 35)).alloc (.cells #[.int .u32 id, .bool wide, .slice A l.length cap] 35)) (w.heap.size + 2) 35 #[.int .u32 id, .bool wide, .slice A l.length cap] from by have := Has.new ((w.alloc (.cells #[.int .u32 id, .bool wide, .slice A l.length cap] 35)).alloc (.cells #[.int .u32 0, .bool false, .slice none 0 0] 35)) 35 #[.int .u32 id, .bool wide, .slice A l.length cap]; simpa using this).below hb_w1 (by simp <;> omega)
  have r0 : w1.cell? ⟨w.heap.size + 1, 0, none⟩ = some (.int .u32 0) := (hR.cell 0).trans rfl
  have r1 : w1.cell? ⟨w.heap.size + 1, 1, none⟩ = some (.bool false) := (hR.cell 1).trans rfl
  have r2 : w1.cell? ⟨w.heap.size + 1, 2, none⟩ = some (.slice none 0 0) := (hR.cell 2).trans rfl
  have n0 : w1.cell? ⟨w.heap.size + 2, 0, none⟩ = some (.int .u32 id) := (hX.cell 0).trans rfl
  have n1 : w1.cell? ⟨w.heap.size + 2, 1, none⟩ = some (.bool wide) := (hX.cell 1).trans rfl
  have n2 : w1.cell? ⟨w.heap.size + 2, 2, none⟩ = some (.slice A l.length cap) := (hX.cell 2).trans rfl
  have rf := fun i => hR.frozen i
  have xf := fun i => hX.frozen i
  have hlt2 : w.heap.size + 1 < w1.heap.size := by omega
  have hlt3 : w.heap.size + 2 < w1.heap.size := by omega
  obtain ⟨A1, c1, rfl⟩ := decW.own_slice hown
  have HR := Lib.hid hR
  have HO := Lib.hid (own_base (base' := w.heap.size + 3) hown (by simp))
  clear hR hX hown hb_w1 hz
  go_wp2
  generalize hW : World.setCell _ _ _ = W
  have hres : Has W (w.heap.size + 1) 35 #[.int .u32 id, .bool wide, .slice A1 l.length c1] := by
    subst hW
    refine has_to (has_to (has_to (cs := #[.int .u32 0, .bool false, .slice none 0 0]) ?_ 0 _ rfl) 1 _ rfl) 2 _ rfl
    exact HR.out.far (p := ⟨w.heap.size + 2, 2, none⟩) (by simp) _
  have hkp : Below w.heap.size w W := by
    subst hW
    exact (by repeat' (first | (with_reducible assumption) | (with_reducible refine Below.setCell ?_ ?_ _) | (with_reducible refine Below.alloc ?_ ?_ _) | (with_reducible refine Below.drew ?_) | (with_reducible refine below_drewN ?_ _) | (with_reducible exact Below.refl _ _) | (show _ ≤ _; (try simp); (try omega); done) | exact Below.refl _ _ | assumption))
  have hown : W.ownsRow w.heap.size tU 1 (.slice A1 l.length c1) l.length (l.map (Value.int .u8)) := by
    subst hW
    refine own_base (base := w.heap.size + 3) ?_ (by omega)
    exact ownsRow_setCell_below (ownsRow_setCell_below (ownsRow_setCell_below (ownsRow_setCell_below HO.out (by simp) _) (by simp) _) (by simp) _) (by simp) _
  have s0 : W.cell? ⟨w.heap.size + 1, 0, none⟩ = some (.int .u32 id) := (hres.cell 0).trans rfl
  have s1 : W.cell? ⟨w.heap.size + 1, 1, none⟩ = some (.bool wide) := (hres.cell 1).trans rfl
  have s2 : W.cell? ⟨w.heap.size + 1, 2, none⟩ = some (.slice A1 l.length c1) := (hres.cell 2).trans rfl
  refine bodyPost_ret (v := .agg #[.int .u32 id, .bool wide, .slice A1 l.length c1]) (by simp [results, Try.results11, go_sem, s0, s1, s2]) rfl ?_
  exact ⟨_, rfl, hown, hkp⟩
def hit (n : Int) (id : Int) (wide : Bool) (l : List Int) (x : SntD) : Bool := (x.by_ != n) && decide (x.f.id = id ∧ x.f.wide = wide ∧ x.f.bytes = l)
set_option maxRecDepth 100000 in
set_option maxHeartbeats 2000000 in
theorem among_any (sv : Value) (L : List SntD) (n : Int) (id : Int) (wide : Bool) (v : Value) (l : List Int) (w : World) (hs : SlK 4 sntE w (Old w.heap.size) sv L) (h : Sl w w.heap.size (Value.int .u8) v l) :
    Calls Try.prog 15 #[sv, .int .i64 n, .agg #[.int .u32 id, .bool wide, v]] w fun e w' => e = .returned (.bool (L.any (hit n id wide l))) ∧ Below w.heap.size w w' := by
  obtain ⟨A, cap, rfl, hcap, hmax⟩ := hs.form
  obtain ⟨A2, cap2, rfl, hcap2, hmax2⟩ := h.form
  unfold maxLen at hmax
  have HS := Lib.hid hs
  have HV := Lib.hid h
  clear hs h
  go_enter Try.func15, Try.ntmps15
  go_wp2
  go_loopw [7] (fun i wr => ∃ k : Nat, k ≤ L.length ∧ i = .int .i64 k ∧ Hid ((L.take k).any (hit n id wide l) = false) ∧ Hid (Has wr w.heap.size 35 #[.int .u32 id, .bool wide, .slice A2 l.length cap2]) ∧ Below w.heap.size w wr) (fun i _ => L.length - (intOf i).toNat)
  case atStart => exact ⟨0, Nat.zero_le _, rfl, Lib.hid (by simp), Lib.hid (Has.new _ _ _), (by repeat' (first | (with_reducible assumption) | (with_reducible refine Below.setCell ?_ ?_ _) | (with_reducible refine Below.alloc ?_ ?_ _) | (with_reducible refine Below.drew ?_) | (with_reducible refine below_drewN ?_ _) | (with_reducible exact Below.refl _ _) | (show _ ≤ _; (try simp); (try omega); done) | exact Below.refl _ _ | assumption))⟩
  case round =>
    obtain ⟨k, hk, rfl, hno, hX, hB⟩ := hrel
    have hsz := hX.out.lt
    by_cases hlt : k < L.length
    · obtain ⟨b, off, cs, rfl, hb, hcl, hrg, hR⟩ := HS.out.at_ (A := A) hlt
      have hbl : b < w.heap.size := hb
      obtain ⟨x, hx⟩ : ∃ x, x = L[k] := ⟨_, rfl⟩
      rw [← hx] at hR
      have hstep : Hid (hit n id wide l x = false → (L.take (k + 1)).any (hit n id wide l) = false) := by
        intro hf
        rw [take_snoc L k hlt, List.any_append, hno.out, ← hx]
        simp [hf]
      have hyes : Hid (hit n id wide l x = true → L.any (hit n id wide l) = true) := fun hf => List.any_eq_true.2 ⟨x, by rw [hx]; exact List.getElem_mem hlt, hf⟩
      obtain ⟨dv, rfl, hdv⟩ := hR
      have e := fun (o : Nat) => hB.cell (p := ⟨b, o, none⟩) hbl
      have q0 : wr.cell? ⟨b, off + k * 4, none⟩ = some (.int .i64 x.by_) := (e _).trans (hrg 0 _ rfl)
      have q1 : wr.cell? ⟨b, off + k * 4 + 1, none⟩ = some (.int .u32 x.f.id) := (e _).trans (hrg 1 _ rfl)
      have q2 : wr.cell? ⟨b, off + k * 4 + 2, none⟩ = some (.bool x.f.wide) := (e _).trans (hrg 2 _ rfl)
      have q3 : wr.cell? ⟨b, off + k * 4 + 3, none⟩ = some dv := (e _).trans (hrg 3 _ rfl)
      obtain ⟨A4, c4, rfl, _, _⟩ := hdv.form
      have HDV := Lib.hid (sl_of_slk (f := Value.int .u8) (fun _ _ _ h => h) hdv)
      have x0 : wr.cell? ⟨w.heap.size, 0, none⟩ = some (.int .u32 id) := (hX.out.cell 0).trans rfl
      have x1 : wr.cell? ⟨w.heap.size, 1, none⟩ = some (.bool wide) := (hX.out.cell 1).trans rfl
      have x2 : wr.cell? ⟨w.heap.size, 2, none⟩ = some (.slice A2 l.length cap2) := (hX.out.cell 2).trans rfl
      have hbr : b < wr.heap.size := by omega
      have HB := Lib.hid hB
      clear hrg hcl hx hdv e
      by_cases hby : x.by_ = n
      · have d0 : (x.by_ != n) = false := by simp [hby]
        have hnh : Hid (hit n id wide l x = false) := by unfold Hid hit; rw [d0]; rfl
        clear hby
        go_wp2
        go_quiet (fail)
        go_wp2
        refine ⟨⟨k + 1, by omega, by go_num, Lib.hid (hstep.out hnh.out), Lib.hid (by exact hX.out), below_drewN HB.out _⟩, by simp [intOf]; omega⟩
      · have d0 : (x.by_ != n) = true := by simpa using hby
        have hhit : Hid (hit n id wide l x = decide (x.f.id = id ∧ x.f.wide = wide ∧ x.f.bytes = l)) := by unfold Hid hit; rw [d0, Bool.true_and]
        clear hby
        have hwr : Below w.heap.size w wr := HB.out
        go_wp2
        go_region_held3 (fun W => W.cell? ⟨b, off + k * 4, none⟩ = some (.int .i64 x.by_) ∧ W.cell? ⟨b, off + k * 4 + 1, none⟩ = some (.int .u32 x.f.id) ∧ W.cell? ⟨b, off + k * 4 + 2, none⟩ = some (.bool x.f.wide) ∧ W.cell? ⟨b, off + k * 4 + 3, none⟩ = some (.slice A4 x.f.bytes.length c4) ∧ W.cell? ⟨w.heap.size, 0, none⟩ = some (.int .u32 id) ∧ W.cell? ⟨w.heap.size, 1, none⟩ = some (.bool wide) ∧ W.cell? ⟨w.heap.size, 2, none⟩ = some (.slice A2 l.length cap2) ∧ w.heap.size < W.heap.size)
          (first | exact ⟨by exact q0, by exact q1, by exact q2, by exact q3, by exact x0, by exact x1, by exact x2, by exact hsz⟩ | exact ⟨by assumption, by assumption, by assumption, by assumption, by assumption, by assumption, by assumption, by assumption⟩)
          (first | (go_at_call 20; refine (sameW.frame_any _ _ _ _ _ _ x.f.bytes l _ (by exact HDV.out.at_below (by first | exact hwr.drew | exact hwr)) (by exact HV.out.at_below (by first | exact hwr.drew | exact hwr))).mono ?_; rintro e w3 ⟨rfl, hb3⟩; rw [← hhit.out]; (try go_split_ands); have hB3 := Lib.hid (show Below w.heap.size w w3 from Below.trans (by first | exact hwr.drew | exact hwr) (hb3.mono (Nat.le_of_lt hsz))); have hX3 := Lib.hid (show Has w3 w.heap.size 35 #[.int .u32 id, .bool wide, .slice A2 l.length cap2] from Has.below (by exact hX.out) hb3 (by exact hsz)); have y0 : w3.cell? ⟨b, off + k * 4, none⟩ = some (.int .i64 x.by_) := (hb3.cell (p := ⟨b, off + k * 4, none⟩) (by exact hbr)).trans (by exact q0); have y1 : w3.cell? ⟨b, off + k * 4 + 1, none⟩ = some (.int .u32 x.f.id) := (hb3.cell (p := ⟨b, off + k * 4 + 1, none⟩) (by exact hbr)).trans (by exact q1); have y2 : w3.cell? ⟨b, off + k * 4 + 2, none⟩ = some (.bool x.f.wide) := (hb3.cell (p := ⟨b, off + k * 4 + 2, none⟩) (by exact hbr)).trans (by exact q2); have y3 : w3.cell? ⟨b, off + k * 4 + 3, none⟩ = some (.slice A4 x.f.bytes.length c4) := (hb3.cell (p := ⟨b, off + k * 4 + 3, none⟩) (by exact hbr)).trans (by exact q3); have z0 : w3.cell? ⟨w.heap.size, 0, none⟩ = some (.int .u32 id) := (hX3.out.cell 0).trans rfl; have z1 : w3.cell? ⟨w.heap.size, 1, none⟩ = some (.bool wide) := (hX3.out.cell 1).trans rfl; have z2 : w3.cell? ⟨w.heap.size, 2, none⟩ = some (.slice A2 l.length cap2) := (hX3.out.cell 2).trans rfl; have z3 : w.heap.size < w3.heap.size := hX3.out.lt; clear hb3))
        cases hq : hit n id wide l x with
        | true =>
          have HQ := Lib.hid hq
          clear hq
          go_wp2
          go_ret
          exact ⟨ret_bool (hyes.out HQ.out).symm, hB3.out⟩
        | false =>
          have HQ := Lib.hid hq
          clear hq
          go_wp2
          exact ⟨⟨k + 1, by omega, by go_num, Lib.hid (hstep.out HQ.out), hX3, hB3.out⟩, by simp [intOf]; omega⟩
    · obtain rfl : k = L.length := by omega
      have hno' := hno.out
      rw [List.take_length] at hno'
      have HNO := Lib.hid hno'
      clear hno'
      go_wp2
      go_ret
      exact ⟨ret_bool HNO.out.symm, hB⟩
end busH
end Go.Proofs.Ytomkgnlooheibaa

namespace Go.Proofs.Ytomkgnlooheibaa
open Go.RowKit Go.Bus Go.Bus.ringK Go.Bus.ring3K Go.Bus.busK Go.Bus.cellK Go.Bus.decK Go.Bus.bitK
set_option linter.unusedVariables false
set_option linter.unusedSimpArgs false
theorem Try.infoESnt : (Try.prog.info? 44).map (fun i => (i.zero, i.size, i.bytes)) = some (some (.agg #[.int .i64 0, .int .u32 0, .bool false, .slice none 0 0]), 4, 40) := by kernel_rfl
namespace busH
open busM busO qframe
set_option maxRecDepth 100000 in
set_option maxHeartbeats 1000000 in
theorem num_nil (w : World) : Calls Try.prog 9 #[.nilIface] w fun e w' => e = .returned (.int .i64 0) ∧ w = w' := by
  go_enter Try.func9, Try.ntmps9
  go_wp2
  go_ret
  exact ⟨rfl, rfl⟩
abbrev tSn : TypeId := 44
structure SnV where
  x : SntD
  v : Value
def SnV.c (y : SnV) : List Value := [.int .i64 y.x.by_, .int .u32 y.x.f.id, .bool y.x.f.wide, y.v]
structure SentOk (w : World) (base : Nat) (tv : Value) (D : List SnV) : Prop where
  row : w.ownsRow base tSn 4 tv D.length (D.flatMap SnV.c)
  each : ∀ y ∈ D, w.ownsRow base tU 1 y.v y.x.f.bytes.length (y.x.f.bytes.map (Value.int .u8))
theorem SentOk.kept {w w' : World} {base : Nat} {tv : Value} {D : List SnV} {F : Nat → Prop} (h : SentOk w base tv D) (hk : Kp F w w') (hF : ∀ k t, F k → tyAt w k = some t → t ≠ tSn ∧ t ≠ tU) : SentOk w' base tv D :=
  ⟨hk.own h.row fun g hg hf => (hF g tSn hf (own_ty h.row hg)).1 rfl, fun y hy => hk.own (h.each y hy) fun g hg hf => (hF g tU hf (own_ty (h.each y hy) hg)).2 rfl⟩
theorem SentOk.below {w w' : World} {base : Nat} {tv : Value} {D : List SnV} (h : SentOk w base tv D) (hb : Below w.heap.size w w') : SentOk w' base tv D :=
  ⟨own_kept h.row hb, fun y hy => own_kept (h.each y hy) hb⟩
theorem SentOk.bus {room b : Nat} {w w' : World} {K : List Sk} {A : ABus} {base : Nat} {tv : Value} {D : List SnV} (h : SentOk w base tv D) (hb : BusIs room w b K A) (hk : Kp (busF b K) w w') : SentOk w' base tv D :=
  h.kept hk fun k t hf ht => by
    obtain ⟨t', h1, h2⟩ := hb.ty hf
    rw [ht] at h1
    cases h1
    simp at h2
    rcases h2 with rfl | rfl | rfl | rfl <;> decide
theorem flatS : ∀ (L : List SnV) (k : Nat) (y : SnV), L[k]? = some y → eltOf 4 (L.flatMap SnV.c) k = SnV.c y := by
  intro L
  induction L with
  | nil => intro k y h; simp at h
  | cons z t ih =>
    intro k y h
    cases k with
    | zero => simp at h; subst h; simp [eltOf, SnV.c]
    | succ k =>
      have h2 := ih k y (by simpa using h)
      unfold eltOf at h2 ⊢
      rw [← h2, List.flatMap_cons, show (k + 1) * 4 = (SnV.c z).length + k * 4 from by simp [SnV.c]; omega, ← List.drop_drop, List.drop_left]
theorem src_own {w : World} {base k n : Nat} {e : TypeId} {v : Value} {xs : List Value} (h : w.ownsRow base e k v n xs) : Src k w (Old w.heap.size) v n xs := by
  rcases h.2 with ⟨hv, h0⟩ | ⟨g, cap, cur, hv, hb, hg, hn, hm, hs, ht⟩
  · subst hv; subst h0
    have hx : xs = [] := List.eq_nil_of_length_eq_zero (by simpa using h.1)
    subst hx
    exact Src.nil_ k w _
  · refine ⟨_, cap, hv, hn, hm, h.1, fun _ => ⟨g, 0, rfl, ty_lt (own_ty h (by rw [hv]; rfl)), fun j u hj => ?_⟩⟩
    have h1 := h.cells (g := g) (by rw [hv]; rfl) j u hj
    rw [Addr.add_mid] at h1
    exact h1
theorem SentOk.sl {w : World} {base : Nat} {tv : Value} {D : List SnV} (h : SentOk w base tv D) : SlK 4 sntE w (Old w.heap.size) tv (D.map (·.x)) := by
  refine ⟨D.flatMap SnV.c, by rw [List.length_map]; exact src_own h.row, fun i x hi => ?_⟩
  rw [List.getElem?_map] at hi
  obtain ⟨y, hy, rfl⟩ := Option.map_eq_some_iff.1 hi
  rw [flatS D i y hy]
  refine ⟨y.v, rfl, ⟨_, src_own (h.each y (List.mem_of_getElem? hy)), fun j z hj => ?_⟩⟩
  exact part_one (by rw [List.getElem?_map, hj]; rfl)
def sentT (D : List SnV) : SentL := D.map fun y => (y.x.by_, y.x.f.a)
/-- What is among those that another one sent is found there. -/
theorem hit_of {D : List SnV} {n : Int} {f : F3} (h : ∃ j, j ≠ n ∧ (j, f) ∈ sentT D) : (D.map (·.x)).any (hit n f.1 f.2.1 f.2.2) = true := by
  obtain ⟨j, hj, hm⟩ := h
  obtain ⟨y, hy, e⟩ := List.mem_map.1 hm
  refine List.any_eq_true.2 ⟨y.x, List.mem_map.2 ⟨y, hy, rfl⟩, ?_⟩
  have e1 : y.x.by_ = j := congrArg (·.1) e
  have e2 : y.x.f.a = f := congrArg (·.2) e
  unfold hit
  rw [← e2, e1]
  simp [FrD.a, hj]
theorem fl_of_own {room b : Nat} {w : World} {K : List Sk} {A : ABus} {base : Nat} {v : Value} {l : List Int} (h : BusIs room w b K A) (ho : w.ownsRow base 3 1 v l.length (l.map (Value.int .i64))) : FlIs w K v l := by
  obtain ⟨xs, hA⟩ : ∃ x, x = src_own ho := ⟨_, rfl⟩
  have hs := Sl.of_own ho
  obtain ⟨A, cap, rfl, h1, h2, h3⟩ := hs
  refine ⟨A, cap, rfl, h1, h2, fun h0 => ?_⟩
  obtain ⟨g, off, rfl, hl, hc⟩ := h3 h0
  refine ⟨g, off, rfl, hl, fun hm => ?_, hc⟩
  obtain ⟨t, h4, h5⟩ := h.ty (.inr hm)
  have h6 : tyAt w g = some 3 := by
    rcases ho.2 with ⟨hv, _⟩ | ⟨g', c', cur, hv, _⟩
    · simp at hv
    · refine own_ty ho ?_
      have he : (g = g' ∧ off = 0) ∧ cap = c' := by simpa using hv
      rw [he.1.2]; rfl
  rw [h6] at h4
  cases h4
  exact absurd h5 (by decide)
/-- One more behind the row. -/
theorem SentOk.more {w w7 : World} {base : Nat} {tv v7 : Value} {D : List SnV} {y : SnV} {O : Obj} (h : SentOk w base tv D) (hy : w.ownsRow base tU 1 y.v y.x.f.bytes.length (y.x.f.bytes.map (Value.int .u8)))
    (ho7 : w7.ownsRow base tSn 4 v7 (D.length + 1) (D.flatMap SnV.c ++ SnV.c y)) (hg7 : (w.alloc O).grownBy w7 tv.ownBlock) : SentOk w7 base v7 (D ++ [y]) := by
  have hkp : Kp (fun j => tv.ownBlock = some j) w w7 := ((Kp.refl _ w).alloc _).grown hg7 fun j hj => .inl hj
  have hFt : ∀ j, tv.ownBlock = some j → tyAt w j = some tSn := fun j hj => own_ty h.row hj
  refine ⟨?_, fun z hz => ?_⟩
  · rw [List.length_append, List.flatMap_append]; simpa using ho7
  · rcases List.mem_append.1 hz with h1 | h1
    · exact hkp.own (h.each z h1) fun g hg hf => by have := own_ty (h.each z h1) hg; rw [hFt g hf] at this; exact absurd (Option.some.inj this) (by decide)
    · simp at h1; subst h1
      exact hkp.own hy fun g hg hf => by have := own_ty hy hg; rw [hFt g hf] at this; exact absurd (Option.some.inj this) (by decide)
/-- The length of what is late grows by one at most. -/
theorem late_len {room : Nat} : ∀ (L : List ALt) (A : List ASt), (lateA room L A).2.length ≤ L.length := by
  intro L
  induction L with
  | nil => intro A; simp [lateA]
  | cons y t ih =>
    intro A
    rw [lateA]
    split
    · simp [ih]
    · have := ih (comesA room A y); simp; omega
theorem goes_len {room : Nat} (A : List ASt) (k : Nat) (f : F3) (w : AWire) : (goesA room A k f w).2.length ≤ 1 := by
  unfold goesA
  split
  · simp
  · dsimp only
    split
    · simp
    · split <;> simp
theorem tick_len {room : Nat} {B B' : ABus} {w : AWire} (ht : tickA room B w = some B') : B'.late.length ≤ B.late.length + 1 := by
  cases hf : firstA B.st B.st.length with
  | none =>
    rw [tickA_none hf] at ht
    split at ht
    · cases ht
    · cases ht
      have := late_len (room := room) B.late B.st
      dsimp only
      omega
  | some y =>
    rw [tickA_some (i := y.1) (f := y.2) hf] at ht
    cases ht
    dsimp only
    rw [List.length_append]
    have h1 := late_len (room := room) B.late (goesA room B.st y.1 y.2 w).1
    have h2 := goes_len (room := room) B.st y.1 y.2 w
    omega
end busH
end Go.Proofs.Ytomkgnlooheibaa

namespace Go.Proofs.Ytomkgnlooheibaa
open Go.RowKit Go.Bus Go.Bus.busK Go.Bus.decK Go.Bus.bitK
set_option linter.unusedVariables false
set_option linter.unusedSimpArgs false
namespace busC
open busM
abbrev Snt := Int × F3
/-- No earlier one of the same sender. -/
def isHd (W : List Snt) (i : Nat) : Bool := match W[i]? with | none => false | some y => (W.take i).all fun z => z.1 != y.1
/-- One goes ahead of another: by its frame, then by its sender. -/
def lexLt (y z : Snt) : Prop := ordA y.2 < ordA z.2 ∨ (¬ ordA z.2 < ordA y.2 ∧ y.1 < z.1)
instance (y z : Snt) : Decidable (lexLt y z) := by unfold lexLt; infer_instance
/-- The place of the one that goes, of the first i. -/
def goesAt (W : List Snt) : Nat → Option Nat
  | 0 => none
  | i + 1 =>
    if isHd W i = true then
      match goesAt W i, W[i]? with
      | none, _ => some i
      | some a, some y => match W[a]? with
        | some z => if lexLt y z then some i else some a
        | none => some a
      | some a, none => some a
    else goesAt W i
theorem hd_at {W : List Snt} {i : Nat} (h : isHd W i = true) : ∃ y, W[i]? = some y ∧ ∀ j, j < i → ∀ z, W[j]? = some z → z.1 ≠ y.1 := by
  unfold isHd at h
  cases hi : W[i]? with
  | none => rw [hi] at h; cases h
  | some y =>
    rw [hi] at h
    refine ⟨y, rfl, fun j hj z hz => ?_⟩
    have h2 := List.all_eq_true.1 h z (List.mem_of_getElem? (i := j) (by rw [List.getElem?_take, if_pos hj]; exact hz))
    simpa using h2
/-- What the place that was found is: a head, ahead of all other heads so far. -/
theorem goesAt_is (W : List Snt) : ∀ i, i ≤ W.length → (i = 0 → goesAt W i = none) ∧ (0 < i → ∃ a y, goesAt W i = some a ∧ a < i ∧ W[a]? = some y ∧ isHd W a = true ∧ ∀ j, j < i → isHd W j = true → ∀ z, W[j]? = some z → ¬ lexLt z y) := by
  intro i
  induction i with
  | zero => intro _; exact ⟨fun _ => rfl, fun h => absurd h (Nat.lt_irrefl 0)⟩
  | succ i ih =>
    intro hi
    refine ⟨fun h => by omega, fun _ => ?_⟩
    obtain ⟨ih0, ih1⟩ := ih (by omega)
    obtain ⟨y, hy⟩ : ∃ y, W[i]? = some y := ⟨_, List.getElem?_eq_getElem (by omega)⟩
    by_cases hh : isHd W i = true
    · rw [goesAt, if_pos hh]
      rcases Nat.eq_zero_or_pos i with h0 | h0
      · subst h0
        rw [ih0 rfl]
        refine ⟨0, y, rfl, by omega, hy, hh, fun j hj _ z hz => ?_⟩
        obtain rfl : j = 0 := by omega
        rw [hy] at hz
        cases hz
        unfold lexLt
        omega
      · obtain ⟨a, z, ha, hai, hz, hza, hmin⟩ := ih1 h0
        rw [ha, hy]
        dsimp only
        rw [hz]
        dsimp only
        by_cases hl : lexLt y z
        · rw [if_pos hl]
          refine ⟨i, y, rfl, by omega, hy, hh, fun j hj hjh u hu => ?_⟩
          by_cases hji : j = i
          · subst hji
            rw [hy] at hu
            cases hu
            unfold lexLt
            omega
          · have := hmin j (by omega) hjh u hu
            unfold lexLt at *
            omega
        · rw [if_neg hl]
          refine ⟨a, z, rfl, by omega, hz, hza, fun j hj hjh u hu => ?_⟩
          by_cases hji : j = i
          · subst hji
            rw [hy] at hu
            cases hu
            exact hl
          · exact hmin j (by omega) hjh u hu
    · rw [goesAt, if_neg hh]
      have h0 : 0 < i := by
        rcases Nat.eq_zero_or_pos i with h0 | h0
        · subst h0
          exfalso
          apply hh
          unfold isHd
          rw [hy]
          simp
        · exact h0
      obtain ⟨a, z, ha, hai, hz, hza, hmin⟩ := ih1 h0
      refine ⟨a, z, ha, by omega, hz, hza, fun j hj hjh u hu => ?_⟩
      by_cases hji : j = i
      · subst hji; exact absurd hjh hh
      · exact hmin j (by omega) hjh u hu
def mine (i : Nat) (y : Snt) : Bool := y.1 == (i : Int)
def comesTo (i : Nat) (r : List Rl) (y : Snt) : Bool := y.1 != (i : Int) && takesL r y.2
structure Calm (rules : List (List Rl)) (W O : List Snt) (A : List ASt) : Prop where
  len : A.length = rules.length
  each : ∀ (i : Nat) s, A[i]? = some s → rules[i]? = some s.rules ∧ s.out = (W.filter (mine i)).map (·.2) ∧ s.inn = (O.filter (comesTo i s.rules)).map (·.2)
/-- The first of what a station sends is the head of that station. -/
theorem filter_head : ∀ (W : List Snt) (i a : Nat) (y : Snt), W[a]? = some y → mine i y = true → (∀ j, j < a → ∀ z, W[j]? = some z → mine i z = false) → ∃ rest, W.filter (mine i) = y :: rest ∧ (W.eraseIdx a).filter (mine i) = rest := by
  intro W
  induction W with
  | nil => intro i a y h; simp at h
  | cons x t ih =>
    intro i a y h hm hb
    cases a with
    | zero =>
      simp at h
      subst h
      exact ⟨t.filter (mine i), by rw [List.filter_cons, if_pos hm], rfl⟩
    | succ a =>
      have hx : mine i x = false := hb 0 (by omega) x rfl
      obtain ⟨rest, h1, h2⟩ := ih i a y (by simpa using h) hm fun j hj z hz => hb (j + 1) (by omega) z (by simpa using hz)
      refine ⟨rest, by rw [List.filter_cons, hx]; simpa using h1, ?_⟩
      rw [List.eraseIdx_cons_succ, List.filter_cons, hx]
      simpa using h2
theorem filter_other (W : List Snt) (i a : Nat) (y : Snt) (h : W[a]? = some y) (hm : mine i y = false) : (W.eraseIdx a).filter (mine i) = W.filter (mine i) := by
  induction W generalizing a with
  | nil => simp at h
  | cons x t ih =>
    cases a with
    | zero =>
      simp at h
      subst h
      rw [List.eraseIdx_cons_zero, List.filter_cons, hm]
      rfl
    | succ a =>
      rw [List.eraseIdx_cons_succ, List.filter_cons, List.filter_cons, ih a (by simpa using h)]
/-- A station that has something to send: its head. -/
theorem head_of : ∀ (W : List Snt) (i : Nat) (y : Snt) (rest : List Snt), W.filter (mine i) = y :: rest → ∃ a : Nat, W[a]? = some y ∧ mine i y = true ∧ ∀ j, j < a → ∀ z, W[j]? = some z → mine i z = false := by
  intro W
  induction W with
  | nil => intro i y rest h; simp at h
  | cons x t ih =>
    intro i y rest h
    by_cases hx : mine i x = true
    · rw [List.filter_cons, if_pos hx] at h
      cases h
      exact ⟨0, rfl, hx, fun j hj => by omega⟩
    · have hx' : mine i x = false := by simpa using hx
      rw [List.filter_cons, hx'] at h
      obtain ⟨a, h1, h2, h3⟩ := ih i y rest (by simpa using h)
      refine ⟨a + 1, by simpa using h1, h2, fun j hj z hz => ?_⟩
      cases j with
      | zero => simp at hz; subst hz; exact hx'
      | succ j => exact h3 j (by omega) z (by simpa using hz)
theorem hd_of {W : List Snt} {i a : Nat} {y : Snt} (h : W[a]? = some y) (hm : mine i y = true) (hb : ∀ j, j < a → ∀ z, W[j]? = some z → mine i z = false) : isHd W a = true := by
  unfold isHd
  rw [h]
  refine List.all_eq_true.2 fun z hz => ?_
  obtain ⟨j, hj⟩ := List.mem_iff_getElem?.1 hz
  rw [List.getElem?_take] at hj
  split at hj
  · rename_i hja
    have h1 := hb j hja z hj
    unfold mine at h1 hm
    simp at h1 hm ⊢
    rw [hm]
    exact h1
  · cases hj
/-- firstA: the least of the heads, by their order, then by their station. -/
theorem first_least {A : List ASt} : ∀ k, (firstA A k = none → ∀ i, i < k → ∀ s, A[i]? = some s → s.out = []) ∧ (∀ j f, firstA A k = some (j, f) → j < k ∧ ∀ i, i < k → ∀ s g rest, A[i]? = some s → s.out = g :: rest → ordA f < ordA g ∨ (ordA f = ordA g ∧ j ≤ i)) := by
  intro k
  induction k with
  | zero => exact ⟨fun _ i hi => by omega, fun j f h => by simp [firstA] at h⟩
  | succ k ih =>
    obtain ⟨ih0, ih1⟩ := ih
    cases hs : A[k]? with
    | none =>
      have e : firstA A (k + 1) = firstA A k := by rw [firstA, hs]
      rw [e]
      refine ⟨fun h i hi s hsi => ?_, fun j f h => ?_⟩
      · by_cases hik : i = k
        · subst hik; rw [hs] at hsi; cases hsi
        · exact ih0 h i (by omega) s hsi
      · obtain ⟨h1, h2⟩ := ih1 j f h
        refine ⟨by omega, fun i hi s g rest hsi ho => ?_⟩
        by_cases hik : i = k
        · subst hik; rw [hs] at hsi; cases hsi
        · exact h2 i (by omega) s g rest hsi ho
    | some s0 =>
      cases ho0 : s0.out with
      | nil =>
        rw [firstA_nil hs ho0]
        refine ⟨fun h i hi s hsi => ?_, fun j f h => ?_⟩
        · by_cases hik : i = k
          · subst hik; rw [hs] at hsi; cases hsi; exact ho0
          · exact ih0 h i (by omega) s hsi
        · obtain ⟨h1, h2⟩ := ih1 j f h
          refine ⟨by omega, fun i hi s g rest hsi ho => ?_⟩
          by_cases hik : i = k
          · subst hik; rw [hs] at hsi; cases hsi; rw [ho0] at ho; cases ho
          · exact h2 i (by omega) s g rest hsi ho
      | cons f0 rest0 =>
        cases h0 : firstA A k with
        | none =>
          rw [firstA_one hs ho0 h0]
          refine ⟨fun h => (by cases h), fun j f h => ?_⟩
          cases h
          refine ⟨by omega, fun i hi s g rest hsi ho => ?_⟩
          by_cases hik : i = k
          · subst hik; rw [hs] at hsi; cases hsi; rw [ho0] at ho; cases ho; exact .inr ⟨rfl, Nat.le_refl _⟩
          · have := ih0 h0 i (by omega) s hsi; rw [this] at ho; cases ho
        | some q =>
          obtain ⟨j0, g0⟩ := q
          obtain ⟨h1, h2⟩ := ih1 j0 g0 h0
          rw [firstA_two hs ho0 h0]
          refine ⟨fun h => (by split at h <;> cases h), fun j f h => ?_⟩
          by_cases hl : ordA f0 < ordA g0
          · rw [if_pos hl] at h
            cases h
            refine ⟨by omega, fun i hi s g rest hsi ho => ?_⟩
            by_cases hik : i = k
            · subst hik; rw [hs] at hsi; cases hsi; rw [ho0] at ho; cases ho; exact .inr ⟨rfl, Nat.le_refl _⟩
            · have := h2 i (by omega) s g rest hsi ho; omega
          · rw [if_neg hl] at h
            cases h
            refine ⟨by omega, fun i hi s g rest hsi ho => ?_⟩
            by_cases hik : i = k
            · subst hik; rw [hs] at hsi; cases hsi; rw [ho0] at ho; cases ho
              by_cases he : ordA g0 < ordA f0
              · exact .inl he
              · exact .inr ⟨by omega, by omega⟩
            · exact h2 i (by omega) s g rest hsi ho
theorem filter_snoc (O : List Snt) (p : Snt → Bool) (y : Snt) : (O ++ [y]).filter p = if p y = true then O.filter p ++ [y] else O.filter p := by
  rw [List.filter_append]
  split
  · rename_i h; rw [List.filter_cons, if_pos h]; rfl
  · rename_i h; rw [List.filter_cons, if_neg h]; simp
/-- One goes, on a calm wire. -/
theorem tick_calm {rules : List (List Rl)} {W O : List Snt} {A : List ASt} (h : Calm rules W O A) (hW : ∀ y ∈ W, 0 ≤ y.1 ∧ y.1 < (rules.length : Int) ∧ okF y.2) (hl : W.length + O.length < 64) (hne : 0 < W.length) :
    ∃ (a : Nat) (y : Snt) (A' : List ASt), goesAt W W.length = some a ∧ W[a]? = some y ∧ tickA 64 ⟨A, []⟩ ⟨false, false, 0, []⟩ = some ⟨A', []⟩ ∧ Calm rules (W.eraseIdx a) (O ++ [y]) A' := by
  obtain ⟨a, y, ha, hal, hy, hyh, hmin⟩ := (goesAt_is W W.length (Nat.le_refl _)).2 hne
  obtain ⟨y', hy', hb⟩ := hd_at hyh
  rw [hy] at hy'
  cases hy'
  obtain ⟨hy0, hy1, hyok⟩ := hW y (List.mem_of_getElem? hy)
  obtain ⟨i, hi⟩ : ∃ i : Nat, y.1 = (i : Int) := ⟨y.1.toNat, by omega⟩
  have hmi : mine i y = true := by unfold mine; simp [hi]
  have hbi : ∀ j, j < a → ∀ z, W[j]? = some z → mine i z = false := fun j hj z hz => by have := hb j hj z hz; unfold mine; simpa [hi] using this
  obtain ⟨rest, hf, hr⟩ := filter_head W i a y hy hmi hbi
  have hil : i < A.length := by rw [h.len]; omega
  obtain ⟨s, hs⟩ : ∃ s, A[i]? = some s := ⟨_, List.getElem?_eq_getElem hil⟩
  obtain ⟨hsr, hso, hsi⟩ := h.each i s hs
  rw [hf] at hso
  -- the station of the document of arbitration is the same
  have hfa : firstA A A.length = some (i, y.2) := by
    cases hq : firstA A A.length with
    | none =>
      have := (first_least (A := A) A.length).1 hq i hil s hs
      rw [this] at hso
      simp at hso
    | some q =>
      obtain ⟨j, f⟩ := q
      obtain ⟨hj, hlst⟩ := (first_least (A := A) A.length).2 j f hq
      obtain ⟨sj, restj, hsj, hoj⟩ := first_head _ _ _ hq
      have h1 := hlst i hil s y.2 (rest.map (·.2)) hs (by rw [hso]; rfl)
      obtain ⟨_, hjo, _⟩ := h.each j sj hsj
      rw [hoj] at hjo
      cases hfj : W.filter (mine j) with
      | nil => rw [hfj] at hjo; cases hjo
      | cons z zs =>
        rw [hfj] at hjo
        have hzf : z.2 = f := by simp at hjo; exact hjo.1.symm
        obtain ⟨c, hc, hcm, hcb⟩ := head_of W j z zs hfj
        have hch := hd_of hc hcm hcb
        have h2 := hmin c (List.getElem?_eq_some_iff.1 hc).1 hch z hc
        have hz1 : z.1 = (j : Int) := by unfold mine at hcm; simpa using hcm
        unfold lexLt at h2
        rw [hzf, hz1, hi] at h2
        have hji : j = i := by omega
        subst hji
        rw [hf] at hfj
        cases hfj
        rw [hzf]
  have hdec := dec_bits hyok
  refine ⟨a, y, tellA 64 (i : Int) (.ok y.2) (A.set i { s with out := s.out.tail, cn := { s.cn with sent := inc s.cn.sent } }), ha, hy, ?_, ?_⟩
  · rw [tickA_some (i := i) (f := y.2) hfa]
    have hg : goesA 64 A i y.2 ⟨false, false, 0, []⟩ = (tellA 64 (i : Int) (.ok y.2) (A.set i { s with out := s.out.tail, cn := { s.cn with sent := inc s.cn.sent } }), []) := by
      unfold goesA
      rw [hs]
      simp [comesA, flipL, hdec]
    simp only [hg]
    rfl
  · refine ⟨by rw [tellA_length, List.length_set]; exact h.len, fun k t ht => ?_⟩
    rw [tellA_get] at ht
    obtain ⟨t0, ht0, rfl⟩ := Option.map_eq_some_iff.1 ht
    by_cases hki : i = k
    · subst hki
      rw [List.getElem?_set_self hil] at ht0
      cases ht0
      rw [if_pos rfl]
      refine ⟨hsr, ?_, ?_⟩
      · show s.out.tail = _
        rw [hso, hr]
        rfl
      · show s.inn = _
        rw [hsi, filter_snoc, if_neg (by unfold comesTo; simp [hi])]
    · rw [List.getElem?_set_ne hki] at ht0
      obtain ⟨g1, g2, g3⟩ := h.each k t0 ht0
      rw [if_neg (by omega)]
      have hmk : mine k y = false := by unfold mine; simp [hi]; omega
      have hne2 : (y.1 != (k : Int)) = true := by simp [hi]; omega
      unfold hearA
      dsimp only
      by_cases htk : takesL t0.rules y.2 = false
      · rw [if_pos htk]
        refine ⟨g1, by rw [filter_other W k a y hy hmk]; exact g2, ?_⟩
        show t0.inn = _
        rw [g3, filter_snoc, if_neg (by unfold comesTo; simp [htk])]
      · rw [if_neg htk]
        have hlen : ¬ t0.inn.length = 64 := by
          rw [g3, List.length_map]
          have := List.length_filter_le (comesTo k t0.rules) O
          omega
        rw [if_neg hlen]
        refine ⟨g1, by rw [filter_other W k a y hy hmk]; exact g2, ?_⟩
        show t0.inn ++ [y.2] = _
        rw [g3, filter_snoc, if_pos (by unfold comesTo; rw [hne2]; simpa using htk)]
        simp
/-- Nothing waits: nothing goes. -/
theorem tick_idle {rules : List (List Rl)} {O : List Snt} {A : List ASt} (h : Calm rules [] O A) (w : AWire) : tickA 64 ⟨A, []⟩ w = none := by
  have hf : firstA A A.length = none := by
    cases hq : firstA A A.length with
    | none => rfl
    | some q =>
      obtain ⟨j, f⟩ := q
      obtain ⟨s, rest, hs, ho⟩ := first_head _ _ _ hq
      obtain ⟨_, h1, _⟩ := h.each j s hs
      rw [ho] at h1
      cases h1
  rw [tickA_none (B := ⟨A, []⟩) hf]
  rfl
theorem calm_new (rules : List (List Rl)) : Calm rules [] [] (rules.map freshA) := by
  refine ⟨List.length_map .., fun i s hi => ?_⟩
  rw [List.getElem?_map] at hi
  obtain ⟨l, hl, rfl⟩ := Option.map_eq_some_iff.1 hi
  exact ⟨hl, rfl, rfl⟩
theorem send_calm {rules : List (List Rl)} {W : List Snt} {A : List ASt} (h : Calm rules W [] A) (i : Nat) (hi : i < rules.length) (f : F3) (hW : W.length < 64) :
    (frNo f ≠ 0 → sendA 64 A (i : Int) f = (frNo f, A)) ∧ (frNo f = 0 → ∃ A', sendA 64 A (i : Int) f = (0, A') ∧ Calm rules (W ++ [((i : Int), f)]) [] A') := by
  have hil : i < A.length := by rw [h.len]; exact hi
  obtain ⟨s, hs⟩ : ∃ s, A[i]? = some s := ⟨_, List.getElem?_eq_getElem hil⟩
  obtain ⟨g1, g2, g3⟩ := h.each i s hs
  have hsnd : sendA 64 A (i : Int) f = if frNo f ≠ 0 then (frNo f, A) else if s.out.length = 64 then (24, A) else (0, A.set i { s with out := s.out ++ [f] }) := by
    unfold sendA
    rw [if_neg (by omega), Int.toNat_natCast, hs]
  refine ⟨fun hno => by rw [hsnd, if_pos hno], fun hno => ?_⟩
  have hlen : ¬ s.out.length = 64 := by
    rw [g2, List.length_map]
    have := List.length_filter_le (mine i) W
    omega
  refine ⟨A.set i { s with out := s.out ++ [f] }, by rw [hsnd, if_neg (by omega), if_neg hlen], ⟨by rw [List.length_set]; exact h.len, fun k t ht => ?_⟩⟩
  by_cases hki : i = k
  · subst hki
    rw [List.getElem?_set_self hil] at ht
    cases ht
    refine ⟨g1, ?_, g3⟩
    show s.out ++ [f] = _
    rw [g2, filter_snoc, if_pos (by unfold mine; simp)]
    simp
  · rw [List.getElem?_set_ne hki] at ht
    obtain ⟨k1, k2, k3⟩ := h.each k t ht
    refine ⟨k1, ?_, k3⟩
    rw [k2, filter_snoc, if_neg (by unfold mine; simp; omega)]
/-- What is taken: the stations ahead of k are done, of what came to k the first j of the order. -/
structure Tak (rules : List (List Rl)) (O : List Snt) (k j : Nat) (A : List ASt) : Prop where
  len : A.length = rules.length
  each : ∀ (i : Nat) s, A[i]? = some s → rules[i]? = some s.rules ∧ s.inn = if i < k then [] else if i = k then ((O.drop j).filter (comesTo k s.rules)).map (·.2) else (O.filter (comesTo i s.rules)).map (·.2)
theorem tak_of {rules : List (List Rl)} {O : List Snt} {A : List ASt} (h : Calm rules [] O A) : Tak rules O 0 0 A := by
  refine ⟨h.len, fun i s hi => ?_⟩
  obtain ⟨h1, _, h3⟩ := h.each i s hi
  refine ⟨h1, ?_⟩
  rw [h3, if_neg (by omega)]
  split
  · rename_i e; subst e; rfl
  · rfl
theorem tak_skip {rules : List (List Rl)} {O : List Snt} {A : List ASt} {k j : Nat} {r : List Rl} {y : Snt} (h : Tak rules O k j A) (hr : rules[k]? = some r) (hy : O[j]? = some y) (hc : comesTo k r y = false) : Tak rules O k (j + 1) A := by
  refine ⟨h.len, fun i s hi => ?_⟩
  obtain ⟨h1, h2⟩ := h.each i s hi
  refine ⟨h1, ?_⟩
  rw [h2]
  by_cases hik : i = k
  · subst hik
    rw [hr] at h1
    obtain rfl := Option.some.inj h1
    obtain ⟨hj, he⟩ := List.getElem?_eq_some_iff.1 hy
    rw [if_neg (by omega), if_pos rfl, if_neg (by omega), if_pos rfl, List.drop_eq_getElem_cons hj, he, List.filter_cons, hc]
    rfl
  · by_cases hl : i < k
    · rw [if_pos hl, if_pos hl]
    · rw [if_neg hl, if_neg hik, if_neg hl, if_neg hik]
theorem tak_take {rules : List (List Rl)} {O : List Snt} {A : List ASt} {k j : Nat} {r : List Rl} {y : Snt} (h : Tak rules O k j A) (hr : rules[k]? = some r) (hy : O[j]? = some y) (hc : comesTo k r y = true) : ∃ A', takeA A (k : Int) = (0, y.2, A') ∧ Tak rules O k (j + 1) A' := by
  have hkl : k < A.length := by rw [h.len]; exact (List.getElem?_eq_some_iff.1 hr).1
  obtain ⟨s, hs⟩ : ∃ s, A[k]? = some s := ⟨_, List.getElem?_eq_getElem hkl⟩
  obtain ⟨h1, h2⟩ := h.each k s hs
  rw [hr] at h1
  obtain rfl := Option.some.inj h1
  obtain ⟨hj, he⟩ := List.getElem?_eq_some_iff.1 hy
  rw [if_neg (by omega), if_pos rfl, List.drop_eq_getElem_cons hj, he, List.filter_cons, if_pos hc, List.map_cons] at h2
  refine ⟨A.set k { s with inn := ((O.drop (j + 1)).filter (comesTo k s.rules)).map (·.2) }, ?_, by rw [List.length_set]; exact h.len, fun i t ht => ?_⟩
  · unfold takeA
    rw [if_neg (by omega), Int.toNat_natCast, hs]
    dsimp only
    rw [h2]
  · by_cases hki : k = i
    · subst hki
      rw [List.getElem?_set_self hkl] at ht
      cases ht
      exact ⟨hr, by rw [if_neg (by omega), if_pos rfl]⟩
    · rw [List.getElem?_set_ne hki] at ht
      obtain ⟨g1, g2⟩ := h.each i t ht
      refine ⟨g1, ?_⟩
      rw [g2]
      by_cases hl : i < k
      · rw [if_pos hl, if_pos hl]
      · rw [if_neg hl, if_neg (fun e => hki e.symm), if_neg hl, if_neg (fun e => hki e.symm)]
theorem tak_end {rules : List (List Rl)} {O : List Snt} {A : List ASt} {k : Nat} (h : Tak rules O k O.length A) (hk : k < rules.length) : takeA A (k : Int) = (25, (0, false, []), A) ∧ Tak rules O (k + 1) 0 A := by
  have hkl : k < A.length := by rw [h.len]; exact hk
  obtain ⟨s, hs⟩ : ∃ s, A[k]? = some s := ⟨_, List.getElem?_eq_getElem hkl⟩
  obtain ⟨h1, h2⟩ := h.each k s hs
  rw [if_neg (by omega), if_pos rfl, List.drop_length] at h2
  refine ⟨?_, h.len, fun i t ht => ?_⟩
  · unfold takeA
    rw [if_neg (by omega), Int.toNat_natCast, hs]
    dsimp only
    rw [show s.inn = [] from h2]
  · obtain ⟨g1, g2⟩ := h.each i t ht
    refine ⟨g1, ?_⟩
    by_cases hl : i < k
    · rw [g2, if_pos hl, if_pos (by omega)]
    · by_cases hik : i = k
      · subst hik
        rw [hs] at ht
        cases ht
        rw [if_pos (by omega)]
        exact h2
      · rw [g2, if_neg hl, if_neg hik, if_neg (by omega)]
        split
        · rename_i e; subst e; rfl
        · rfl
end busC
end Go.Proofs.Ytomkgnlooheibaa

namespace Go.Proofs.Ytomkgnlooheibaa
open Go.RowKit Go.Bus Go.Bus.cellK Go.Bus.busK Go.Joins Go.ChangeShapes Go.WideShapes
set_option linter.unusedVariables false
set_option linter.unusedSimpArgs false
namespace busO
open busM
section
variable {H : Type} {enc : TypeId × Value → H} {w : World} {r : Reach} {b0 : Nat} {n : Nat} {cs : List Value} {z : DataW H × List MemPlace}
set_option maxRecDepth 100000 in
theorem snt_el (hl : cs.length = 4) (h : DataW.trod enc Try.prog w 0 (fun _ => true) true n 44 cs = some z) (hw : ∀ q ∈ z.1.weights Try.prog 44, q ≤ reachBytes) : ∃ x, sntE w (Old w.heap.size) cs x ∧ x.Ok := by
  clear hl
  obtain ⟨hl, hf⟩ := field_of Try.underlying44 h hw
  rw [show Try.prog.cellsOf 44 = 4 from by kernel_rfl] at hl
  match cs, hl with
  | [c0, c1, c2, c3], _ =>
    obtain ⟨y0, m0, g0, _⟩ := hf 0 3 0 1 rfl (by kernel_rfl)
    obtain ⟨by_, e0, _, o0⟩ := DataW.trod_int Try.underlying3 g0
    obtain rfl : c0 = .int .i64 by_ := by simpa using e0
    obtain ⟨y1, m1, g1, w1⟩ := hf 1 35 1 3 rfl (by kernel_rfl)
    obtain ⟨f, v, e1, sf, of_⟩ := frame_el g1 w1
    obtain ⟨rfl, rfl, rfl⟩ : c1 = .int .u32 f.id ∧ c2 = .bool f.wide ∧ c3 = v := by simpa using e1
    exact ⟨⟨by_, f⟩, ⟨_, rfl, sf⟩, ⟨wf_i64 o0, of_⟩⟩
end
set_option maxRecDepth 100000 in
theorem open_sents {H : Type} {enc : TypeId × Value → H} {w : World} {r : Reach} {b0 : Nat} {v : Value} {d : DataW H} {p : List MemPlace} (hv : Value.okWide Try.prog w r b0 31 v)
    (h : DataW.Trod enc Try.prog w 0 (fun _ => true) true 31 v d p) (hw : ∀ m ∈ d.weights Try.prog 31, m ≤ reachBytes) :
    ∃ l : List SntD, SlK 4 sntE w (Old w.heap.size) v l ∧ (∀ x ∈ l, x.Ok) := by
  obtain ⟨a0, n0, c0, rfl⟩ := Go.WideShapes.okWide_slice Try.underlying31 hv
  obtain ⟨m, hm⟩ := h
  obtain ⟨l, h1, h2, h3⟩ := open_slk (y := (d, p)) (R := sntE) (Q := SntD.Ok) Try.underlying31 (show Try.prog.cellsOf 44 = 4 from by kernel_rfl) (by decide) hm hw (fun m cs z hl h hw => snt_el hl h hw)
  exact ⟨l, h1, h2⟩
end busO
end Go.Proofs.Ytomkgnlooheibaa

namespace Go.Proofs.Ytomkgnlooheibaa
open Go.RowKit Go.Bus Go.Bus.ringK Go.Bus.ring3K Go.Bus.busK Go.Bus.cellK Go.Bus.decK Go.Bus.bitK
set_option linter.unusedVariables false
set_option linter.unusedSimpArgs false
namespace busW
open busM busO busH qframe
structure WtOk (w0 w : World) (tv : Value) (D : List SnV) : Prop where
  row : w.ownsRow w0.heap.size tSn 4 tv D.length (D.flatMap SnV.c)
  each : ∀ y ∈ D, SlK 1 byteE w0 (Old w0.heap.size) y.v y.x.f.bytes
  bel : Below w0.heap.size w0 w
theorem WtOk.nil_ {w0 w : World} (hb : Below w0.heap.size w0 w) : WtOk w0 w (.slice none 0 0) [] := ⟨World.ownsRow_nil _ _ _ _, (by intro y hy; cases hy), hb⟩
theorem WtOk.kept {w0 w w' : World} {tv : Value} {D : List SnV} {F : Nat → Prop} (h : WtOk w0 w tv D) (hk : Kp F w w') (hF : ∀ g, tv.ownBlock = some g → ¬ F g) (hb : Below w0.heap.size w0 w') : WtOk w0 w' tv D :=
  ⟨hk.own h.row hF, h.each, hb⟩
theorem WtOk.below {w0 w w' : World} {tv : Value} {D : List SnV} (h : WtOk w0 w tv D) (hb : Below w.heap.size w w') : WtOk w0 w' tv D :=
  ⟨own_kept h.row hb, h.each, h.bel.trans (hb.mono h.bel.size)⟩
/-- A call of the bus. -/
theorem WtOk.bus {room b : Nat} {w0 w w' : World} {K : List Sk} {A : ABus} {tv : Value} {D : List SnV} (h : WtOk w0 w tv D) (hb : BusIs room w b K A) (hk : Kp (busF b K) w w') (hK : ∀ j, busF b K j → w0.heap.size ≤ j) : WtOk w0 w' tv D :=
  h.kept hk (fun g hg hf => by
    obtain ⟨t', h1, h2⟩ := hb.ty hf
    rw [own_ty h.row hg] at h1
    cases h1
    exact absurd h2 (by decide)) (hk.to_below h.bel h.bel.size hK)
theorem WtOk.form {w0 w : World} {tv : Value} {D : List SnV} (h : WtOk w0 w tv D) : ∃ A cap, tv = .slice A D.length cap ∧ D.length ≤ cap ∧ cap ≤ maxLen := by
  obtain ⟨A, cap, hv, h1, h2, _⟩ := src_own h.row
  exact ⟨A, cap, hv, h1, h2⟩
theorem WtOk.sl {w0 w : World} {tv : Value} {D : List SnV} (h : WtOk w0 w tv D) : SlK 4 sntE w (Old w.heap.size) tv (D.map (·.x)) := by
  refine ⟨D.flatMap SnV.c, by rw [List.length_map]; exact src_own h.row, fun i x hi => ?_⟩
  rw [List.getElem?_map] at hi
  obtain ⟨y, hy, rfl⟩ := Option.map_eq_some_iff.1 hi
  rw [flatS D i y hy]
  exact ⟨y.v, rfl, SlK.later byteE_mono (h.each y (List.mem_of_getElem? hy)) h.bel⟩
theorem flat_drop : ∀ (D : List SnV) (k : Nat), (D.flatMap SnV.c).drop (k * 4) = (D.drop k).flatMap SnV.c := by
  intro D
  induction D with
  | nil => intro k; simp
  | cons y t ih =>
    intro k
    cases k with
    | zero => simp
    | succ k =>
      rw [List.flatMap_cons, show (k + 1) * 4 = (SnV.c y).length + k * 4 from by simp [SnV.c]; omega, ← List.drop_drop, List.drop_left, ih k]
      rfl
theorem flat_len (D : List SnV) : (D.flatMap SnV.c).length = D.length * 4 := by
  induction D with
  | nil => rfl
  | cons y t ih => rw [List.flatMap_cons, List.length_append, ih, List.length_cons]; simp [SnV.c]; omega
theorem flat_sub (D : List SnV) (lo m : Nat) {j : Nat} {u : Value} (h : (((D.drop lo).take m).flatMap SnV.c)[j]? = some u) : (D.flatMap SnV.c)[lo * 4 + j]? = some u := by
  have e : (D.drop lo).flatMap SnV.c = ((D.drop lo).take m).flatMap SnV.c ++ ((D.drop lo).drop m).flatMap SnV.c := by rw [← List.flatMap_append, List.take_append_drop]
  rw [← List.getElem?_drop, flat_drop, e, List.getElem?_append_left (List.getElem?_eq_some_iff.1 h).1]
  exact h
/-- A row that is not empty: its block. -/
theorem WtOk.at_ {w0 w : World} {tv : Value} {D : List SnV} (h : WtOk w0 w tv D) (hn : 0 < D.length) : ∃ g cap, tv = .slice (some ⟨g, 0, none⟩) D.length cap ∧ D.length ≤ cap ∧ cap ≤ maxLen ∧ w0.heap.size ≤ g ∧ g < w.heap.size ∧ ∀ (lo m j : Nat) u, (((D.drop lo).take m).flatMap SnV.c)[j]? = some u → w.cell? ⟨g, lo * 4 + j, none⟩ = some u := by
  obtain ⟨A, cap, hv, h1, h2⟩ := h.form
  have hr := h.row
  have hr2 := hr.2
  rcases hr2 with ⟨_, h0⟩ | ⟨g, cap', cur, hv', hg, _⟩
  · omega
  · rw [hv'] at hv
    obtain ⟨rfl, _, rfl⟩ : some (⟨g, 0, none⟩ : Addr) = A ∧ D.length = D.length ∧ cap' = cap := by simpa using hv
    refine ⟨g, cap', hv', h1, h2, hg, ty_lt (own_ty hr (by rw [hv']; rfl)), fun lo m j u hj => ?_⟩
    have := h.row.cells (g := g) (by rw [hv']; rfl) (lo * 4 + j) u (flat_sub D lo m hj)
    rw [Addr.add_mid] at this
    simpa using this
/-- The cells of an element, in its own row. -/
theorem WtOk.el {w0 w : World} {tv : Value} {D : List SnV} (h : WtOk w0 w tv D) {k : Nat} {y : SnV} (hy : D[k]? = some y) : ∃ g cap Ad cd, tv = .slice (some ⟨g, 0, none⟩) D.length cap ∧ D.length ≤ cap ∧ cap ≤ maxLen ∧ w0.heap.size ≤ g ∧ g < w.heap.size ∧ y.v = .slice Ad y.x.f.bytes.length cd ∧ w.cell? ⟨g, k * 4, none⟩ = some (.int .i64 y.x.by_) ∧ w.cell? ⟨g, k * 4 + 1, none⟩ = some (.int .u32 y.x.f.id) ∧ w.cell? ⟨g, k * 4 + 2, none⟩ = some (.bool y.x.f.wide) ∧ w.cell? ⟨g, k * 4 + 3, none⟩ = some (.slice Ad y.x.f.bytes.length cd) := by
  obtain ⟨hlt, he⟩ := List.getElem?_eq_some_iff.1 hy
  obtain ⟨g, cap, hv, h1, h2, h3, h4, h5⟩ := h.at_ (by omega)
  obtain ⟨Ad, cd, hvy, _, _⟩ := (h.each y (List.mem_of_getElem? hy)).form
  have e : ((D.drop k).take 1).flatMap SnV.c = SnV.c y := by
    rw [List.drop_eq_getElem_cons hlt, he]
    simp
  have h6 := h5 k 1
  rw [e] at h6
  refine ⟨g, cap, Ad, cd, hv, h1, h2, h3, h4, hvy, ?_, ?_, ?_, ?_⟩
  · exact h6 0 _ rfl
  · exact h6 1 _ rfl
  · exact h6 2 _ rfl
  · rw [← hvy]; exact h6 3 _ rfl
theorem WtOk.el_at {w0 w : World} {D : List SnV} {g n ct : Nat} (h : WtOk w0 w (.slice (some ⟨g, 0, none⟩) n ct) D) {k : Nat} {y : SnV} (hy : D[k]? = some y) {Ad : Option Addr} {l cd : Nat} (hv : y.v = .slice Ad l cd) : g < w.heap.size ∧ w.cell? ⟨g, k * 4, none⟩ = some (.int .i64 y.x.by_) ∧ w.cell? ⟨g, k * 4 + 1, none⟩ = some (.int .u32 y.x.f.id) ∧ w.cell? ⟨g, k * 4 + 2, none⟩ = some (.bool y.x.f.wide) ∧ w.cell? ⟨g, k * 4 + 3, none⟩ = some (.slice Ad l cd) := by
  obtain ⟨g', c', A', d', e1, _, _, _, hlt, e2, c0, c1, c2, c3⟩ := h.el hy
  obtain ⟨rfl, _, _⟩ : g = g' ∧ n = D.length ∧ ct = c' := by simpa using e1
  rw [← e2, hv] at c3
  exact ⟨hlt, c0, c1, c2, c3⟩
/-- Some behind the row. -/
theorem WtOk.more {w0 w w7 : World} {tv v7 : Value} {D E : List SnV} (h : WtOk w0 w tv D) (hE : ∀ y ∈ E, SlK 1 byteE w0 (Old w0.heap.size) y.v y.x.f.bytes)
    (ho7 : w7.ownsRow w0.heap.size tSn 4 v7 (D.length + E.length) (D.flatMap SnV.c ++ E.flatMap SnV.c)) (hb : Below w0.heap.size w0 w7) : WtOk w0 w7 v7 (D ++ E) := by
  refine ⟨?_, fun z hz => ?_, hb⟩
  · rw [List.length_append, List.flatMap_append]; exact ho7
  · rcases List.mem_append.1 hz with h1 | h1
    · exact h.each z h1
    · exact hE z h1
theorem WtOk.news {w0 w : World} {D : List SnV} {g ct n : Nat} (h : WtOk w0 w (.slice (some ⟨g, 0, none⟩) n ct) D) (hn : n = D.length) (h0 : 0 < D.length) : ∀ W, Below w.heap.size w W → ∀ (lo m j : Nat) (u : Value), (((D.drop lo).take m).flatMap SnV.c)[j]? = some u → W.cell? ⟨g, lo * 4 + j, none⟩ = some u := by
  intro W hW lo m j u hj
  obtain ⟨g', cap, hv, _, _, _, hlt, hc⟩ := h.at_ h0
  obtain ⟨rfl, _, _⟩ : g = g' ∧ n = D.length ∧ ct = cap := by simpa using hv
  exact (hW.cell (p := ⟨g, lo * 4 + j, none⟩) hlt).trans (hc lo m j u hj)
theorem WtOk.one {w0 w : World} {tv : Value} {D : List SnV} (h : WtOk w0 w tv D) {y : SnV} (hy : y ∈ D) : y.v.oneCell' = true := by
  obtain ⟨A, c, hv, _⟩ := (h.each y hy).form
  rw [hv]; rfl
theorem below_lit {w w' : World} {e : TypeId} {c : Nat} (h : (w.alloc (.cells #[] e)).grownBy w' (Value.ownBlock (.slice (some ⟨w.heap.size, 0, none⟩) 0 c))) : Below w.heap.size w w' :=
  ((Below.refl _ _).alloc (Nat.le_refl _) _).grown h (by simp) (fun r hr => by
    have e : w.heap.size = r := by simpa [Value.ownBlock] using hr
    omega)
theorem erase_parts {α : Type} (D : List α) (a : Nat) : D.take a ++ D.drop (a + 1) = D.eraseIdx a := (List.eraseIdx_eq_take_drop_succ ..).symm
theorem sent_erase (D : List SnV) (a : Nat) : sentT (D.eraseIdx a) = (sentT D).eraseIdx a := by
  rw [← erase_parts, ← erase_parts]
  simp [sentT]
/-- What stands behind place a, as the code cuts it. -/
theorem cut_news {W : World} {D : List SnV} {g ct a : Nat} {q : Addr} (hq : (if ct = a + 1 then some (⟨g, 0, none⟩ : Addr) else some ⟨g, (a + 1) * 4, none⟩) = some q) (hl : D.length ≤ ct) (hN : ∀ (lo m j : Nat) (u : Value), (((D.drop lo).take m).flatMap SnV.c)[j]? = some u → W.cell? ⟨g, lo * 4 + j, none⟩ = some u) : ∀ (j : Nat) (u : Value), ((D.drop (a + 1)).flatMap SnV.c)[j]? = some u → W.cell? (q.add j) = some u := by
  intro j u hj
  by_cases hc : ct = a + 1
  · rw [List.drop_eq_nil_of_le (by omega)] at hj
    simp at hj
  · rw [if_neg hc] at hq
    obtain rfl := Option.some.inj hq
    rw [Addr.add_mid]
    refine hN (a + 1) D.length j u ?_
    rw [List.take_of_length_le (by rw [List.length_drop]; omega)]
    exact hj
/-- One of those that wait is taken out: two appends behind an empty literal. -/
theorem wait_less {b : Nat} {K : List Sk} {w0 w7 w8 w9 : World} {tv ov v8 v9 : Value} {D O : List SnV} {A : List ASt} {a : Nat} (h7 : BusIs 64 w7 b K ⟨A, []⟩ ∧ WtOk w0 w7 tv D ∧ WtOk w0 w7 ov O) (ha : a < D.length) (hb8 : Below w7.heap.size w7 w8) (h8 : w8.ownsRow w7.heap.size tSn 4 v8 a ((D.take a).flatMap SnV.c))
    (ho9 : w9.ownsRow w7.heap.size tSn 4 v9 (a + (D.length - (a + 1))) ((D.take a).flatMap SnV.c ++ (D.drop (a + 1)).flatMap SnV.c)) (hg9 : w8.grownBy w9 v8.ownBlock) :
    BusIs 64 w9 b K ⟨A, []⟩ ∧ WtOk w0 w9 v9 (D.eraseIdx a) ∧ WtOk w0 w9 ov O ∧ ∀ g, v9.ownBlock = some g → ov.ownBlock ≠ some g := by
  obtain ⟨h1, h2, h3⟩ := h7
  have hb9 : Below w7.heap.size w7 w9 := hb8.grown hg9 hb8.size (fun r hr => (h8.lt r hr).1)
  refine ⟨h1.below hb9, ⟨?_, fun y hy => h2.each y (List.mem_of_mem_eraseIdx hy), h2.bel.trans (hb9.mono h2.bel.size)⟩, h3.below hb9, fun g hg ho => ?_⟩
  · rw [← erase_parts, List.flatMap_append, List.length_append, List.length_take, List.length_drop, Nat.min_eq_left (Nat.le_of_lt ha)]
    exact own_base ho9 h2.bel.size
  · have k1 := (ho9.lt g hg).1
    have k2 := ty_lt (own_ty h3.row ho)
    omega
end busW
end Go.Proofs.Ytomkgnlooheibaa
