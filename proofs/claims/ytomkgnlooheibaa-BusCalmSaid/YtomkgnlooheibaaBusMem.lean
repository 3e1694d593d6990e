/- The bus as it lies in memory: stations, their rings, what is late; what a call may turn of it. No condition. -/
import Derived.Test.YtomkgnlooheibaaBusLaw
import Derived.Test.YtomkgnlooheibaaQueueFrame
import Derived.Test.YtomkgnlooheibaaCells
namespace Go.Proofs.Ytomkgnlooheibaa
open Go.RowKit Go.Bus Go.Bus.ringK Go.Bus.ring3K Go.Bus.busK
set_option linter.unusedVariables false
set_option linter.unusedSimpArgs false
namespace busM
open qframe
abbrev tS : TypeId := 81
abbrev tQ : TypeId := 99
abbrev tF : TypeId := 35
abbrev tR : TypeId := 69
abbrev tU : TypeId := 5
abbrev tB : TypeId := 74
abbrev tP : TypeId := 78
abbrev tL : TypeId := 91
abbrev tBo : TypeId := 4
/-- The type of what a block holds. -/
def tyAt (w : World) (k : Nat) : Option TypeId := match w.heap[k]? with | some (.cells _ t _) => some t | _ => none
section
variable {w w' : World}
theorem has_ty {g : Nat} {t : TypeId} {cs : Array Value} (h : Has w g t cs) : tyAt w g = some t := by unfold Has at h; unfold tyAt; rw [h]
theorem own_ty {base size n : Nat} {e : TypeId} {v : Value} {xs : List Value} (h : w.ownsRow base e size v n xs) {g : Nat} (hg : v.ownBlock = some g) : tyAt w g = some e := by
  rcases h.2 with ⟨rfl, _⟩ | ⟨g', cap, cur, rfl, _, hh, _⟩
  · simp [Value.ownBlock] at hg
  · have : g' = g := by simpa [Value.ownBlock] using hg
    subst this
    unfold tyAt; rw [hh]
theorem ty_lt {g : Nat} {t : TypeId} (h : tyAt w g = some t) : g < w.heap.size := by
  rcases Nat.lt_or_ge g w.heap.size with h1 | h1
  · exact h1
  · unfold tyAt at h; rw [Array.getElem?_eq_none h1] at h; cases h
theorem own_at {base size n : Nat} {e : TypeId} {v : Value} {xs : List Value} (ho : w.ownsRow base e size v n xs) (hk : ∀ g, v.ownBlock = some g → w'.heap[g]? = w.heap[g]?) : w'.ownsRow base e size v n xs := by
  refine ⟨ho.1, ?_⟩
  rcases ho.2 with hn | ⟨g, cap, cur, rfl, hbb, hgg, rest⟩
  · exact .inl hn
  · exact .inr ⟨g, cap, cur, rfl, hbb, (hk g rfl).trans hgg, rest⟩
theorem ring_ty {q g room f : Nat} {L : List Fr} (h : RingF w q g room f L) : tyAt w q = some tQ ∧ tyAt w g = some tF := by
  obtain ⟨cs, hc, _, _⟩ := h.row
  exact ⟨has_ty h.struct_, has_ty hc⟩
end
def frA (x : Fr) : F3 := (x.id, x.wide, x.bytes)
def FrOk (w : World) (x : Fr) : Prop := w.ownsRow 0 tU 1 x.data x.bytes.length (x.bytes.map (Value.int .u8)) ∧ okF (frA x)
structure Stn where
  box : Nat
  qo : Nat
  ro : Nat
  fo : Nat
  qi : Nat
  ri : Nat
  fi : Nat
  out : List Fr
  inn : List Fr
  rv : Value
  rules : List Rl
  cn : Cn
def Stn.a (s : Stn) : ASt := ⟨s.out.map frA, s.inn.map frA, s.rules, s.cn⟩
def blk (s : Stn) : List Nat := s.inn.filterMap (·.data.ownBlock)
abbrev Sk := Nat × Nat × Nat × Nat × Nat
def skel (s : Stn) : Sk := (s.box, s.qo, s.qi, s.ro, s.ri)
def mut1 (t : Sk) (k : Nat) : Prop := k = t.1 ∨ k = t.2.1 ∨ k = t.2.2.1 ∨ k = t.2.2.2.1 ∨ k = t.2.2.2.2
def mutK (K : List Sk) (k : Nat) : Prop := ∃ t ∈ K, mut1 t k
abbrev mutS (S : List Stn) (k : Nat) : Prop := mutK (S.map skel) k
def Stn.foot (s : Stn) (k : Nat) : Prop := mut1 (skel s) k ∨ s.rv.ownBlock = some k ∨ (∃ x ∈ s.out, x.data.ownBlock = some k) ∨ ∃ x ∈ s.inn, x.data.ownBlock = some k
def stC (s : Stn) : Array Value := #[.pointer (some ⟨s.qo, 0, none⟩), .pointer (some ⟨s.qi, 0, none⟩), s.rv, .int .i64 s.cn.sent, .int .i64 s.cn.taken, .int .i64 s.cn.refused, .int .i64 s.cn.damaged, .int .i64 s.cn.dropped]
structure StOk (room : Nat) (w : World) (s : Stn) : Prop where
  box : Has w s.box tS (stC s)
  out : RingF w s.qo s.ro room s.fo s.out
  inn : RingF w s.qi s.ri room s.fi s.inn
  rules : w.ownsRow 0 tR 3 s.rv s.rules.length (s.rules.flatMap Rl.c)
  fout : ∀ x ∈ s.out, FrOk w x
  finn : ∀ x ∈ s.inn, FrOk w x
  hq : s.qo ≠ s.qi
  hr : s.ro ≠ s.ri
  hb : (blk s).Nodup
section
variable {room : Nat} {w w' : World} {s t : Stn} {S S' : List Stn}
theorem StOk.keep (h : StOk room w s) (hk : ∀ k, s.foot k → w'.heap[k]? = w.heap[k]?) : StOk room w' s :=
  ⟨(hk _ (.inl (.inl rfl))).trans h.box, h.out.keep (hk _ (.inl (.inr (.inl rfl)))) (hk _ (.inl (.inr (.inr (.inr (.inl rfl)))))), h.inn.keep (hk _ (.inl (.inr (.inr (.inl rfl))))) (hk _ (.inl (.inr (.inr (.inr (.inr rfl)))))),
   own_at h.rules fun g hg => hk g (.inr (.inl hg)), fun x hx => ⟨own_at (h.fout x hx).1 fun g hg => hk g (.inr (.inr (.inl ⟨x, hx, hg⟩))), (h.fout x hx).2⟩,
   fun x hx => ⟨own_at (h.finn x hx).1 fun g hg => hk g (.inr (.inr (.inr ⟨x, hx, hg⟩))), (h.finn x hx).2⟩, h.hq, h.hr, h.hb⟩
theorem StOk.mut_ty (h : StOk room w s) {k : Nat} (hk : mut1 (skel s) k) : tyAt w k = some tS ∨ tyAt w k = some tQ ∨ tyAt w k = some tF := by
  rcases hk with rfl | rfl | rfl | rfl | rfl
  · exact .inl (has_ty h.box)
  · exact .inr (.inl (ring_ty h.out).1)
  · exact .inr (.inl (ring_ty h.inn).1)
  · exact .inr (.inr (ring_ty h.out).2)
  · exact .inr (.inr (ring_ty h.inn).2)
theorem StOk.foot_lt (h : StOk room w s) {k : Nat} (hk : s.foot k) : k < w.heap.size := by
  rcases hk with hk | hk | ⟨x, hx, hk⟩ | ⟨x, hx, hk⟩
  · rcases h.mut_ty hk with h1 | h1 | h1 <;> exact ty_lt h1
  · exact ty_lt (own_ty h.rules hk)
  · exact ty_lt (own_ty (h.fout x hx).1 hk)
  · exact ty_lt (own_ty (h.finn x hx).1 hk)
theorem StOk.blk_lt (h : StOk room w s) {k : Nat} (hk : k ∈ blk s) : k < w.heap.size := by
  obtain ⟨x, hx, he⟩ := List.mem_filterMap.1 hk
  exact h.foot_lt (.inr (.inr (.inr ⟨x, hx, he⟩)))
theorem StOk.below (h : StOk room w s) (hb : Below w.heap.size w w') : StOk room w' s := h.keep fun k hk => hb.block k (h.foot_lt hk)
/-- Two stations share nothing that is ever turned, nor bytes of what came. -/
def Stn.far (s t : Stn) : Prop := s.box ≠ t.box ∧ s.qo ≠ t.qo ∧ s.qo ≠ t.qi ∧ s.qi ≠ t.qo ∧ s.qi ≠ t.qi ∧ s.ro ≠ t.ro ∧ s.ro ≠ t.ri ∧ s.ri ≠ t.ro ∧ s.ri ≠ t.ri ∧ ∀ k ∈ blk s, k ∉ blk t
theorem Stn.far.symm (h : s.far t) : t.far s := by
  obtain ⟨h1, h2, h3, h4, h5, h6, h7, h8, h9, h10⟩ := h
  exact ⟨h1.symm, h2.symm, h4.symm, h3.symm, h5.symm, h6.symm, h8.symm, h7.symm, h9.symm, fun k hk h' => h10 k h' hk⟩
structure StsOk (room : Nat) (w : World) (S : List Stn) : Prop where
  all : ∀ (i : Nat) (s : Stn), S[i]? = some s → StOk room w s
  far : ∀ (i j : Nat) (s t : Stn), S[i]? = some s → S[j]? = some t → i ≠ j → s.far t
theorem StsOk.keep (h : StsOk room w S) (hk : ∀ k, (∃ s ∈ S, s.foot k) → w'.heap[k]? = w.heap[k]?) : StsOk room w' S :=
  ⟨fun i s hi => (h.all i s hi).keep fun k hf => hk k ⟨s, List.mem_of_getElem? hi, hf⟩, h.far⟩
theorem StsOk.below (h : StsOk room w S) (hb : Below w.heap.size w w') : StsOk room w' S := ⟨fun i s hi => (h.all i s hi).below hb, h.far⟩
theorem StsOk.mut_ty (h : StsOk room w S) {k : Nat} (hk : mutS S k) : tyAt w k = some tS ∨ tyAt w k = some tQ ∨ tyAt w k = some tF := by
  obtain ⟨u, hu, hm⟩ := hk
  obtain ⟨s, hs, rfl⟩ := List.mem_map.1 hu
  obtain ⟨i, hi⟩ := List.mem_iff_getElem?.1 hs
  exact (h.all i s hi).mut_ty hm
/-- What one station's call turns leaves the others. -/
theorem far_foot (hs : StOk room w s) (ht : StOk room w t) (hf : s.far t) {k : Nat} (hk : t.foot k) : ¬ mut1 (skel s) k := by
  intro hm
  obtain ⟨h1, h2, h3, h4, h5, h6, h7, h8, h9, h10⟩ := hf
  have hc : tS ≠ tQ ∧ tS ≠ tF ∧ tQ ≠ tF ∧ tS ≠ tR ∧ tQ ≠ tR ∧ tF ≠ tR ∧ tS ≠ tU ∧ tQ ≠ tU ∧ tF ≠ tU := by decide
  obtain ⟨c1, c2, c3, c4, c5, c6, c7, c8, c9⟩ := hc
  have so := ring_ty hs.out
  have si := ring_ty hs.inn
  have to := ring_ty ht.out
  have ti := ring_ty ht.inn
  have sb := has_ty hs.box
  have tb := has_ty ht.box
  have no : ∀ (a b : TypeId), a ≠ b → tyAt w k = some a → tyAt w k = some b → False := fun a b hab ha hb => hab (Option.some.inj (ha.symm.trans hb))
  have key : (k = t.box ∧ tyAt w k = some tS) ∨ ((k = t.qo ∨ k = t.qi) ∧ tyAt w k = some tQ) ∨ ((k = t.ro ∨ k = t.ri) ∧ tyAt w k = some tF) ∨ tyAt w k = some tR ∨ tyAt w k = some tU := by
    rcases hk with hk | hk | ⟨x, hx, hk⟩ | ⟨x, hx, hk⟩
    · rcases hk with rfl | rfl | rfl | rfl | rfl
      · exact .inl ⟨rfl, tb⟩
      · exact .inr (.inl ⟨.inl rfl, to.1⟩)
      · exact .inr (.inl ⟨.inr rfl, ti.1⟩)
      · exact .inr (.inr (.inl ⟨.inl rfl, to.2⟩))
      · exact .inr (.inr (.inl ⟨.inr rfl, ti.2⟩))
    · exact .inr (.inr (.inr (.inl (own_ty ht.rules hk))))
    · exact .inr (.inr (.inr (.inr (own_ty (ht.fout x hx).1 hk))))
    · exact .inr (.inr (.inr (.inr (own_ty (ht.finn x hx).1 hk))))
  rcases hm with hm | hm | hm | hm | hm
  · have hy : tyAt w k = some tS := by rw [hm]; exact sb
    rcases key with ⟨e, _⟩ | ⟨_, e⟩ | ⟨_, e⟩ | e | e
    · exact h1 (hm.symm.trans e)
    · exact no _ _ c1 hy e
    · exact no _ _ c2 hy e
    · exact no _ _ c4 hy e
    · exact no _ _ c7 hy e
  · have hy : tyAt w k = some tQ := by rw [hm]; exact so.1
    rcases key with ⟨_, e⟩ | ⟨e, _⟩ | ⟨_, e⟩ | e | e
    · exact no _ _ c1.symm hy e
    · rcases e with e | e
      · exact h2 (hm.symm.trans e)
      · exact h3 (hm.symm.trans e)
    · exact no _ _ c3 hy e
    · exact no _ _ c5 hy e
    · exact no _ _ c8 hy e
  · have hy : tyAt w k = some tQ := by rw [hm]; exact si.1
    rcases key with ⟨_, e⟩ | ⟨e, _⟩ | ⟨_, e⟩ | e | e
    · exact no _ _ c1.symm hy e
    · rcases e with e | e
      · exact h4 (hm.symm.trans e)
      · exact h5 (hm.symm.trans e)
    · exact no _ _ c3 hy e
    · exact no _ _ c5 hy e
    · exact no _ _ c8 hy e
  · have hy : tyAt w k = some tF := by rw [hm]; exact so.2
    rcases key with ⟨_, e⟩ | ⟨_, e⟩ | ⟨e, _⟩ | e | e
    · exact no _ _ c2.symm hy e
    · exact no _ _ c3.symm hy e
    · rcases e with e | e
      · exact h6 (hm.symm.trans e)
      · exact h7 (hm.symm.trans e)
    · exact no _ _ c6 hy e
    · exact no _ _ c9 hy e
  · have hy : tyAt w k = some tF := by rw [hm]; exact si.2
    rcases key with ⟨_, e⟩ | ⟨_, e⟩ | ⟨e, _⟩ | e | e
    · exact no _ _ c2.symm hy e
    · exact no _ _ c3.symm hy e
    · rcases e with e | e
      · exact h8 (hm.symm.trans e)
      · exact h9 (hm.symm.trans e)
    · exact no _ _ c6 hy e
    · exact no _ _ c9 hy e
/-- One station anew. -/
theorem StsOk.put {i : Nat} {s' : Stn} (h : StsOk room w S) (hi : S[i]? = some s) (hk : Kp (mut1 (skel s)) w w') (hs : StOk room w' s') (e : skel s' = skel s) (hb : ∀ k ∈ blk s', k ∈ blk s ∨ w.heap.size ≤ k) : StsOk room w' (S.set i s') := by
  have hsi := h.all i s hi
  have e1 : s'.box = s.box := congrArg (·.1) e
  have e2 : s'.qo = s.qo := congrArg (·.2.1) e
  have e3 : s'.qi = s.qi := congrArg (·.2.2.1) e
  have e4 : s'.ro = s.ro := congrArg (·.2.2.2.1) e
  have e5 : s'.ri = s.ri := congrArg (·.2.2.2.2) e
  have hlt : i < S.length := (List.getElem?_eq_some_iff.1 hi).1
  have hfar : ∀ j t, S[j]? = some t → i ≠ j → s'.far t := by
    intro j t hj hne
    obtain ⟨h1, h2, h3, h4, h5, h6, h7, h8, h9, h10⟩ := h.far i j s t hi hj hne
    refine ⟨by rw [e1]; exact h1, by rw [e2]; exact h2, by rw [e2]; exact h3, by rw [e3]; exact h4, by rw [e3]; exact h5, by rw [e4]; exact h6, by rw [e4]; exact h7, by rw [e5]; exact h8, by rw [e5]; exact h9, fun k hk hk' => ?_⟩
    rcases hb k hk with h11 | h11
    · exact h10 k h11 hk'
    · have := (h.all j t hj).blk_lt hk'
      omega
  refine ⟨fun j t hj => ?_, fun j l t u hj hl hne => ?_⟩
  · by_cases hij : i = j
    · subst hij
      rw [List.getElem?_set_self hlt] at hj
      cases hj
      exact hs
    · rw [List.getElem?_set_ne hij] at hj
      exact (h.all j t hj).keep fun k hf => hk.block k ((h.all j t hj).foot_lt hf) (far_foot hsi (h.all j t hj) (h.far i j s t hi hj hij) hf)
  · by_cases hij : i = j
    · subst hij
      rw [List.getElem?_set_self hlt] at hj
      cases hj
      rw [List.getElem?_set_ne hne] at hl
      exact hfar l u hl hne
    · rw [List.getElem?_set_ne hij] at hj
      by_cases hil : i = l
      · subst hil
        rw [List.getElem?_set_self hlt] at hl
        cases hl
        exact (hfar j t hj hij).symm
      · rw [List.getElem?_set_ne hil] at hl
        exact h.far j l t u hj hl hne
/-- From world and stations to world and stations: the same skeleton, nothing else turned, bytes that came are old or new. -/
structure Mv (w : World) (S : List Stn) (w' : World) (S' : List Stn) : Prop where
  sk : S'.map skel = S.map skel
  kp : Kp (mutS S) w w'
  bl : ∀ k, (∃ s ∈ S', k ∈ blk s) → (∃ s ∈ S, k ∈ blk s) ∨ w.heap.size ≤ k
theorem Mv.refl (w : World) (S : List Stn) : Mv w S w S := ⟨rfl, Kp.refl _ _, fun k h => .inl h⟩
theorem Mv.trans {w'' : World} {S'' : List Stn} (h : Mv w S w' S') (h' : Mv w' S' w'' S'') : Mv w S w'' S'' := by
  refine ⟨h'.sk.trans h.sk, ?_, fun k hk => ?_⟩
  · have := h'.kp
    unfold mutS at this
    rw [h.sk] at this
    exact h.kp.trans this
  · rcases h'.bl k hk with h1 | h1
    · exact h.bl k h1
    · exact .inr (Nat.le_trans h.kp.size h1)
theorem Mv.below (hb : Below w.heap.size w w') : Mv w S w' S := ⟨rfl, Kp.of_below _ hb, fun k h => .inl h⟩
theorem Mv.len (h : Mv w S w' S') : S'.length = S.length := by simpa using congrArg List.length h.sk
theorem map_set_same {α β : Type} (f : α → β) (l : List α) {i : Nat} {x y : α} (hx : l[i]? = some x) (e : f y = f x) : (l.set i y).map f = l.map f := by
  rw [List.map_set, e]
  apply List.ext_getElem?
  intro j
  by_cases hij : i = j
  · subst hij
    have hlt := (List.getElem?_eq_some_iff.1 hx).1
    rw [List.getElem?_set_self (by simpa using hlt), List.getElem?_map, hx]; rfl
  · rw [List.getElem?_set_ne hij]
theorem Mv.put {i : Nat} {s' : Stn} (hi : S[i]? = some s) (hk : Kp (mut1 (skel s)) w w') (e : skel s' = skel s) (hb : ∀ k ∈ blk s', k ∈ blk s ∨ w.heap.size ≤ k) : Mv w S w' (S.set i s') := by
  refine ⟨map_set_same skel S hi e, hk.mono fun k hm => ⟨skel s, List.mem_map.2 ⟨s, List.mem_of_getElem? hi, rfl⟩, hm⟩, fun k hk => ?_⟩
  obtain ⟨t, ht, hkt⟩ := hk
  rcases List.mem_or_eq_of_mem_set ht with h1 | rfl
  · exact .inl ⟨t, h1, hkt⟩
  · rcases hb k hkt with h2 | h2
    · exact .inl ⟨s, List.mem_of_getElem? hi, h2⟩
    · exact .inr h2
end
/-- What is late. -/
structure Lt where
  from_ : Int
  bv : Value
  bits : List Bool
  twice : Bool
  by_ : Int
def Lt.c (x : Lt) : List Value := [.int .i64 x.from_, x.bv, .bool x.twice, .int .i64 x.by_]
def Lt.a (x : Lt) : ALt := ⟨x.from_, x.bits, x.twice, x.by_⟩
def BitsOk (w : World) (v : Value) (l : List Bool) : Prop := w.ownsRow 0 tBo 1 v l.length (l.map Value.bool) ∧ l.length ≤ 118
structure LateOk (w : World) (lv : Value) (L : List Lt) : Prop where
  row : w.ownsRow 0 tL 4 lv L.length (L.flatMap Lt.c)
  bits : ∀ x ∈ L, BitsOk w x.bv x.bits
theorem LateOk.keep {w w' : World} {lv : Value} {L : List Lt} (h : LateOk w lv L) (hk : ∀ k, (lv.ownBlock = some k ∨ ∃ x ∈ L, x.bv.ownBlock = some k) → w'.heap[k]? = w.heap[k]?) : LateOk w' lv L :=
  ⟨own_at h.row fun g hg => hk g (.inl hg), fun x hx => ⟨own_at (h.bits x hx).1 fun g hg => hk g (.inr ⟨x, hx, hg⟩), (h.bits x hx).2⟩⟩
structure BusS where
  sv : Value
  lv : Value
  S : List Stn
  L : List Lt
def BusS.a (B : BusS) : ABus := ⟨B.S.map Stn.a, B.L.map Lt.a⟩
def BusS.foot (b : Nat) (B : BusS) (k : Nat) : Prop := k = b ∨ B.sv.ownBlock = some k ∨ (B.lv.ownBlock = some k ∨ ∃ x ∈ B.L, x.bv.ownBlock = some k) ∨ ∃ s ∈ B.S, s.foot k
structure BusAt (room : Nat) (w : World) (b : Nat) (B : BusS) : Prop where
  box : Has w b tB #[B.sv, B.lv]
  row : w.ownsRow 0 tP 1 B.sv B.S.length (B.S.map fun s => .pointer (some ⟨s.box, 0, none⟩))
  sts : StsOk room w B.S
  late : LateOk w B.lv B.L
  room : 1 ≤ room ∧ room ≤ 64
  n : 1 ≤ B.S.length ∧ B.S.length ≤ 8
section
variable {room b : Nat} {w w' : World} {B B' : BusS} {S' : List Stn}
theorem BusAt.keep (h : BusAt room w b B) (hk : ∀ k, B.foot b k → w'.heap[k]? = w.heap[k]?) : BusAt room w' b B :=
  ⟨(hk b (.inl rfl)).trans h.box, own_at h.row fun g hg => hk g (.inr (.inl hg)), h.sts.keep fun k hf => hk k (.inr (.inr (.inr hf))), h.late.keep fun k hf => hk k (.inr (.inr (.inl hf))), h.room, h.n⟩
theorem BusAt.foot_ty (h : BusAt room w b B) {k : Nat} (hk : B.foot b k) : ∃ t, tyAt w k = some t ∧ t ∈ [tS, tQ, tF, tR, tU, tB, tP, tL, tBo] := by
  rcases hk with rfl | hk | (hk | ⟨x, hx, hk⟩) | ⟨s, hs, hk⟩
  · exact ⟨_, has_ty h.box, by simp⟩
  · exact ⟨_, own_ty h.row hk, by simp⟩
  · exact ⟨_, own_ty h.late.row hk, by simp⟩
  · exact ⟨_, own_ty (h.late.bits x hx).1 hk, by simp⟩
  · obtain ⟨i, hi⟩ := List.mem_iff_getElem?.1 hs
    have h1 := h.sts.all i s hi
    rcases hk with hk | hk | ⟨x, hx, hk⟩ | ⟨x, hx, hk⟩
    · rcases h1.mut_ty hk with h2 | h2 | h2
      · exact ⟨_, h2, by simp⟩
      · exact ⟨_, h2, by simp⟩
      · exact ⟨_, h2, by simp⟩
    · exact ⟨_, own_ty h1.rules hk, by simp⟩
    · exact ⟨_, own_ty (h1.fout x hx).1 hk, by simp⟩
    · exact ⟨_, own_ty (h1.finn x hx).1 hk, by simp⟩
theorem BusAt.foot_lt (h : BusAt room w b B) {k : Nat} (hk : B.foot b k) : k < w.heap.size := by
  obtain ⟨t, h1, _⟩ := h.foot_ty hk
  exact ty_lt h1
theorem BusAt.below (h : BusAt room w b B) (hb : Below w.heap.size w w') : BusAt room w' b B := h.keep fun k hk => hb.block k (h.foot_lt hk)
/-- Only blocks of other types are turned. -/
theorem BusAt.kept {F : Nat → Prop} (h : BusAt room w b B) (hk : Kp F w w') (hF : ∀ k t, F k → tyAt w k = some t → t ∉ [tS, tQ, tF, tR, tU, tB, tP, tL, tBo]) : BusAt room w' b B :=
  h.keep fun k hf => hk.block k (h.foot_lt hf) fun hFk => by
    obtain ⟨t, h1, h2⟩ := h.foot_ty hf
    exact hF k t hFk h1 h2
theorem mut_rest (h : StsOk room w B.S) {k : Nat} {t : TypeId} (hk : tyAt w k = some t) (ht : t ∉ [tS, tQ, tF]) : ¬ mutS B.S k := by
  intro hm
  rcases h.mut_ty hm with h1 | h1 | h1 <;> rw [hk] at h1 <;> cases h1 <;> simp at ht
theorem late_mv {S : List Stn} {lv : Value} {L : List Lt} (hs : StsOk room w S) (h : LateOk w lv L) (hm : Mv w S w' S') : LateOk w' lv L := by
  have nm : ∀ {k : Nat} {t : TypeId}, tyAt w k = some t → t ∉ [tS, tQ, tF] → ¬ mutS S k := fun {k t} h1 h2 => mut_rest (B := ⟨.pointer none, .pointer none, S, []⟩) hs h1 h2
  refine h.keep fun k hf => ?_
  rcases hf with hf | ⟨x, hx, hf⟩
  · have := own_ty h.row hf
    exact hm.kp.block k (ty_lt this) (nm this (by decide))
  · have := own_ty (h.bits x hx).1 hf
    exact hm.kp.block k (ty_lt this) (nm this (by decide))
/-- The stations anew. -/
theorem BusAt.mv (h : BusAt room w b B) (hm : Mv w B.S w' S') (hs : StsOk room w' S') : BusAt room w' b { B with S := S' } := by
  have nm : ∀ {k : Nat} {t : TypeId}, tyAt w k = some t → t ∉ [tS, tQ, tF] → ¬ mutS B.S k := fun {k t} h1 h2 => mut_rest h.sts h1 h2
  have hbox : S'.map (fun s => Value.pointer (some ⟨s.box, 0, none⟩)) = B.S.map fun s => Value.pointer (some ⟨s.box, 0, none⟩) := by
    have := congrArg (List.map fun t : Sk => Value.pointer (some ⟨t.1, 0, none⟩)) hm.sk
    simpa [Function.comp_def, skel] using this
  refine ⟨hm.kp.has h.box (nm (has_ty h.box) (by decide)), ?_, hs, late_mv h.sts h.late hm, h.room, ?_⟩
  · dsimp only
    rw [hm.len, hbox]
    exact own_at h.row fun g hg => hm.kp.block g (ty_lt (own_ty h.row hg)) (nm (own_ty h.row hg) (by decide))
  · dsimp only
    rw [hm.len]; exact h.n
/-- A call of the bus: its own box beside the stations. -/
structure Go (w : World) (b : Nat) (B : BusS) (w' : World) (B' : BusS) : Prop where
  sk : B'.S.map skel = B.S.map skel
  kp : Kp (fun k => k = b ∨ mutS B.S k) w w'
  bl : ∀ k, (∃ s ∈ B'.S, k ∈ blk s) → (∃ s ∈ B.S, k ∈ blk s) ∨ w.heap.size ≤ k
theorem Go.of_mv (h : Mv w B.S w' B'.S) : Go w b B w' B' := ⟨h.sk, h.kp.mono fun k hk => .inr hk, h.bl⟩
theorem Go.refl (w : World) (b : Nat) (B : BusS) : Go w b B w B := Go.of_mv (Mv.refl _ _)
theorem Go.trans {w'' : World} {B'' : BusS} (h : Go w b B w' B') (h' : Go w' b B' w'' B'') : Go w b B w'' B'' := by
  refine ⟨h'.sk.trans h.sk, ?_, fun k hk => ?_⟩
  · have := h'.kp
    unfold mutS at this
    rw [h.sk] at this
    exact h.kp.trans this
  · rcases h'.bl k hk with h1 | h1
    · exact h.bl k h1
    · exact .inr (Nat.le_trans h.kp.size h1)
theorem BusAt.gone_ty (h : BusAt room w b B) {k : Nat} (hk : k = b ∨ mutS B.S k) : ∃ t, tyAt w k = some t ∧ t ∈ [tS, tQ, tF, tB] := by
  rcases hk with rfl | hk
  · exact ⟨_, has_ty h.box, by simp⟩
  · rcases h.sts.mut_ty hk with h1 | h1 | h1
    · exact ⟨_, h1, by simp⟩
    · exact ⟨_, h1, by simp⟩
    · exact ⟨_, h1, by simp⟩
end
end busM
end Go.Proofs.Ytomkgnlooheibaa
