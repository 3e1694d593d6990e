/- What node.Gather comes to, and what it keeps between two parts. No condition. -/
import Derived.Test.YtoekdlipaomniaaDoorNodeKind
import Derived.Test.YtoekdlipaomniaaDoorInfoMT
namespace Go.Proofs.YtoekdlipaomniaaDoor
open Go.RowKit Go.Bus Go.Bus.cellK Go.Bus.dbK
set_option linter.unusedVariables false
set_option linter.unusedSimpArgs false
namespace gatherL
open nodeC nodeK
theorem news_new (w : World) (cs : List Value) (t : TypeId) : ∀ (j : Nat) (u : Value), cs[j]? = some u → (w.alloc (.cells cs.toArray t)).cell? ((⟨w.heap.size, 0, none⟩ : Addr).add j) = some u := by
  intro j u hj
  rw [Addr.add_mid, Nat.zero_add, (Has.new w t cs.toArray).cell j]
  simpa using hj
def rankO : Option Nd → Int
  | none => 0
  | some x => rank x
def put (d : Db) : Option Nd → Db
  | some (.ver v) => { d with hasV := true, ver := v }
  | some (.sta s) => { d with sta := s }
  | some (.msg m) => { d with msgs := d.msgs ++ [m] }
  | some (.tab t) => { d with tabs := d.tabs ++ [t] }
  | none => d
def d0 : Db := ⟨false, ⟨0, 0, ⟨#[]⟩⟩, ⟨0, 0, []⟩, [], []⟩
inductive GR where
  | ok (d : Db)
  | no (e : Int) (at_ : Nat)
def wrong (k last : Int) (i : Nat) : Bool := k == 0 || decide (k < last) || (k == 1 && decide (0 < i)) || (k == 2 && decide (2 ≤ last)) || (decide (2 < k) && !decide (2 ≤ last))
def gat : List (Option Nd) → Nat → Int → Db → GR
  | [], i, last, d => if last < 2 then .no 2 i else .ok d
  | n :: l, i, last, d => if wrong (rankO n) last i then .no 4 i else gat l (i + 1) (rankO n) (put d n)
def getM : Option Nd → Option Msg
  | some (.msg m) => some m
  | _ => none
def getT : Option Nd → Option Tab
  | some (.tab t) => some t
  | _ => none
def noE : Rel (Option Nd) := fun w F cs x => match x with
  | none => cs = [.nilIface]
  | some x => ndE w F cs x
theorem noE_mono : Mono noE := by
  intro w w' F F' cs x hF hk h
  cases x with
  | none => exact h
  | some x => exact ndE_mono _ _ _ _ _ _ hF hk h
def okN : Option Nd → Prop
  | some (.sta s) => s.names.length * 16 ≤ 140737488351232
  | some (.msg m) => m.sigs.length * 176 ≤ 140737488351232 ∧ ∀ s ∈ m.sigs, s.to.length * 16 ≤ 140737488351232
  | some (.tab t) => t.rows.length * 24 ≤ 140737488351232
  | _ => True
def dbZ : Array Value := #[.bool false, .int .i64 0, .int .i64 0, .string ⟨#[]⟩, .int .i64 0, .int .i64 0, .slice none 0 0, .slice none 0 0, .slice none 0 0]
def dbB (d : Db) (Sv Mv Tv : Value) : Array Value := #[.bool d.hasV, .int .i64 d.ver.line, .int .i64 d.ver.col, .string d.ver.text, .int .i64 d.sta.line, .int .i64 d.sta.col, Sv, Mv, Tv]
def errV (e : Int) (i : Nat) : Value := .tuple #[.agg dbZ, .iface 98 (.agg #[.int .i64 e, .int .i64 0, .int .i64 i])]
/-- A database all of whose lists lie in memory of the call's own, apart. -/
def dbO (w : World) (lo : Nat) (cs : List Value) (d : Db) : Prop := ∃ (sv mv tv : Value) (t1 t2 : Nat), cs = dbCells d sv mv tv ∧ lo ≤ t1 ∧ t1 ≤ t2 ∧ t2 ≤ w.heap.size ∧
  OwD 1 strE w (Iv lo t1) 0 9 sv d.sta.names ∧ OwD 8 (msgO 9 132) w (Iv t1 t2) 0 74 mv d.msgs ∧ OwD 6 (tabO 135) w (Iv t2 w.heap.size) 0 77 tv d.tabs
theorem dbO_dbE {w : World} {lo : Nat} {cs : List Value} {d : Db} (h : dbO w lo cs d) : dbE w (Iv lo w.heap.size) cs d := by
  obtain ⟨sv, mv, tv, t1, t2, rfl, h1, h2, h3, hs, hm, ht⟩ := h
  exact ⟨_, _, _, rfl, (hs.sl strE_mono).more strE_mono fun b hb => ⟨hb.1, by have := hb.2; omega⟩, ((hm.sl msgO_mono).weak fun _ _ => msgO_msgE).more msgE_mono fun b hb => ⟨by have := hb.1; omega, by have := hb.2; omega⟩,
    ((ht.sl tabO_mono).weak fun _ _ => tabO_tabE).more tabE_mono fun b hb => ⟨by have := hb.1; omega, hb.2⟩⟩
def GatherP (w : World) (r : GR) (e : Ending) (w' : World) : Prop := Below w.heap.size w w' ∧ match r with
  | .ok d => ∃ cs, e = .returned (.tuple #[.agg cs.toArray, .nilIface]) ∧ dbO w' w.heap.size cs d
  | .no n i => e = .returned (errV n i)
structure GS (w wr : World) (d : Db) (last : Int) (Sv Mv Tv : Value) (xsM xsT : List Value) (t1 t2 : Nat) : Prop where
  box : Has wr (w.heap.size + 1) 32 (dbB d Sv Mv Tv)
  res : Has wr w.heap.size 32 dbZ
  names : OwD 1 strE wr (Iv (w.heap.size + 2) t1) 0 9 Sv d.sta.names
  msgs : OwX 8 (msgO 9 132) wr (Iv t1 t2) t1 74 Mv d.msgs xsM
  tabs : OwX 6 (tabO 135) wr (Iv t2 wr.heap.size) t2 77 Tv d.tabs xsT
  lo : w.heap.size + 2 ≤ t1
  mid : t1 ≤ t2
  hi : t2 ≤ wr.heap.size
  phM : last ≤ 2 → d.msgs = [] ∧ Mv = .slice none 0 0 ∧ xsM = []
  phT : last ≤ 3 → d.tabs = [] ∧ Tv = .slice none 0 0 ∧ xsT = []
  bel : Below w.heap.size w wr
section
variable {w wr w1 w2 w3 : World} {d : Db} {last : Int} {Sv Mv Tv : Value} {xsM xsT : List Value} {t1 t2 : Nat}
/-- Nothing but the box of the database has turned; it holds d' now, of the same lists. -/
theorem GS.turn {d' : Db} {last' : Int} (h : GS w wr d last Sv Mv Tv xsM xsT t1 t2) (hk : ∀ b, b < wr.heap.size → b ≠ w.heap.size + 1 → w3.heap[b]? = wr.heap[b]?) (hs : wr.heap.size ≤ w3.heap.size) (hb : Below w.heap.size w w3)
    (hbox : Has w3 (w.heap.size + 1) 32 (dbB d' Sv Mv Tv)) (e1 : d'.sta.names = d.sta.names) (e2 : d'.msgs = d.msgs) (e3 : d'.tabs = d.tabs) (hM : last' ≤ 2 → last ≤ 2) (hT : last' ≤ 3 → last ≤ 3) : GS w w3 d' last' Sv Mv Tv xsM xsT t1 t2 := by
  have h1 := h.lo; have h2 := h.mid; have h3 := h.hi
  refine ⟨hbox, (hk _ h.res.lt (by omega)).trans h.res, ?_, ?_, ?_, h1, h2, by omega, fun hl => ?_, fun hl => ?_, hb⟩
  · rw [e1]; exact h.names.keep strE_mono (fun _ h => h) fun b hb => hk b (by have := hb.2; omega) (by have := hb.1; omega)
  · rw [e2]; exact h.msgs.keep msgO_mono (fun _ h => h) fun b hb => hk b (by have := hb.2; omega) (by have := hb.1; omega)
  · rw [e3]; exact h.tabs.keep tabO_mono (fun b hb => ⟨hb.1, by have := hb.2; omega⟩) fun b hb => hk b hb.2 (by have := hb.1; omega)
  · rw [e2]; exact h.phM (hM hl)
  · rw [e3]; exact h.phT (hT hl)
theorem GS.later (h : GS w wr d last Sv Mv Tv xsM xsT t1 t2) (hb : Below wr.heap.size wr w3) : GS w w3 d last Sv Mv Tv xsM xsT t1 t2 :=
  h.turn (fun b hlt _ => hb.block b hlt) hb.size (h.bel.trans (hb.mono h.bel.size)) (h.box.below hb h.box.lt) rfl rfl rfl (fun h => h) (fun h => h)
theorem GS.alloc (h : GS w wr d last Sv Mv Tv xsM xsT t1 t2) (o : Obj) : GS w (wr.alloc o) d last Sv Mv Tv xsM xsT t1 t2 := h.later ((Below.refl _ _).alloc (Nat.le_refl _) _)
/-- The stations have come. -/
theorem GS.sta {s : Sta} {Sv' : Value} (h : GS w wr d last Sv Mv Tv xsM xsT t1 t2) (hl : last ≤ 2) (hk : ∀ b, b < wr.heap.size → b ≠ w.heap.size + 1 → w3.heap[b]? = wr.heap[b]?) (hs : wr.heap.size ≤ w3.heap.size) (hb : Below w.heap.size w w3)
    (hbox : Has w3 (w.heap.size + 1) 32 (dbB { d with sta := s } Sv' Mv Tv)) (hO : OwD 1 strE w3 (Iv wr.heap.size w3.heap.size) 0 9 Sv' s.names) : GS w w3 { d with sta := s } 2 Sv' Mv Tv xsM xsT w3.heap.size w3.heap.size := by
  have h1 := h.lo; have h2 := h.mid; have h3 := h.hi
  obtain ⟨m1, m2, m3⟩ := h.phM hl
  obtain ⟨n1, n2, n3⟩ := h.phT (by omega)
  refine ⟨hbox, (hk _ h.res.lt (by omega)).trans h.res, hO.keep strE_mono (fun b hb => ⟨by have := hb.1; omega, hb.2⟩) fun _ _ => rfl, ?_, ?_, by omega, Nat.le_refl _, Nat.le_refl _, fun _ => ⟨m1, m2, m3⟩, fun _ => ⟨n1, n2, n3⟩, hb⟩
  · show OwX 8 _ w3 _ _ _ Mv d.msgs xsM
    rw [m1, m2, m3]; exact OwX.nil_ _ _ _ _ _ _
  · show OwX 6 _ w3 _ _ _ Tv d.tabs xsT
    rw [n1, n2, n3]; exact OwX.nil_ _ _ _ _ _ _
theorem GS.msg {m : Msg} {cs : List Value} {Mv' : Value} {o : Obj} {n k : Nat} (h : GS w wr d last Sv Mv Tv xsM xsT t1 t2) (hl : last ≤ 3) (hb : Below wr.heap.size wr w1) (hq : msgO 9 132 w1 (Iv wr.heap.size w1.heap.size) cs m) (hc : cs.length = 8)
    (ho : w2.ownsRow t1 74 8 Mv' n (xsM ++ cs)) (hn : n = d.msgs.length + 1) (hg : (w1.alloc o).grownBy w2 Mv.ownBlock) (hat : Mv'.ownBlock = Mv.ownBlock ∨ Mv'.ownBlock = some k) (hk : w1.heap.size + 1 ≤ k) :
    GS w (w2.setCell ⟨w.heap.size + 1, 7, none⟩ Mv') { d with msgs := d.msgs ++ [m] } 3 Sv Mv' Tv (xsM ++ cs) xsT t1 w2.heap.size := by
  subst hn
  have h1 := h.lo; have h2 := h.mid; have h3 := h.hi; have s1 := hb.size; have s2 := hg.size
  simp at s2
  obtain ⟨n1, n2, n3⟩ := h.phT hl
  have hM : OwX 8 (msgO 9 132) wr (Iv t1 wr.heap.size) t1 74 Mv d.msgs xsM := h.msgs.keep msgO_mono (fun b hb => ⟨hb.1, by have := hb.2; omega⟩) fun _ _ => rfl
  have hsn := hM.snoc msgO_mono (Nat.le_refl _) (by omega) hb hq hc ((Below.refl _ _).alloc (Nat.le_refl _) o) hg ho (by
    rcases hat with h5 | h5
    · exact .inl h5
    · exact .inr fun g hg' => by rw [h5] at hg'; cases hg'; simp; omega)
  have hne : ∀ b, Mv.ownBlock = some b → t1 ≤ b := fun b hb => (h.msgs.1.lt b hb).1
  have kept : ∀ b, b < wr.heap.size → b < t1 → w2.heap[b]? = wr.heap[b]? := fun b hlt hb1 => by
    rw [hg.block b (by simp; omega) (fun he => by have := hne b he.symm; omega), heap_alloc_old _ _ (by omega), hb.block b hlt]
  have hbox2 : Has w2 (w.heap.size + 1) 32 (dbB d Sv Mv Tv) := (kept _ (by omega) (by omega)).trans h.box
  have hres2 : Has w2 w.heap.size 32 dbZ := (kept _ (by omega) (by omega)).trans h.res
  refine ⟨hbox2.set 7 Mv', hres2.far (by simp) _, ?_, ?_, ?_, h1, by omega, by simp, fun hh => by omega, fun _ => ⟨n1, n2, n3⟩, ?_⟩
  · exact h.names.keep strE_mono (fun _ h => h) fun b hb => (heap_setCell_other _ _ _ _ (by have := hb.1; simp; omega)).trans (kept b (by have := hb.2; omega) hb.2)
  · exact hsn.keep msgO_mono (fun _ h => h) fun b hb => heap_setCell_other _ _ _ _ (by have := hb.1; simp; omega)
  · show OwX 6 _ _ _ _ _ Tv d.tabs xsT
    rw [n1, n2, n3]; exact OwX.nil_ _ _ _ _ _ _
  · exact Below.setCell (Below.grown ((h.bel.trans (hb.mono (by omega))).alloc (by omega) o) hg (by simp; omega) fun r hr => by have := hne r hr; omega) (by simp) _
/-- The database as it stands at the end. -/
theorem GS.done (h : GS w wr d last Sv Mv Tv xsM xsT t1 t2) (hk : ∀ b, w.heap.size + 2 ≤ b → w3.heap[b]? = wr.heap[b]?) (hs : w3.heap.size = wr.heap.size) : dbO w3 w.heap.size (dbCells d Sv Mv Tv) d := by
  have h1 := h.lo; have h2 := h.mid; have h3 := h.hi
  obtain ⟨mo, mF, mr⟩ := h.msgs
  obtain ⟨to_, tF, tr⟩ := h.tabs
  have hm : OwX 8 (msgO 9 132) wr (Iv t1 t2) 0 74 Mv d.msgs xsM := ⟨own_base mo (Nat.zero_le _), mF, mr⟩
  have ht : OwX 6 (tabO 135) wr (Iv t2 wr.heap.size) 0 77 Tv d.tabs xsT := ⟨own_base to_ (Nat.zero_le _), tF, tr⟩
  exact ⟨Sv, Mv, Tv, t1, t2, rfl, by omega, h2, by omega, h.names.keep strE_mono (fun b hb => ⟨by have := hb.1; omega, hb.2⟩) (fun b hb => hk b hb.1), ⟨xsM, hm.keep msgO_mono (fun _ h => h) fun b hb => hk b (by have := hb.1; omega)⟩, ⟨xsT, ht.keep tabO_mono (fun b hb => ⟨hb.1, by have := hb.2; omega⟩) fun b hb => hk b (by have := hb.1; omega)⟩⟩
theorem GS.tab {m : Tab} {cs : List Value} {Tv' : Value} {o : Obj} {n k : Nat} (h : GS w wr d last Sv Mv Tv xsM xsT t1 t2) (hb : Below wr.heap.size wr w1) (hq : tabO 135 w1 (Iv wr.heap.size w1.heap.size) cs m) (hc : cs.length = 6)
    (ho : w2.ownsRow t2 77 6 Tv' n (xsT ++ cs)) (hn : n = d.tabs.length + 1) (hg : (w1.alloc o).grownBy w2 Tv.ownBlock) (hat : Tv'.ownBlock = Tv.ownBlock ∨ Tv'.ownBlock = some k) (hk : w1.heap.size + 1 ≤ k) :
    GS w (w2.setCell ⟨w.heap.size + 1, 8, none⟩ Tv') { d with tabs := d.tabs ++ [m] } 4 Sv Mv Tv' xsM (xsT ++ cs) t1 t2 := by
  subst hn
  have h1 := h.lo; have h2 := h.mid; have h3 := h.hi; have s1 := hb.size; have s2 := hg.size
  simp at s2
  have hsn := h.tabs.snoc tabO_mono (Nat.le_refl _) (by omega) hb hq hc ((Below.refl _ _).alloc (Nat.le_refl _) o) hg ho (by
    rcases hat with h5 | h5
    · exact .inl h5
    · exact .inr fun g hg' => by rw [h5] at hg'; cases hg'; simp; omega)
  have hne : ∀ b, Tv.ownBlock = some b → t2 ≤ b := fun b hb => (h.tabs.1.lt b hb).1
  have kept : ∀ b, b < wr.heap.size → b < t2 → w2.heap[b]? = wr.heap[b]? := fun b hlt hb1 => by
    rw [hg.block b (by simp; omega) (fun he => by have := hne b he.symm; omega), heap_alloc_old _ _ (by omega), hb.block b hlt]
  have hbox2 : Has w2 (w.heap.size + 1) 32 (dbB d Sv Mv Tv) := (kept _ (by omega) (by omega)).trans h.box
  have hres2 : Has w2 w.heap.size 32 dbZ := (kept _ (by omega) (by omega)).trans h.res
  refine ⟨hbox2.set 8 Tv', hres2.far (by simp) _, ?_, ?_, ?_, h1, h2, by simp; omega, fun hh => by omega, fun hh => by omega, ?_⟩
  · exact h.names.keep strE_mono (fun _ h => h) fun b hb => (heap_setCell_other _ _ _ _ (by have := hb.1; simp; omega)).trans (kept b (by have := hb.2; omega) (by have := hb.2; omega))
  · exact h.msgs.keep msgO_mono (fun _ h => h) fun b hb => (heap_setCell_other _ _ _ _ (by have := hb.1; simp; omega)).trans (kept b (by have := hb.2; omega) hb.2)
  · exact hsn.keep tabO_mono (fun b hb => ⟨hb.1, by simpa using hb.2⟩) fun b hb => heap_setCell_other _ _ _ _ (by have := hb.1; simp; omega)
  · exact Below.setCell (Below.grown ((h.bel.trans (hb.mono (by omega))).alloc (by omega) o) hg (by simp; omega) fun r hr => by have := hne r hr; omega) (by simp) _
end
end gatherL
end Go.Proofs.YtoekdlipaomniaaDoor
