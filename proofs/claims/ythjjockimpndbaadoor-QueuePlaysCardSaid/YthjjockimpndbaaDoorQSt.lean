/- QueuePlays: the queue and the document's row side by side in memory; what each call does to both. Condition: errors.errorType is laid. -/
import Derived.Test.YthjjockimpndbaaDoorRefQueue
import Derived.Test.YthjjockimpndbaaDoorQueueInt
import Derived.Test.YthjjockimpndbaaDoorPlain
import Derived.Test.YthjjockimpndbaaDoorPick
namespace Go.Proofs.YthjjockimpndbaaDoor
open Go.RowKit Go.Bus Go.Bus.ringK
set_option linter.unusedVariables false
namespace stK
theorem has_heap {w w' : World} {g : Nat} {t : TypeId} {cs : Array Value} (h : Has w g t cs) (hh : w'.heap[g]? = w.heap[g]?) : Has w' g t cs := hh.trans h
theorem own_heap {w w' : World} {base : Nat} {e : TypeId} {size n : Nat} {v : Value} {xs : List Value} (h : w.ownsRow base e size v n xs) (hh : ∀ i, base ≤ i → w'.heap[i]? = w.heap[i]?) : w'.ownsRow base e size v n xs := by
  refine ⟨h.1, ?_⟩
  rcases h.2 with hn | ⟨b, cap, cur, rfl, hbb, hgg, rest⟩
  · exact .inl hn
  · exact .inr ⟨b, cap, cur, rfl, hbb, (hh b hbb).trans hgg, rest⟩
theorem ring_heap {w w' : World} {q g room from_ : Nat} {L : List Int} (h : qint.RingS w q g room from_ L) (hq : w'.heap[q]? = w.heap[q]?) (hg : w'.heap[g]? = w.heap[g]?) : qint.RingS w' q g room from_ L := by
  obtain ⟨cs, hc, hs, hx⟩ := h.row
  exact ⟨has_heap h.struct_ hq, ⟨cs, has_heap hc hg, hs, hx⟩, h.hfrom, h.hlen⟩
theorem err_heap {w w' : World} (h : asK.ErrT w) (hh : w'.heap[0]? = w.heap[0]?) : asK.ErrT w' := by
  unfold asK.ErrT World.cell? at *
  simp only [hh]
  exact h

structure St (ws w : World) (q g from_ rq B room : Nat) (v : Value) (Lq Lr : List Int) : Prop where
  ring : qint.RingS w q g room from_ Lq
  ref : refQ.RefS w B rq (room : Int) v Lr
  err : asK.ErrT w
  bel : Below ws.heap.size ws w
  rqB : rq < B
  qB : q < B
  gB : g < B
  Bw : B ≤ w.heap.size
  nq : rq ≠ q
  ng : rq ≠ g
  rq0 : ws.heap.size ≤ rq
  q0 : ws.heap.size ≤ q
  g0 : ws.heap.size ≤ g
  glo : 0 < ws.heap.size
  room64 : room ≤ 64
section
variable {ws w w' : World} {q g from_ fr' rq B room xb : Nat} {v v' : Value} {Lq Lr Lq' Lr' : List Int} {cs : Array Value}
theorem St.stepQ (h : St ws w q g from_ rq B room v Lq Lr) (hR : qint.RingS w' q g room fr' Lq') (hz : w'.heap.size = w.heap.size) (hk : ∀ i, i ≠ q → i ≠ g → w'.heap[i]? = w.heap[i]?) (hb : Below ws.heap.size w w') : St ws w' q g fr' rq B room v Lq' Lr :=
  ⟨hR, ⟨has_heap h.ref.struct_ (hk _ h.nq h.ng), own_heap h.ref.row fun i hi => hk i (by have := h.qB; omega) (by have := h.gB; omega)⟩,
    err_heap h.err (hk _ (by have := h.glo; have := h.q0; omega) (by have := h.glo; have := h.g0; omega)), h.bel.trans hb,
    h.rqB, h.qB, h.gB, by rw [hz]; exact h.Bw, h.nq, h.ng, h.rq0, h.q0, h.g0, h.glo, h.room64⟩
theorem St.stepR (h : St ws w q g from_ rq B room v Lq Lr) (hR : refQ.RefS w' B rq (room : Int) v' Lr') (hT : refQ.Turn w w' B rq) (hb : Below ws.heap.size w w') : St ws w' q g from_ rq B room v' Lq Lr' :=
  ⟨ring_heap h.ring (hT.rest q h.qB (Ne.symm h.nq)) (hT.rest g h.gB (Ne.symm h.ng)), hR, err_heap h.err (hb.block _ h.glo), h.bel.trans hb,
    h.rqB, h.qB, h.gB, Nat.le_trans h.Bw hT.size, h.nq, h.ng, h.rq0, h.q0, h.g0, h.glo, h.room64⟩
theorem St.later (h : St ws w q g from_ rq B room v Lq Lr) (hb : Below w.heap.size w w') : St ws w' q g from_ rq B room v Lq Lr :=
  have hl := h.ring.lt
  ⟨ring_heap h.ring (hb.block q hl.1) (hb.block g hl.2), ⟨has_heap h.ref.struct_ (hb.block _ h.ref.struct_.lt), own_kept h.ref.row hb⟩, h.err.at_below hb, h.bel.trans (hb.mono h.bel.size),
    h.rqB, h.qB, h.gB, Nat.le_trans h.Bw hb.size, h.nq, h.ng, h.rq0, h.q0, h.g0, h.glo, h.room64⟩

/-- The same, beside the box of the act. -/
structure SX (ws w : World) (q g from_ rq B room : Nat) (v : Value) (Lq Lr : List Int) (xb : Nat) (cs : Array Value) : Prop where
  st : St ws w q g from_ rq B room v Lq Lr
  x : Has w xb 33 cs
  xB : B ≤ xb
theorem SX.later (h : SX ws w q g from_ rq B room v Lq Lr xb cs) (hb : Below w.heap.size w w') : SX ws w' q g from_ rq B room v Lq Lr xb cs :=
  ⟨h.st.later hb, has_heap h.x (hb.block _ h.x.lt), h.xB⟩
theorem SX.drew (h : SX ws w q g from_ rq B room v Lq Lr xb cs) : SX ws w.drew q g from_ rq B room v Lq Lr xb cs := h.later (Below.drew (Below.refl _ _))
theorem SX.stepQ (h : SX ws w q g from_ rq B room v Lq Lr xb cs) (hR : qint.RingS w' q g room fr' Lq') (hz : w'.heap.size = w.heap.size) (hk : ∀ i, i ≠ q → i ≠ g → w'.heap[i]? = w.heap[i]?) (hb : Below ws.heap.size w w') : SX ws w' q g fr' rq B room v Lq' Lr xb cs :=
  ⟨h.st.stepQ hR hz hk hb, has_heap h.x (hk _ (by have := h.st.qB; have := h.xB; omega) (by have := h.st.gB; have := h.xB; omega)), h.xB⟩
theorem SX.stepR (h : SX ws w q g from_ rq B room v Lq Lr xb cs) (hR : refQ.RefS w' B rq (room : Int) v' Lr') (hT : refQ.Turn w w' B rq) (hb : Below ws.heap.size w w') : SX ws w' q g from_ rq B room v' Lq Lr' xb cs :=
  ⟨h.st.stepR hR hT hb, hT.far _ _ _ h.x (by decide) (by have := h.st.rqB; have := h.xB; omega), h.xB⟩

def QPush (ws : World) (q g rq B room : Nat) (Lq Lr : List Int) (xb : Nat) (cs : Array Value) (ans v : Value) (fr : Nat) (e : Ending) (w' : World) : Prop := e = .returned ans ∧ SX ws w' q g fr rq B room v Lq Lr xb cs
def RPush (ws : World) (q g rq B room : Nat) (Lq Lr : List Int) (xb : Nat) (cs : Array Value) (ans : Value) (fr : Nat) (e : Ending) (w' : World) : Prop := ∃ v', e = .returned ans ∧ SX ws w' q g fr rq B room v' Lq Lr xb cs

theorem q_ok (x : Int) (hl : Lq.length < room) (h : SX ws w q g from_ rq B room v Lq Lr xb cs) : Calls Tryd.prog 11 #[.pointer (some ⟨q, 0, none⟩), .int .i64 x] w (QPush ws q g rq B room (Lq ++ [x]) Lr xb cs .nilIface v from_) :=
  (qint.push_ok (B := ws.heap.size) h.st.ring x hl h.st.room64 h.st.q0 h.st.g0).mono fun e w' ⟨h1, h2, h3, h4, h5⟩ => ⟨h1, h.stepQ h2 h4 h5 h3⟩
theorem q_full (x : Int) (hl : Lq.length = room) (h : SX ws w q g from_ rq B room v Lq Lr xb cs) : Calls Tryd.prog 11 #[.pointer (some ⟨q, 0, none⟩), .int .i64 x] w (QPush ws q g rq B room Lq Lr xb cs (.iface 73 (.int .i64 24)) v from_) :=
  (qint.push_full h.st.ring x hl).mono fun e w' ⟨h1, n, h2⟩ => ⟨h1, h2 ▸ h.later (below_drewN (Below.refl _ _) n)⟩
theorem r_ok (x : Int) (hl : Lr.length < room) (h : SX ws w q g from_ rq B room v Lq Lr xb cs) : Calls Tryd.prog 12 #[.pointer (some ⟨rq, 0, none⟩), .int .i64 x] w (RPush ws q g rq B room Lq (Lr ++ [x]) xb cs (.int .i64 0) from_) :=
  (refQ.push_ok (B0 := ws.heap.size) h.st.ref x (by omega) (by have := h.st.room64; omega) h.st.rq0 h.st.rqB h.st.Bw).mono fun e w' ⟨v', h1, h2, h3, h4⟩ => ⟨v', h1, h.stepR h2 h4 h3⟩
theorem r_full (x : Int) (hl : Lr.length = room) (h : SX ws w q g from_ rq B room v Lq Lr xb cs) : Calls Tryd.prog 12 #[.pointer (some ⟨rq, 0, none⟩), .int .i64 x] w (RPush ws q g rq B room Lq Lr xb cs (.int .i64 24) from_) :=
  (refQ.push_full h.st.ref x (by omega)).mono fun e w' ⟨h1, n, h2⟩ => ⟨v, h1, h2 ▸ h.later (below_drewN (Below.refl _ _) n)⟩
theorem p_nil (h : SX ws w q g from_ rq B room v Lq Lr xb cs) : Calls Tryd.prog 9 #[.nilIface, .int .i64 0] w (QPush ws q g rq B room Lq Lr xb cs (.bool true) v from_) :=
  (asK.plain_nil w).mono fun e w' ⟨h1, h2⟩ => ⟨h1, h.later h2⟩
theorem p_no (a : Int) (h1 : 1 ≤ a) (h2 : a ≤ 26) (h : SX ws w q g from_ rq B room v Lq Lr xb cs) : Calls Tryd.prog 9 #[.iface 73 (.int .i64 a), .int .i64 a] w (QPush ws q g rq B room Lq Lr xb cs (.bool true) v from_) :=
  (asK.plain_no a w h1 h2 h.st.err).mono fun e w' ⟨h1, h2⟩ => ⟨h1, h.later h2⟩

def QPop (ws : World) (q g rq B room : Nat) (Lq Lr : List Int) (xb : Nat) (cs : Array Value) (ans v : Value) (e : Ending) (w' : World) : Prop := ∃ fr, e = .returned ans ∧ SX ws w' q g fr rq B room v Lq Lr xb cs
theorem q_pop {x : Int} (h : SX ws w q g from_ rq B room v (x :: Lq) Lr xb cs) : Calls Tryd.prog 14 #[.pointer (some ⟨q, 0, none⟩)] w (QPop ws q g rq B room Lq Lr xb cs (.tuple #[.int .i64 x, .nilIface]) v) :=
  (qint.pop_one (B := ws.heap.size) h.st.ring h.st.room64 h.st.q0 h.st.g0).mono fun e w' ⟨h1, h2, h3, h4, h5⟩ => ⟨_, h1, h.stepQ h2 h4 h5 h3⟩
theorem q_none (h : SX ws w q g from_ rq B room v [] Lr xb cs) : Calls Tryd.prog 14 #[.pointer (some ⟨q, 0, none⟩)] w (QPop ws q g rq B room [] Lr xb cs (.tuple #[.int .i64 0, .iface 73 (.int .i64 25)]) v) :=
  (qint.pop_none h.st.ring).mono fun e w' ⟨h1, n, h2⟩ => ⟨from_, h1, h2 ▸ h.later (below_drewN (Below.refl _ _) n)⟩
theorem r_pop {x : Int} (h : SX ws w q g from_ rq B room v Lq (x :: Lr) xb cs) (hl : Lr.length < 64) : Calls Tryd.prog 13 #[.pointer (some ⟨rq, 0, none⟩)] w (RPush ws q g rq B room Lq Lr xb cs (.tuple #[.int .i64 x, .int .i64 0]) from_) :=
  (refQ.pop_one (B0 := ws.heap.size) h.st.ref hl h.st.rq0 h.st.rqB h.st.Bw).mono fun e w' ⟨v', h1, h2, h3, h4⟩ => ⟨v', h1, h.stepR h2 h4 h3⟩
theorem r_none (h : SX ws w q g from_ rq B room v Lq [] xb cs) : Calls Tryd.prog 13 #[.pointer (some ⟨rq, 0, none⟩)] w (RPush ws q g rq B room Lq [] xb cs (.tuple #[.int .i64 0, .int .i64 25]) from_) :=
  (refQ.pop_none h.st.ref).mono fun e w' ⟨h1, h2⟩ => ⟨v, h1, h2 ▸ h⟩
end
end stK
end Go.Proofs.YthjjockimpndbaaDoor
