/- For NodeFinds: what is found, in one shape; a message's lists as Book takes them. No condition. -/
import Derived.Test.YtdibfkcddcjiiaaNodeRfind
import Derived.Test.YtdibfkcddcjiiaaNodeMsg
import Derived.Test.YtdibfkcddcjiiaaBookAd
import Derived.Test.YtdibfkcddcjiiaaDbOpenU
namespace Go.Proofs.Ytdibfkcddcjiiaa
open Go.RowKit Go.Bus Go.Bus.cellK Go.Bus.dbK
set_option linter.unusedVariables false
set_option linter.unusedSimpArgs false
namespace nodeT
open nodeC nodeK nodeL bookD
def m0 : Msg := ⟨0, 0, 0, false, ⟨#[]⟩, 0, ⟨#[]⟩, []⟩
theorem rfind2 (v : Value) (l : List Msg) (s : ByteArray) (F : Foot) (w : World) (h : SlK 8 msgE w F v l) (hF : ∀ b, F b → b < w.heap.size) :
    Calls Try.prog 11 #[v, .string s] w fun e w' => ∃ u, e = .returned (.tuple #[.agg (msgCells ((findD l s).getD m0) u).toArray, .bool (findD l s).isSome]) ∧ SlK 19 sigE w F u ((findD l s).getD m0).sigs ∧ Below w.heap.size w w' :=
  (rfind_any v l s F w h hF).mono (by
    intro e w' hp
    obtain ⟨hb, hp⟩ := hp
    cases hf : findD l s with
    | none => rw [hf] at hp; exact ⟨.slice none 0 0, hp, SlK.nil_ _ _ _ _, hb⟩
    | some m => rw [hf] at hp; obtain ⟨u, h1, h2⟩ := hp; exact ⟨u, h1, h2, hb⟩)
theorem find2 (v : Value) (l : List Nd) (s : ByteArray) (F : Foot) (w : World) (h : SlK 1 ndE w F v l) (hF : ∀ b, F b → b < w.heap.size) (hok : ∀ m, Nd.msg m ∈ l → MsgOk m) :
    Calls Try.prog 12 #[v, .string s] w fun e w' => ∃ u, e = .returned (.tuple #[.agg (msgCells ((findD (msgsOf l) s).getD m0) u).toArray, .bool (findD (msgsOf l) s).isSome]) ∧ OwD 19 (sigO tStr) w' (Iv w.heap.size w'.heap.size) 0 tSig u ((findD (msgsOf l) s).getD m0).sigs ∧ Below w.heap.size w w' :=
  (nodeF.find_any v l s F w h hF hok).mono (by
    intro e w' hp
    obtain ⟨hb, hp⟩ := hp
    rw [find_nodes] at hp
    cases hf : findD (msgsOf l) s with
    | none => rw [hf] at hp; exact ⟨.slice none 0 0, hp, ⟨[], OwX.nil_ _ _ _ _ _ _⟩, hb⟩
    | some m => rw [hf] at hp; obtain ⟨cs, h1, u, rfl, h2⟩ := hp; exact ⟨u, h1, h2, hb⟩)
def MsgD (w : World) (u : Value) (ls : List Sig) (D : List Value) : Prop := ∃ hD : D.length = ls.length, ∃ A c gx, u = .slice A ls.length c ∧ ls.length ≤ c ∧ c ≤ 9223372036854775807 ∧ (0 < ls.length → A = some ⟨gx, 0, none⟩ ∧ gx < w.heap.size ∧ ∃ cs, Has w gx tSig cs) ∧ ∀ i (h : i < ls.length), (∃ A' c', (D[i]'(by rw [hD]; exact h)) = .slice A' ls[i].to.length c') ∧ w.rangeAt gx (i * 19) (sigCells ls[i] (D[i]'(by rw [hD]; exact h)))
theorem MsgD.below {w W : World} {u : Value} {ls : List Sig} {D : List Value} (h : MsgD w u ls D) (hb : Below w.heap.size w W) : MsgD W u ls D := by
  obtain ⟨hD, A, c, gx, h1, h2, h3, h4, h5⟩ := h
  refine ⟨hD, A, c, gx, h1, h2, h3, fun h0 => ?_, fun i hi => ⟨(h5 i hi).1, fun j x hj => ?_⟩⟩
  · obtain ⟨k1, k2, cs, k3⟩ := h4 h0
    exact ⟨k1, Nat.lt_of_lt_of_le k2 hb.size, cs, k3.below hb k2⟩
  · obtain ⟨_, k2, _⟩ := h4 (by omega)
    exact (hb.cell (p := ⟨gx, i * 19 + j, none⟩) k2).trans ((h5 i hi).2 j x hj)
theorem MsgD.kb {w W : World} {u : Value} {ls : List Sig} {D : List Value} (h : MsgD w u ls D) (hk : KB w W) : MsgD W u ls D := by
  obtain ⟨hD, A, c, gx, h1, h2, h3, h4, h5⟩ := h
  refine ⟨hD, A, c, gx, h1, h2, h3, fun h0 => ?_, fun i hi => ⟨(h5 i hi).1, fun j x hj => ?_⟩⟩
  · obtain ⟨k1, k2, cs, k3⟩ := h4 h0
    have := hk gx _ _ (by decide) k3
    exact ⟨k1, this.lt, cs, this⟩
  · obtain ⟨_, k2, cs, k3⟩ := h4 (by omega)
    have k4 := hk gx _ _ (by decide) k3
    exact (World.cell?_of_block (a := ⟨gx, i * 19 + j, none⟩) (k4.trans k3.symm)).trans ((h5 i hi).2 j x hj)
theorem message2 (q : Nat) (v : BV) (x : BL) (D : List Value) (y : Msg) (u : Value) (w : World) (h : Bk w q v x) (hd : MsgD w u y.sigs D) (hn : x.t.length + y.sigs.length ≤ 1000000000) (hy : x.s.length ≤ 100000000) :
    Calls Try.prog 14 #[.pointer (some ⟨q, 0, none⟩), .agg (msgCells y u).toArray] w (BkP q v { x with t := x.t ++ D, s := x.s ++ [u] } w) := by
  obtain ⟨hD, A, c, gx, rfl, h2, h3, h4, h5⟩ := hd
  exact message_any q gx v x D y A c w h hn hy h2 h3 hD h4 h5
/-- A message's copy joins the lists. -/
theorem add2 {base : Nat} {w w1 : World} {x : BL} {RT : List (Value × List ByteArray)} {RS : List apartSg.Row} {u : Value} {ls : List Sig} (h : Coll base w x RT RS) (hbase : base ≤ w.heap.size) (hb : Below w.heap.size w w1) (hm : OwD 19 (sigO tStr) w1 (Iv w.heap.size w1.heap.size) 0 tSig u ls)
    (hl : ls.length ≤ 1000000000) (hto : ∀ s ∈ ls, s.to.length ≤ 1000000000) :
    ∃ (D : List Value) (RT' : List (Value × List ByteArray)) (RS' : List apartSg.Row), Coll base w1 { x with t := x.t ++ D, s := x.s ++ [u] } RT' RS' ∧ RT'.length = RT.length + ls.length ∧ RS'.length = RS.length + 1 ∧ MsgD w1 u ls D := by
  obtain ⟨D, RT', RS', h1, h2, h3, h4, A, c, h5, h6, h7, gx, h8, h9⟩ := h.add hbase hb hm hl hto
  exact ⟨D, RT', RS', h1, h2, h3, h4, A, c, gx, h5, h6, h7, h8, fun i hi => h9 i h4 hi⟩
theorem Coll.len {base : Nat} {w : World} {x : BL} {RT : List (Value × List ByteArray)} {RS : List apartSg.Row} (h : Coll base w x RT RS) : x.t.length = RT.length ∧ x.s.length = RS.length := by rw [h.ht, h.hs, List.length_map, List.length_map]; exact ⟨rfl, rfl⟩
/-- How many signals there are in all. -/
def sumS (l : List Msg) : Nat := (l.map fun m => m.sigs.length).sum
theorem sumS_app (a b : List Msg) : sumS (a ++ b) = sumS a + sumS b := by simp [sumS]
theorem sumS_le (l : List Msg) : sumS l + l.length ≤ (l.map bulkU.msgN).sum := by
  induction l with
  | nil => simp [sumS]
  | cons m t ih =>
    have h1 : m.sigs.length + 1 ≤ bulkU.msgN m := by
      unfold bulkU.msgN
      have : ∀ l : List Sig, l.length ≤ (l.map bulkU.sigN).sum := by
        intro l
        induction l with
        | nil => simp
        | cons s t ih => simp [bulkU.sigN]; omega
      have := this m.sigs
      omega
    simp only [sumS, List.map_cons, List.sum_cons, List.length_cons] at ih ⊢
    omega
theorem to_le (l : List Msg) {m : Msg} (hm : m ∈ l) : m.sigs.length ≤ (l.map bulkU.msgN).sum ∧ ∀ s ∈ m.sigs, s.to.length ≤ (l.map bulkU.msgN).sum := by
  have mem_le : ∀ {α : Type} (f : α → Nat) (l : List α) (x : α), x ∈ l → f x ≤ (l.map f).sum := by
    intro α f l x hx
    induction l with
    | nil => cases hx
    | cons y t ih =>
      rw [List.map_cons, List.sum_cons]
      rcases List.mem_cons.1 hx with rfl | h
      · omega
      · have := ih h; omega
  have h1 := mem_le bulkU.msgN l m hm
  have h2 : ∀ s ∈ m.sigs, bulkU.sigN s ≤ (m.sigs.map bulkU.sigN).sum := fun s hs => mem_le bulkU.sigN _ s hs
  have h3 : m.sigs.length + 1 ≤ bulkU.msgN m := by
    have := sumS_le [m]
    simpa [sumS] using this
  refine ⟨Nat.le_trans (by omega) h1, fun s hs => ?_⟩
  have h4 := h2 s hs
  have h5 : s.to.length + 1 = bulkU.sigN s := rfl
  have h6 : (m.sigs.map bulkU.sigN).sum + 1 = bulkU.msgN m := rfl
  omega
theorem m0_sigs : m0.sigs = [] := rfl
theorem found_le {l : List Msg} {s : ByteArray} {N : Nat} (h : (l.map bulkU.msgN).sum ≤ N) : ((findD l s).getD m0).sigs.length ≤ N ∧ ∀ y ∈ ((findD l s).getD m0).sigs, y.to.length ≤ N := by
  cases hf : findD l s with
  | none => exact ⟨Nat.zero_le _, by intro y hy; simp [m0] at hy⟩
  | some m =>
    obtain ⟨h1, h2⟩ := to_le l (find_mem hf)
    exact ⟨Nat.le_trans h1 h, fun y hy => Nat.le_trans (h2 y hy) h⟩
end nodeT
end Go.Proofs.Ytdibfkcddcjiiaa
