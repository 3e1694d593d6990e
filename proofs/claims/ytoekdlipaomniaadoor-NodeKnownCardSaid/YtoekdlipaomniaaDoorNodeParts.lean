/- NodeKnown's parts as they lie in their boxes; a row of them handed to Gather. No condition. -/
import Derived.Test.YtoekdlipaomniaaDoorGather
import Derived.Test.YtoekdlipaomniaaDoorSlNew
namespace Go.Proofs.YtoekdlipaomniaaDoor
open Go.RowKit Go.Bus Go.Bus.cellK Go.Bus.dbK
set_option linter.unusedVariables false
set_option linter.unusedSimpArgs false
namespace partsK
open nodeC nodeK gatherL
def verX : Ver := ⟨1, 2, ⟨#[120]⟩⟩
def staX : Sta := ⟨0, 0, [⟨#[65]⟩]⟩
def msgX : Msg := ⟨3, 1, 7, false, ⟨#[109]⟩, 0, ⟨#[]⟩, []⟩
def tabX : Tab := ⟨0, 0, 7, false, ⟨#[115]⟩, []⟩
def staV (H : Nat) : Value := .slice (some ⟨H + 1, 0, none⟩) 1 1
inductive Part where
  | v | s | m | t | n
def nd : Part → Option Nd
  | .v => some (.ver verX)
  | .s => some (.sta staX)
  | .m => some (.msg msgX)
  | .t => some (.tab tabX)
  | .n => none
def val (H : Nat) : Part → Value
  | .v => .iface 25 (.agg (verCells verX).toArray)
  | .s => .iface 28 (.agg (staCells staX (staV H)).toArray)
  | .m => .iface 74 (.agg (msgCells msgX (.slice none 0 0)).toArray)
  | .t => .iface 77 (.agg (tabCells tabX (.slice none 0 0)).toArray)
  | .n => .nilIface
/-- The four boxes, and the row of names. -/
structure K (H : Nat) (w W : World) : Prop where
  v : Has W H 25 (verCells verX).toArray
  a : Has W (H + 1) 9 #[.string ⟨#[65]⟩]
  s : Has W (H + 2) 28 (staCells staX (staV H)).toArray
  m : Has W (H + 3) 74 (msgCells msgX (.slice none 0 0)).toArray
  t : Has W (H + 4) 77 (tabCells tabX (.slice none 0 0)).toArray
  bel : Below H w W
theorem K.size {H : Nat} {w W : World} (h : K H w W) : H + 5 ≤ W.heap.size := h.t.lt
theorem K.next {H : Nat} {w W W' : World} (h : K H w W) (hb : Below W.heap.size W W') : K H w W' :=
  ⟨h.v.below hb h.v.lt, h.a.below hb h.a.lt, h.s.below hb h.s.lt, h.m.below hb h.m.lt, h.t.below hb h.t.lt, h.bel.trans (hb.mono (by have := h.size; omega))⟩
theorem K.alloc {H : Nat} {w W : World} (h : K H w W) (o : Obj) : K H w (W.alloc o) := h.next ((Below.refl _ _).alloc (Nat.le_refl _) o)
theorem K.names {H : Nat} {w W : World} (h : K H w W) : SlK 1 strE W (Old W.heap.size) (staV H) staX.names := by
  have hl : (staX.names).length ≤ maxLen := by show 1 ≤ maxLen; unfold maxLen; omega
  refine SlK.whole (k := 1) (cs := [.string ⟨#[65]⟩]) (l := staX.names) h.a rfl h.a.lt hl ?_
  intro i x hi
  have hi : [(⟨#[65]⟩ : ByteArray)][i]? = some x := hi
  cases i with
  | zero => cases hi; rfl
  | succ i => simp at hi
theorem K.part {H : Nat} {w W : World} (h : K H w W) (p : Part) : noE W (Old W.heap.size) [val H p] (nd p) := by
  cases p with
  | v => exact ⟨_, rfl, rfl⟩
  | s => exact ⟨_, rfl, _, rfl, h.names⟩
  | m => exact ⟨_, rfl, _, rfl, SlK.nil_ _ _ _ _⟩
  | t => exact ⟨_, rfl, _, rfl, SlK.nil_ _ _ _ _⟩
  | n => rfl
theorem gath {H : Nat} {w W : World} (h : K H w W) (l : List Part) (T : TypeId) (hl : l.length ≤ 4) :
    Calls Tryd.prog 9 #[.slice (some ⟨W.heap.size, 0, none⟩) l.length l.length] (W.alloc (.cells (l.map (val H)).toArray T)) (GatherP (W.alloc (.cells (l.map (val H)).toArray T)) (gat (l.map nd) 0 0 d0)) := by
  have hs : SlK 1 noE (W.alloc (.cells (l.map (val H)).toArray T)) (Old (W.heap.size + 1)) (.slice (some ⟨W.heap.size, 0, none⟩) (l.map nd).length (l.map nd).length) (l.map nd) :=
    SlK.whole (k := 1) (cs := l.map (val H)) (Has.new W T _) (by simp) (show W.heap.size < W.heap.size + 1 by omega) (by simp; unfold maxLen; omega) (by
      intro i x hi
      rw [List.getElem?_map] at hi
      cases hp : l[i]? with
      | none => rw [hp] at hi; cases hi
      | some p =>
        rw [hp] at hi; cases hi
        rw [part_one (c := val H p) (by rw [List.getElem?_map, hp]; rfl)]
        refine noE_mono _ _ _ _ _ _ (fun b hb => ?_) (fun b hb => heap_alloc_old _ _ hb) (h.part p)
        have hb : b < W.heap.size := hb
        show b < W.heap.size + 1
        omega)
  have hlen : (l.map nd).length = l.length := by simp
  rw [hlen] at hs
  refine gather_any _ _ _ _ hs (fun b hb => by simpa using hb) ?_ ?_ ?_
  · intro x hx
    obtain ⟨p, _, rfl⟩ := List.mem_map.1 hx
    cases p <;> first | trivial | simp [nd, okN, staX, msgX, tabX]
  · have := List.length_filterMap_le getM (l.map nd)
    have h2 : (l.map nd).length = l.length := by simp
    omega
  · have := List.length_filterMap_le getT (l.map nd)
    have h2 : (l.map nd).length = l.length := by simp
    omega
theorem g1 : gat (([.s, .m, .m, .t] : List Part).map nd) 0 0 d0 = .ok { d0 with sta := staX, msgs := [msgX, msgX], tabs := [tabX] } := by simp [gat, nd, wrong, rankO, rank, put, d0]
theorem g2 : gat (([.v, .s] : List Part).map nd) 0 0 d0 = .ok { d0 with hasV := true, ver := verX, sta := staX } := by simp [gat, nd, wrong, rankO, rank, put, d0]
theorem g3 : gat (([.s, .t] : List Part).map nd) 0 0 d0 = .ok { d0 with sta := staX, tabs := [tabX] } := by simp [gat, nd, wrong, rankO, rank, put, d0]
theorem e1 : gat (([] : List Part).map nd) 0 0 d0 = .no 2 0 := by simp [gat, nd, wrong, rankO, rank, put, d0]
theorem e2 : gat (([.v] : List Part).map nd) 0 0 d0 = .no 2 1 := by simp [gat, nd, wrong, rankO, rank, put, d0]
theorem e3 : gat (([.m, .s] : List Part).map nd) 0 0 d0 = .no 4 0 := by simp [gat, nd, wrong, rankO, rank, put, d0]
theorem e4 : gat (([.s, .v] : List Part).map nd) 0 0 d0 = .no 4 1 := by simp [gat, nd, wrong, rankO, rank, put, d0]
theorem e5 : gat (([.s, .s] : List Part).map nd) 0 0 d0 = .no 4 1 := by simp [gat, nd, wrong, rankO, rank, put, d0]
theorem e6 : gat (([.s, .t, .m] : List Part).map nd) 0 0 d0 = .no 4 2 := by simp [gat, nd, wrong, rankO, rank, put, d0]
theorem e7 : gat (([.v, .v, .s] : List Part).map nd) 0 0 d0 = .no 4 1 := by simp [gat, nd, wrong, rankO, rank, put, d0]
theorem e8 : gat (([.s, .n] : List Part).map nd) 0 0 d0 = .no 4 1 := by simp [gat, nd, wrong, rankO, rank, put, d0]
end partsK
end Go.Proofs.YtoekdlipaomniaaDoor
