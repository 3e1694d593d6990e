/- What node.message keeps between two signals: the first k have lists of their own. Plain. -/
import Derived.Test.YtdibfkcddcjiiaaDbData
namespace Go.Bus.dbK
open Go.RowKit Go.Bus Go.Bus.cellK
set_option linter.unusedVariables false
theorem elt_set_other {k : Nat} {xs : List Value} {i j o : Nat} {u : Value} (h : i ≠ j) (ho : o < k) : eltOf k (xs.set (i * k + o) u) j = eltOf k xs j := by
  unfold eltOf
  apply List.ext_getElem?
  intro m
  simp only [List.getElem?_take, List.getElem?_drop]
  split
  · rename_i hm
    rw [List.getElem?_set_ne]
    rcases Nat.lt_or_ge i j with h1 | h1
    · have : (i + 1) * k ≤ j * k := Nat.mul_le_mul_right k h1
      rw [Nat.add_mul, Nat.one_mul] at this
      omega
    · have h2 : j + 1 ≤ i := by omega
      have : (j + 1) * k ≤ i * k := Nat.mul_le_mul_right k h2
      rw [Nat.add_mul, Nat.one_mul] at this
      omega
  · rfl
theorem elt_set_same {k : Nat} {xs : List Value} {n i o : Nat} {u : Value} (hl : xs.length = n * k) (hi : i < n) (ho : o < k) : eltOf k (xs.set (i * k + o) u) i = (eltOf k xs i).set o u := by
  unfold eltOf
  apply List.ext_getElem?
  intro m
  simp only [List.getElem?_take, List.getElem?_drop, List.getElem?_set, List.length_take, List.length_drop]
  have : (i + 1) * k ≤ n * k := Nat.mul_le_mul_right k hi
  rw [Nat.add_mul, Nat.one_mul] at this
  by_cases hm : m < k
  · simp only [hm, if_true]
    by_cases hmo : m = o
    · subst hmo
      rw [if_pos rfl, if_pos rfl, if_pos (by omega), if_pos (by omega)]
    · rw [if_neg (by omega), if_neg (by omega)]
  · simp only [hm, if_false]
    rw [if_neg (by omega)]
structure MsgInv (S G : TypeId) (w : World) (F : Foot) (B H : Nat) (V : Value) (sigs : List Sig) (k : Nat) (xs : List Value) (Fs : Nat → Foot) : Prop where
  own : w.ownsRow B G 19 V sigs.length xs
  done : ∀ j s, j < k → sigs[j]? = some s → sigO S w (Fs j) (eltOf 19 xs j) s
  todo : ∀ j s, k ≤ j → sigs[j]? = some s → sigE w F (eltOf 19 xs j) s
  foot : ∀ j, j < k → ∀ b, Fs j b → H ≤ b ∧ b < w.heap.size
  disj : ∀ i j, i < k → j < k → i ≠ j → ∀ b, Fs i b → ¬ Fs j b
  low : ∀ g, V.ownBlock = some g → g < H
  old : ∀ b, F b → b < B
  mid : B ≤ H
  size : H ≤ w.heap.size
section
variable {S G : TypeId} {w w1 w2 w3 : World} {F : Foot} {B H : Nat} {V : Value} {sigs : List Sig} {k : Nat} {xs : List Value} {Fs : Nat → Foot}
theorem MsgInv.start {B0 : Nat} {p : Addr} {u : Value} (ho : w1.ownsRow B G 19 V sigs.length xs) (hx : ∀ i x, sigs[i]? = some x → sigE w1 F (eltOf 19 xs i) x) (hF : ∀ b, F b → b < B0) (hp : B0 ≤ p.block) (hpB : p.block < B) (hB : B ≤ w1.heap.size) :
    MsgInv S G (w1.setCell p u) F B w1.heap.size V sigs 0 xs (fun _ _ => False) := by
  refine ⟨ownsRow_setCell_below ho hpB u, fun j s hj => absurd hj (Nat.not_lt_zero _), fun j s _ hs => ?_, fun j hj => absurd hj (Nat.not_lt_zero _), fun i j hi => absurd hi (Nat.not_lt_zero _), fun g hg => (ho.lt g hg).2, fun b hb => by have := hF b hb; omega, hB, by simp⟩
  exact sigE_mono _ _ _ _ _ _ (fun _ h => h) (fun b hb => heap_setCell_other _ _ _ _ (by have := hF b hb; omega)) (hx j s hs)
theorem MsgInv.heap (h : MsgInv S G w F B H V sigs k xs Fs) (hh : w1.heap = w.heap) : MsgInv S G w1 F B H V sigs k xs Fs := by
  have hb : ∀ b : Nat, w1.heap[b]? = w.heap[b]? := fun b => by rw [hh]
  refine ⟨own_keepB (w' := w1) (g := 0) h.own (fun b _ => hb b), fun j s hj hs => sigO_mono _ _ _ _ _ _ (fun _ h => h) (fun b _ => hb b) (h.done j s hj hs), fun j s hj hs => sigE_mono _ _ _ _ _ _ (fun _ h => h) (fun b _ => hb b) (h.todo j s hj hs), fun j hj b hf => ?_, h.disj, h.low, h.old, h.mid, ?_⟩
  · rw [hh]; exact h.foot j hj b hf
  · rw [hh]; exact h.size
theorem MsgInv.at_ {n c : Nat} {A : Option Addr} (h : MsgInv S G w F B H (.slice A n c) sigs k xs Fs) (hk : k < sigs.length) :
    ∃ g u, A = some ⟨g, 0, none⟩ ∧ n = sigs.length ∧ n ≤ c ∧ c ≤ 9223372036854775807 ∧ w.cell? ⟨g, k * 19 + 18, none⟩ = some u ∧ w.frozen? ⟨g, k * 19 + 18, none⟩ = false ∧ SlK 1 strE w F u sigs[k].to ∧ B ≤ g ∧ g < H ∧ eltOf 19 xs k = sigCells sigs[k] u := by
  have hs := h.todo k sigs[k] (Nat.le_refl _) (List.getElem?_eq_getElem hk)
  obtain ⟨u, hu, hsl⟩ := hs
  rcases h.own.2 with ⟨hv, h0⟩ | ⟨g, cap, cur, hv, hb, hg, hn, hm, hsz, ht⟩
  · omega
  · simp only [Value.slice.injEq] at hv
    obtain ⟨rfl, rfl, rfl⟩ := hv
    have hc : w.cell? ⟨g, k * 19 + 18, none⟩ = some u := by
      have ho : w.ownsRow B G 19 (.slice (some ⟨g, 0, none⟩) sigs.length c) sigs.length xs := h.own
      rw [ho.cellAt (k * 19 + 18) (by omega)]
      have h1 : (eltOf 19 xs k)[18]? = some u := by rw [hu]; rfl
      exact (eltOf_get h1).1
    exact ⟨g, u, rfl, rfl, hn, by unfold maxLen at hm; omega, hc, (show w.ownsRow B G 19 (.slice (some ⟨g, 0, none⟩) sigs.length c) sigs.length xs from h.own).frozenAt _, hsl, hb, h.low g rfl, hu⟩
theorem MsgInv.step {g n c : Nat} {u v2 : Value} {T : TypeId} (h : MsgInv S G w F B H (.slice (some ⟨g, 0, none⟩) n c) sigs k xs Fs) (hk : k < sigs.length) (hn : n = sigs.length) (hu : eltOf 19 xs k = sigCells sigs[k] u)
    (hb : Below w.heap.size w w2) (ho : OwD 1 strE w2 (Iv w.heap.size w2.heap.size) T S v2 sigs[k].to) :
    MsgInv S G (w2.setCell ⟨g, k * 19 + 18, none⟩ v2) F B H (.slice (some ⟨g, 0, none⟩) n c) sigs (k + 1) (xs.set (k * 19 + 18) v2) (fun j => if j < k then Fs j else Iv w.heap.size w2.heap.size) := by
  subst hn
  have hs2 := hb.size
  have hsz := h.size
  have hlow : g < H := h.low g rfl
  have hBg : B ≤ g := (h.own.lt g rfl).1
  have own2 : w2.ownsRow B G 19 (.slice (some ⟨g, 0, none⟩) sigs.length c) sigs.length xs := own_keepB (g := 0) h.own fun b hbb => hb.block b (by have : g = b := (by simpa [Value.ownBlock] using hbb); omega)
  have hst := own2.stored (k * 19 + 18) v2
  have hl : xs.length = sigs.length * 19 := h.own.1
  have far : ∀ b, b ≠ g → (w2.setCell ⟨g, k * 19 + 18, none⟩ v2).heap[b]? = w2.heap[b]? := fun b hne => heap_setCell_other _ _ _ _ hne
  refine ⟨hst.1, fun j s hj hs => ?_, fun j s hj hs => ?_, fun j hj b hf => ?_, fun i j hi hj hij b hbi hbj => ?_, h.low, h.old, h.mid, by simp; omega⟩
  · rcases Nat.lt_or_ge j k with hlt | hge
    · simp only [hlt, if_true]
      rw [elt_set_other (by omega) (by omega)]
      refine sigO_mono _ _ _ _ _ _ (fun _ h => h) (fun b hf => ?_) (h.done j s hlt hs)
      have h1 := h.foot j hlt b hf
      rw [far b (by omega), hb.block b h1.2]
    · obtain rfl : j = k := by omega
      simp only [Nat.lt_irrefl, if_false]
      rw [elt_set_same hl hk (by omega), hu]
      obtain rfl : sigs[j] = s := by rw [List.getElem?_eq_getElem hk] at hs; exact Option.some.inj hs
      obtain ⟨ys, ho1, ho2, ho3⟩ := ho
      have hox : OwX 1 strE w2 (Iv w.heap.size w2.heap.size) 0 S v2 sigs[j].to ys := ⟨own_base ho1 (Nat.zero_le _), ho2, ho3⟩
      exact ⟨v2, rfl, ys, hox.keep strE_mono (fun _ h => h) fun b hbi => far b (by have := hbi.1; omega)⟩
  · rw [elt_set_other (by omega) (by omega)]
    refine sigE_mono _ _ _ _ _ _ (fun _ h => h) (fun b hf => ?_) (h.todo j s (by omega) hs)
    have h1 := h.old b hf
    have h2 := h.mid
    rw [far b (by omega), hb.block b (by omega)]
  · have hsame : (w2.setCell ⟨g, k * 19 + 18, none⟩ v2).heap.size = w2.heap.size := by simp
    rw [hsame]
    rcases Nat.lt_or_ge j k with hlt | hge
    · simp only [hlt, if_true] at hf
      have h1 := h.foot j hlt b hf
      exact ⟨h1.1, by omega⟩
    · simp only [Nat.not_lt.2 hge, if_false] at hf
      exact ⟨by have := hf.1; omega, hf.2⟩
  · rcases Nat.lt_or_ge i k with h1 | h1 <;> rcases Nat.lt_or_ge j k with h2 | h2
    · simp only [h1, h2, if_true] at hbi hbj
      exact h.disj i j h1 h2 hij b hbi hbj
    · simp only [h1, if_true] at hbi
      simp only [Nat.not_lt.2 h2, if_false] at hbj
      have := (h.foot i h1 b hbi).2
      have := hbj.1
      omega
    · simp only [h2, if_true] at hbj
      simp only [Nat.not_lt.2 h1, if_false] at hbi
      have := (h.foot j h2 b hbj).2
      have := hbi.1
      omega
    · omega
theorem MsgInv.end_ {B1 : Nat} (h : MsgInv S G w F B H V sigs sigs.length xs Fs) (hsame : w3.heap.size = w.heap.size) (hB : B1 ≤ B) (hk : ∀ b, B ≤ b → w3.heap[b]? = w.heap[b]?) : OwD 19 (sigO S) w3 (Iv B1 w3.heap.size) 0 G V sigs := by
  have h1 : OwX 19 (sigO S) w (Iv B w.heap.size) 0 G V sigs xs :=
    ⟨own_base h.own (Nat.zero_le _), fun g hg => h.own.lt g hg, Fs, fun i s hi => h.done i s (List.getElem?_eq_some_iff.1 hi).1 hi,
      fun i hi b hf => ⟨⟨by have := (h.foot i hi b hf).1; have := h.mid; omega, (h.foot i hi b hf).2⟩, fun he => by have := h.low b he; have := (h.foot i hi b hf).1; omega⟩, h.disj⟩
  exact ⟨xs, h1.keep sigO_mono (fun b hb => ⟨by have := hb.1; omega, by rw [hsame]; exact hb.2⟩) fun b hb => hk b hb.1⟩
end
end Go.Bus.dbK
