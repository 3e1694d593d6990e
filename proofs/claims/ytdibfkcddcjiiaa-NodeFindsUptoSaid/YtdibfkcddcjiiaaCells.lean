/- Slices of structs: what it is that a slice reads as a list, so many cells an element; rows of the call's own of such elements. Plain. No condition. -/
import Derived.Test.YtdibfkcddcjiiaaOpen
import Derived.Deep.MidRow
import Derived.Deep.Slices
namespace Go.Bus.cellK
open Go.RowKit Go.Bus
set_option linter.unusedVariables false
abbrev Foot := Nat → Prop
abbrev Old (B : Nat) : Foot := fun b => b < B
abbrev Iv (lo hi : Nat) : Foot := fun b => lo ≤ b ∧ b < hi
abbrev Rel (α : Type) := World → Foot → List Value → α → Prop
/-- What is read depends only on the blocks of F. -/
def Mono {α : Type} (R : Rel α) : Prop := ∀ (w w' : World) (F F' : Foot) (cs : List Value) (x : α), (∀ b, F b → F' b) → (∀ b, F b → w'.heap[b]? = w.heap[b]?) → R w F cs x → R w' F' cs x
/-- Each cell is one cell. -/
def One {α : Type} (R : Rel α) : Prop := ∀ (w : World) (F : Foot) (cs : List Value) (x : α), R w F cs x → ∀ u ∈ cs, u.oneCell' = true
/-- The part of row xs that is element i, k cells each. -/
def eltOf (k : Nat) (xs : List Value) (i : Nat) : List Value := (xs.drop (i * k)).take k
theorem eltOf_len {k : Nat} {xs : List Value} {n i : Nat} (h : xs.length = n * k) (hi : i < n) : (eltOf k xs i).length = k := by
  have : (i + 1) * k ≤ n * k := Nat.mul_le_mul_right k hi
  rw [Nat.add_mul, Nat.one_mul] at this
  rw [eltOf, List.length_take, List.length_drop]; omega
theorem eltOf_get {k : Nat} {xs : List Value} {i j : Nat} {c : Value} (h : (eltOf k xs i)[j]? = some c) : xs[i * k + j]? = some c ∧ j < k := by
  unfold eltOf at h
  rw [List.getElem?_take] at h
  split at h
  · rw [List.getElem?_drop] at h; exact ⟨h, by assumption⟩
  · cases h
theorem part_append_left {k : Nat} {xs ys : List Value} {n i : Nat} (h : xs.length = n * k) (hi : i < n) : eltOf k (xs ++ ys) i = eltOf k xs i := by
  have : (i + 1) * k ≤ n * k := Nat.mul_le_mul_right k hi
  rw [Nat.add_mul, Nat.one_mul] at this
  unfold eltOf
  rw [List.drop_append_of_le_length (by omega), List.take_append_of_le_length (by rw [List.length_drop]; omega)]
theorem part_append_right {k : Nat} {xs ys : List Value} {n : Nat} (h : xs.length = n * k) (hy : ys.length = k) : eltOf k (xs ++ ys) n = ys := by
  unfold eltOf
  rw [← h, List.drop_left, ← hy, List.take_length]
theorem part_one {xs : List Value} {i : Nat} {c : Value} (h : xs[i]? = some c) : eltOf 1 xs i = [c] := by
  unfold eltOf
  rw [Nat.mul_one]
  obtain ⟨hi, hc⟩ := List.getElem?_eq_some_iff.1 h
  rw [List.drop_eq_getElem_cons hi, hc]; rfl
theorem range_part {w : World} {b o k : Nat} {xs : List Value} (h : w.rangeAt b o xs) (i : Nat) : w.rangeAt b (o + i * k) (eltOf k xs i) := by
  intro j c hj
  have := h (i * k + j) c (eltOf_get hj).1
  rw [Nat.add_assoc]
  exact this
/-- The slice v holds the n elements of the row xs, k cells each. -/
def Src (k : Nat) (w : World) (F : Foot) (v : Value) (n : Nat) (xs : List Value) : Prop :=
  ∃ A cap, v = .slice A n cap ∧ n ≤ cap ∧ cap ≤ maxLen ∧ xs.length = n * k ∧ (0 < n → ∃ b off, A = some ⟨b, off, none⟩ ∧ F b ∧ w.rangeAt b off xs)
/-- The slice v reads as the list l: k cells an element, each as R says; its blocks are of F. -/
def SlK {α : Type} (k : Nat) (R : Rel α) (w : World) (F : Foot) (v : Value) (l : List α) : Prop :=
  ∃ xs, Src k w F v l.length xs ∧ ∀ i x, l[i]? = some x → R w F (eltOf k xs i) x
section
variable {α : Type} {k n : Nat} {R R' : Rel α} {w w' : World} {F F' : Foot} {v : Value} {l : List α} {xs : List Value}
theorem range_keep {b o : Nat} {cs : List Value} (hk : w'.heap[b]? = w.heap[b]?) (h : w.rangeAt b o cs) : w'.rangeAt b o cs := fun j v hj => (World.cell?_of_block (a := ⟨b, o + j, none⟩) hk).trans (h j v hj)
theorem Src.keep (hF : ∀ b, F b → F' b) (hk : ∀ b, F b → w'.heap[b]? = w.heap[b]?) (h : Src k w F v n xs) : Src k w' F' v n xs := by
  obtain ⟨A, cap, rfl, hl, hc, hx, h0⟩ := h
  refine ⟨A, cap, rfl, hl, hc, hx, fun hn => ?_⟩
  obtain ⟨b, off, rfl, hb, hr⟩ := h0 hn
  exact ⟨b, off, rfl, hF b hb, range_keep (hk b hb) hr⟩
theorem SlK.keep (hR : Mono R) (hF : ∀ b, F b → F' b) (hk : ∀ b, F b → w'.heap[b]? = w.heap[b]?) (h : SlK k R w F v l) : SlK k R w' F' v l := by
  obtain ⟨xs, h1, h2⟩ := h
  exact ⟨xs, h1.keep hF hk, fun i x hi => hR w w' F F' _ x hF hk (h2 i x hi)⟩
theorem SlK.belowF {B : Nat} (hR : Mono R) (h : SlK k R w F v l) (hF : ∀ b, F b → b < B) (hb : Below B w w') : SlK k R w' F v l := h.keep hR (fun _ h => h) fun b hlt => hb.block b (hF b hlt)
theorem SlK.below {B : Nat} (hR : Mono R) (h : SlK k R w (Old B) v l) (hb : Below B w w') : SlK k R w' (Old B) v l := h.belowF hR (fun _ h => h) hb
theorem SlK.more (hR : Mono R) (h : SlK k R w F v l) (hF : ∀ b, F b → F' b) : SlK k R w F' v l := h.keep hR hF fun _ _ => rfl
/-- Into a later world, everything that is there by then. -/
theorem SlK.later (hR : Mono R) (h : SlK k R w (Old w.heap.size) v l) (hb : Below w.heap.size w w') : SlK k R w' (Old w'.heap.size) v l := (h.below hR hb).more hR fun b hlt => Nat.lt_of_lt_of_le hlt hb.size
theorem SlK.weak (h : SlK k R w F v l) (hRR : ∀ cs x, R w F cs x → R' w F cs x) : SlK k R' w F v l := by
  obtain ⟨xs, h1, h2⟩ := h
  exact ⟨xs, h1, fun i x hi => hRR _ _ (h2 i x hi)⟩
theorem Src.nil_ (k : Nat) (w : World) (F : Foot) : Src k w F (.slice none 0 0) 0 [] := ⟨none, 0, rfl, Nat.le_refl _, Nat.zero_le _, by simp, fun h => absurd h (by simp)⟩
theorem SlK.nil_ (k : Nat) (R : Rel α) (w : World) (F : Foot) : SlK k R w F (.slice none 0 0) [] := ⟨[], Src.nil_ k w F, fun i x hi => by simp at hi⟩
theorem SlK.form (h : SlK k R w F v l) : ∃ A cap, v = .slice A l.length cap ∧ l.length ≤ cap ∧ cap ≤ maxLen := by
  obtain ⟨xs, ⟨A, cap, h1, h2, h3, _⟩, _⟩ := h
  exact ⟨A, cap, h1, h2, h3⟩
theorem Src.form_ (h : Src k w F v n xs) : ∃ A cap, v = .slice A n cap ∧ n ≤ cap ∧ cap ≤ maxLen := by
  obtain ⟨A, cap, h1, h2, h3, _⟩ := h
  exact ⟨A, cap, h1, h2, h3⟩
/-- An element: where it lies, its cells, what it reads as. -/
theorem SlK.at_ {A : Option Addr} {cap i : Nat} (h : SlK k R w F (.slice A n cap) l) (hi : i < l.length) :
    ∃ b off cs, A = some ⟨b, off, none⟩ ∧ F b ∧ cs.length = k ∧ w.rangeAt b (off + i * k) cs ∧ R w F cs l[i] := by
  obtain ⟨xs, ⟨A', cap', hv, _, _, hx, h0⟩, h2⟩ := h
  obtain ⟨b, off, rfl, hb, hr⟩ := h0 (by omega)
  simp only [Value.slice.injEq] at hv
  exact ⟨b, off, eltOf k xs i, hv.1, hb, eltOf_len hx hi, range_part hr i, h2 i _ (List.getElem?_eq_getElem hi)⟩
theorem SlK.len {A : Option Addr} {cap : Nat} (h : SlK k R w F (.slice A n cap) l) : n = l.length ∧ n ≤ cap ∧ cap ≤ maxLen := by
  obtain ⟨xs, ⟨A', cap', hv, h1, h2, _⟩, _⟩ := h
  simp only [Value.slice.injEq] at hv
  obtain ⟨_, rfl, rfl⟩ := hv
  exact ⟨rfl, h1, h2⟩
end
/-- Rows of the call's own, one block each: a list, its elements' own blocks apart from one another and from its own. -/
def OwX {α : Type} (k : Nat) (R : Rel α) (w : World) (F : Foot) (base : Nat) (e : TypeId) (v : Value) (l : List α) (xs : List Value) : Prop :=
  w.ownsRow base e k v l.length xs ∧ (∀ g, v.ownBlock = some g → F g) ∧
  ∃ Fs : Nat → Foot, (∀ i x, l[i]? = some x → R w (Fs i) (eltOf k xs i) x) ∧ (∀ i, i < l.length → ∀ b, Fs i b → F b ∧ v.ownBlock ≠ some b) ∧ (∀ i j, i < l.length → j < l.length → i ≠ j → ∀ b, Fs i b → ¬ Fs j b)
def OwD {α : Type} (k : Nat) (R : Rel α) (w : World) (F : Foot) (base : Nat) (e : TypeId) (v : Value) (l : List α) : Prop := ∃ xs, OwX k R w F base e v l xs
section
variable {α : Type} {k : Nat} {R R' : Rel α} {w w' : World} {F F' : Foot} {base : Nat} {e : TypeId} {v : Value} {l : List α} {xs : List Value}
theorem OwX.sl (hR : Mono R) (h : OwX k R w F base e v l xs) : Src k w F v l.length xs ∧ ∀ i x, l[i]? = some x → R w F (eltOf k xs i) x := by
  obtain ⟨ho, hF, Fs, hx, hFs, _⟩ := h
  refine ⟨?_, fun i x hi => hR w w (Fs i) F _ x (fun b hb => (hFs i (List.getElem?_eq_some_iff.1 hi).1 b hb).1) (fun _ _ => rfl) (hx i x hi)⟩
  rcases ho.2 with ⟨rfl, h0⟩ | ⟨g, cap, cur, rfl, hb, hg, hn, hm, hs, ht⟩
  · obtain rfl : l = [] := List.eq_nil_of_length_eq_zero h0
    exact ⟨none, 0, rfl, Nat.le_refl _, Nat.zero_le _, ho.1, fun h => absurd h (by simp)⟩
  · refine ⟨_, cap, rfl, hn, hm, ho.1, fun _ => ⟨g, 0, rfl, hF g rfl, fun j u hj => ?_⟩⟩
    have h1 := ho.cells (g := g) rfl j u hj
    rw [Addr.add_mid] at h1
    exact h1
theorem OwD.sl (hR : Mono R) (h : OwD k R w F base e v l) : SlK k R w F v l := by
  obtain ⟨xs, h⟩ := h
  exact ⟨xs, h.sl hR⟩
theorem own_keepB {g : Nat} (ho : w.ownsRow base e k v l.length xs) (hk : ∀ b, v.ownBlock = some b → w'.heap[b]? = w.heap[b]?) : w'.ownsRow base e k v l.length xs := by
  refine ⟨ho.1, ?_⟩
  rcases ho.2 with hn | ⟨g, cap, cur, rfl, hb, hg, rest⟩
  · exact .inl hn
  · exact .inr ⟨g, cap, cur, rfl, hb, (hk g rfl).trans hg, rest⟩
theorem OwX.keep (hR : Mono R) (hF : ∀ b, F b → F' b) (hk : ∀ b, F b → w'.heap[b]? = w.heap[b]?) (h : OwX k R w F base e v l xs) : OwX k R w' F' base e v l xs := by
  obtain ⟨ho, hown, Fs, hx, hFs, hd⟩ := h
  exact ⟨own_keepB (g := 0) ho (fun b hb => hk b (hown b hb)), fun g hg => hF g (hown g hg), Fs, fun i x hi => hR w w' (Fs i) (Fs i) _ x (fun _ h => h) (fun b hb => hk b (hFs i (List.getElem?_eq_some_iff.1 hi).1 b hb).1) (hx i x hi),
    fun i hi b hb => ⟨hF b (hFs i hi b hb).1, (hFs i hi b hb).2⟩, hd⟩
theorem OwD.keep (hR : Mono R) (hF : ∀ b, F b → F' b) (hk : ∀ b, F b → w'.heap[b]? = w.heap[b]?) (h : OwD k R w F base e v l) : OwD k R w' F' base e v l := by
  obtain ⟨xs, h⟩ := h
  exact ⟨xs, h.keep hR hF hk⟩
theorem OwD.weak (h : OwD k R w F base e v l) (hRR : ∀ F cs x, R w F cs x → R' w F cs x) : OwD k R' w F base e v l := by
  obtain ⟨xs, ho, hF, Fs, hx, h1, h2⟩ := h
  exact ⟨xs, ho, hF, Fs, fun i x hi => hRR _ _ _ (hx i x hi), h1, h2⟩
theorem OwX.nil_ (k : Nat) (R : Rel α) (w : World) (F : Foot) (base : Nat) (e : TypeId) : OwX k R w F base e (.slice none 0 0) [] [] :=
  ⟨World.ownsRow_nil _ _ _ _, fun g hg => by simp [Value.ownBlock] at hg, fun _ _ => False, fun i x hi => by simp at hi, fun i hi => by simp at hi, fun i j hi => by simp at hi⟩
/-- A round that appends one element: it was made behind w (its blocks are new in w1), o is laid (the append's own new cells), and the append turned the row's block alone. -/
theorem OwX.snoc {B : Nat} {w1 w2 w3 : World} {v3 : Value} {cs : List Value} {x : α} (hR : Mono R) (h : OwX k R w (Iv B w.heap.size) base e v l xs) (hB : B ≤ base) (hwB : B ≤ w.heap.size) (hb1 : Below w.heap.size w w1) (hn : R w1 (Iv w.heap.size w1.heap.size) cs x) (hc : cs.length = k)
    (hb2 : Below w1.heap.size w1 w2) (hg : w2.grownBy w3 v.ownBlock) (ho : w3.ownsRow base e k v3 (l.length + 1) (xs ++ cs)) (hv : v3.ownBlock = v.ownBlock ∨ ∀ g, v3.ownBlock = some g → w2.heap.size ≤ g) :
    OwX k R w3 (Iv B w3.heap.size) base e v3 (l ++ [x]) (xs ++ cs) := by
  obtain ⟨hown, hF, Fs, hx, hFs, hd⟩ := h
  have hl : xs.length = l.length * k := hown.1
  have s1 := hb1.size
  have s2 := hb2.size
  have s3 := hg.size
  have hsame : ∀ b, v.ownBlock ≠ some b → b < w2.heap.size → w3.heap[b]? = w2.heap[b]? := fun b hne hlt => hg.block b hlt fun he => hne he.symm
  refine ⟨by simpa using ho, fun g hg' => ?_, fun i => if i < l.length then Fs i else Iv w.heap.size w1.heap.size, fun i y hi => ?_, fun i hi b hb => ?_, fun i j hi hj hij b hbi hbj => ?_⟩
  · have := ho.lt g hg'
    exact ⟨by omega, this.2⟩
  · rcases Nat.lt_or_ge i l.length with hlt | hge
    · rw [List.getElem?_append_left hlt] at hi
      simp only [hlt, if_true]
      rw [part_append_left hl hlt]
      refine hR w w3 (Fs i) (Fs i) _ y (fun _ h => h) (fun b hb => ?_) (hx i y hi)
      have h1 := hFs i hlt b hb
      have hbw : b < w.heap.size := h1.1.2
      rw [hsame b h1.2 (by omega), hb2.block b (by omega), hb1.block b hbw]
    · have hl2 := (List.getElem?_eq_some_iff.1 hi).1
      simp at hl2
      obtain rfl : i = l.length := by omega
      rw [List.getElem?_append_right (Nat.le_refl _), Nat.sub_self] at hi
      simp at hi
      subst hi
      simp only [Nat.lt_irrefl, if_false]
      rw [part_append_right hl hc]
      refine hR w1 w3 _ _ _ x (fun _ h => h) (fun b hb => ?_) hn
      have hne : v.ownBlock ≠ some b := fun he => by have := (hown.lt b he).2; have := hb.1; omega
      rw [hsame b hne (by have := hb.2; omega), hb2.block b hb.2]
  · rcases Nat.lt_or_ge i l.length with hlt | hge
    · simp only [hlt, if_true] at hb
      have h1 := hFs i hlt b hb
      have hbw := h1.1.2
      refine ⟨⟨h1.1.1, by omega⟩, ?_⟩
      rcases hv with hv | hv
      · rw [hv]; exact h1.2
      · intro he
        have := hv b he
        omega
    · simp only [Nat.not_lt.2 hge, if_false] at hb
      refine ⟨⟨by have := hb.1; omega, by have := hb.2; omega⟩, ?_⟩
      rcases hv with hv | hv
      · rw [hv]
        intro he
        have := (hown.lt b he).2
        have := hb.1
        omega
      · intro he
        have := hv b he
        have := hb.2
        omega
  · simp at hi hj
    rcases Nat.lt_or_ge i l.length with h1 | h1 <;> rcases Nat.lt_or_ge j l.length with h2 | h2
    · simp only [h1, h2, if_true] at hbi hbj
      exact hd i j h1 h2 hij b hbi hbj
    · simp only [h1, if_true] at hbi
      simp only [Nat.not_lt.2 h2, if_false] at hbj
      have := (hFs i h1 b hbi).1.2
      have := hbj.1
      omega
    · simp only [h2, if_true] at hbj
      simp only [Nat.not_lt.2 h1, if_false] at hbi
      have := (hFs j h2 b hbj).1.2
      have := hbi.1
      omega
    · omega
end
/-- All cells of a slice's row are one cell each. -/
theorem one_all {α : Type} {k : Nat} {R : Rel α} {w : World} {F : Foot} {v : Value} {l : List α} {xs : List Value} (hs : Src k w F v l.length xs) (hR : One R) (hx : ∀ i x, l[i]? = some x → R w F (eltOf k xs i) x) : ∀ u ∈ xs, u.oneCell' = true := by
  intro u hu
  obtain ⟨A, cap, _, _, _, hl, _⟩ := hs
  obtain ⟨j, hj⟩ := List.mem_iff_getElem?.1 hu
  have hjl := (List.getElem?_eq_some_iff.1 hj).1
  have hk : 0 < k := by
    rcases Nat.eq_zero_or_pos k with h0 | h0
    · subst h0; omega
    · exact h0
  have hi : j / k < l.length := Nat.div_lt_of_lt_mul (by rw [Nat.mul_comm]; omega)
  refine hR w F _ _ (hx (j / k) _ (List.getElem?_eq_getElem hi)) u (List.mem_iff_getElem?.2 ⟨j % k, ?_⟩)
  have h4 : j / k * k + j % k = j := by rw [Nat.mul_comm]; exact Nat.div_add_mod j k
  unfold eltOf
  rw [List.getElem?_take, if_pos (Nat.mod_lt _ hk), List.getElem?_drop, h4]
  exact hj
/-- Texts: one cell an element. -/
def strE : Rel ByteArray := fun _ _ cs s => cs = [.string s]
theorem strE_mono : Mono strE := fun _ _ _ _ _ _ _ _ h => h
theorem strE_one : One strE := by
  rintro w F cs x rfl u hu
  simp at hu; subst hu; rfl
/-- A slice of one-cell elements reads as before (Base's word). -/
theorem SlK.sl1 {α : Type} {f : α → Value} {w : World} {B : Nat} {v : Value} {l : List α} (h : SlK 1 (fun _ _ cs x => cs = [f x]) w (Old B) v l) : Sl w B f v l := by
  obtain ⟨xs, ⟨A, cap, rfl, h1, h2, hl, hx⟩, hc⟩ := h
  refine ⟨A, cap, rfl, h1, h2, fun h0 => ?_⟩
  obtain ⟨b, off, rfl, hb, hr⟩ := hx h0
  refine ⟨b, off, rfl, hb, fun i x hi => ?_⟩
  have h3 := range_part (k := 1) hr i
  rw [hc i x hi, Nat.mul_one] at h3
  exact h3 0 _ rfl
/-! ### Slices that came in -/
section
variable {H : Type} {enc : TypeId × Value → H} {P : Program} {w : World}
open Go.ChangeShapes Go.WideShapes
theorem weights_all {e : TypeId} {d : DataW H} : ∀ {l : List (DataW H)} {q : Nat}, d ∈ l → q ∈ d.weights P e → q ∈ DataW.weightsAll P e l
  | x :: r, q, hd, hq => by
    rw [DataW.weightsAll, List.mem_append]
    rcases List.mem_cons.1 hd with rfl | h
    · exact .inl hq
    · exact .inr (weights_all h hq)
/-- The fields of a struct that was read as data: field i, of type u, at offset o, of c cells. -/
theorem field_of {t : TypeId} {fs : Array Field} {n : Nat} {cs : List Value} {x : DataW H × List MemPlace} (ht : P.underlying t = some (.struct fs)) (h : DataW.trod enc P w 0 (fun _ => true) true n t cs = some x)
    (hw : ∀ q ∈ x.1.weights P t, q ≤ reachBytes) :
    cs.length = P.cellsOf t ∧ ∀ (i u o c : Nat), (fs[i]?).map (fun f => (f.type, f.offset)) = some (u, o) → P.cellsOf u = c →
      ∃ (y : DataW H × List MemPlace) (m : Nat), DataW.trod enc P w 0 (fun _ => true) true m u ((cs.drop o).take c) = some y ∧ ∀ q ∈ y.1.weights P u, q ≤ reachBytes := by
  obtain ⟨xs, m, _, rfl, hl, hxl, hf⟩ := DataW.trod_struct ht h
  refine ⟨hl, fun i u o c hi hc => ?_⟩
  obtain ⟨f, hfi, huo⟩ := Option.map_eq_some_iff.1 hi
  clear hi
  obtain ⟨rfl, rfl⟩ : f.type = u ∧ f.offset = o := by simpa using huo
  subst hc
  have h1 := hf i f hfi
  have hil : i < xs.length := by rw [hxl]; exact (Array.getElem?_eq_some_iff.1 hfi).1
  rw [List.getElem?_eq_getElem hil] at h1
  refine ⟨_, m, h1, fun q hq => hw q ?_⟩
  simp only [DataW.weights, ht]
  refine DataW.weights_mem_each (j := i) (t := f.type) (d := xs[i].1) ?_ ?_ q hq
  · rw [List.getElem?_map, Array.getElem?_toList, hfi]; rfl
  · rw [List.getElem?_map, List.getElem?_eq_getElem hil]; rfl
theorem str_of {t : TypeId} {n : Nat} {cs : List Value} {x : DataW H × List MemPlace} (ht : P.underlying t = some .string) (h : DataW.trod enc P w 0 (fun _ => true) true n t cs = some x)
    (hw : ∀ q ∈ x.1.weights P t, q ≤ reachBytes) : ∃ s : ByteArray, cs = [.string s] ∧ s.size ≤ 140737488351232 := by
  obtain ⟨s, rfl, rfl, _⟩ := DataW.trod_string ht h
  have := hw s.data.toList.length (by simp [DataW.weights])
  refine ⟨s, rfl, ?_⟩
  have e : s.data.toList.length = s.size := by simp
  unfold reachBytes at this
  omega
theorem flat_part {k : Nat} (C : Nat → List Value) : ∀ n, (∀ i, i < n → (C i).length = k) → ((List.range n).flatMap C).length = n * k ∧ ∀ i, i < n → eltOf k ((List.range n).flatMap C) i = C i
  | 0, _ => ⟨by simp, fun i hi => by omega⟩
  | n + 1, h => by
    obtain ⟨h1, h2⟩ := flat_part C n (fun i hi => h i (by omega))
    have hn := h n (by omega)
    rw [List.range_succ, List.flatMap_append]
    simp only [List.flatMap_cons, List.flatMap_nil, List.append_nil]
    refine ⟨by rw [List.length_append, h1, hn, Nat.add_mul, Nat.one_mul], fun i hi => ?_⟩
    rcases Nat.lt_or_ge i n with hlt | hge
    · rw [part_append_left h1 hlt]; exact h2 i hlt
    · obtain rfl : i = n := by omega
      rw [part_append_right h1 hn]
theorem filterMap_range {α : Type} (f : Nat → Option α) : ∀ (n : Nat), (∀ i, i < n → (f i).isSome = true) → ∀ i, i < n → ((List.range n).filterMap f)[i]? = f i
  | 0, _, i, hi => by omega
  | n + 1, h, i, hi => by
    obtain ⟨z, hz⟩ := Option.isSome_iff_exists.1 (h n (by omega))
    have hl : ∀ m, (∀ i, i < m → (f i).isSome = true) → ((List.range m).filterMap f).length = m := by
      intro m hm
      induction m with
      | zero => rfl
      | succ m ih =>
        obtain ⟨y, hy⟩ := Option.isSome_iff_exists.1 (hm m (by omega))
        rw [List.range_succ, List.filterMap_append, List.length_append, ih (fun i hi => hm i (by omega))]
        simp [hy]
    have hln := hl n (fun i hi => h i (by omega))
    rw [List.range_succ, List.filterMap_append]
    rcases Nat.lt_or_ge i n with hlt | hge
    · rw [List.getElem?_append_left (by omega)]
      exact filterMap_range f n (fun i hi => h i (by omega)) i hlt
    · obtain rfl : i = n := by omega
      rw [List.getElem?_append_right (by omega), hln, Nat.sub_self]
      simp [hz]
/-- A slice that was read as data, of k cells an element: its elements by what opens one of them. 'W': what is known of an element's weights. -/
theorem open_slk {α : Type} {k : Nat} {R : Rel α} {Q : α → Prop} {t e : TypeId} {n : Nat} {v : Value} {y : DataW H × List MemPlace} (ht : P.underlying t = some (.slice e)) (hc : P.cellsOf e = k) (hk : 0 < k)
    (h : DataW.trod enc P w 0 (fun _ => true) true n t [v] = some y) (hw : ∀ m ∈ y.1.weights P t, m ≤ reachBytes)
    (each : ∀ (m : Nat) (cs : List Value) (z : DataW H × List MemPlace), cs.length = k → DataW.trod enc P w 0 (fun _ => true) true m e cs = some z → (∀ q ∈ z.1.weights P e, q ≤ reachBytes) → ∃ x, R w (Old w.heap.size) cs x ∧ Q x) :
    ∃ l : List α, SlK k R w (Old w.heap.size) v l ∧ (∀ x ∈ l, Q x) ∧ l.length * P.bytesOf e ≤ 140737488351232 := by
  rcases Go.Deep.open_slice ht h with ⟨hcs, hx⟩ | ⟨a, len, cap, m, n2, D, Pl, hcs, _, hl, hm, hmm, hx, hcell⟩
  · obtain rfl : v = .slice none 0 0 := by simpa using hcs
    exact ⟨[], SlK.nil_ _ _ _ _, by simp, by simp⟩
  · obtain rfl : v = .slice (some a) len cap := by simpa using hcs
    have hlm : len ≤ m := by rw [hmm]; split <;> omega
    have hW : y.1.weights P t = DataW.weights P t (DataW.slice ((List.range len).map D) ((List.range (m - len)).map fun j => D (len + j))) := by rw [hx]
    rw [hW] at hw
    simp only [DataW.weights, ht] at hw
    have hel : ∀ i, ∃ x : Option α, i < len → ∃ z, x = some z ∧ ∃ cs, cs.length = k ∧ w.cells? 0 (a.add (i * k)) k = some cs ∧ R w (Old w.heap.size) cs z ∧ Q z := by
      intro i
      by_cases hi : i < len
      · obtain ⟨cs, h1, h2⟩ := hcell i (by omega)
        rw [hc] at h1
        obtain ⟨_, hlen, _⟩ := World.cells?_some h1
        obtain ⟨x, hx1, hx2⟩ := each n2 cs _ hlen h2 (fun q hq => hw q (by
          have hmem : D i ∈ (List.range len).map D := List.mem_map.2 ⟨i, List.mem_range.2 hi, rfl⟩
          exact List.mem_cons_of_mem _ (List.mem_append_left _ (weights_all hmem hq))))
        exact ⟨some x, fun _ => ⟨x, rfl, cs, hlen, h1, hx1, hx2⟩⟩
      · exact ⟨none, fun h => absurd h hi⟩
    obtain ⟨f, hf⟩ := Classical.axiomOfChoice hel
    have hsome : ∀ i, i < len → (f i).isSome = true := fun i hi => by obtain ⟨z, hz, _⟩ := hf i hi; rw [hz]; rfl
    have hll : ((List.range len).filterMap f).length = len := by
      have : ((List.range len).map f).length = len := by simp
      rw [List.length_filterMap_eq_countP, List.countP_eq_length.2 (fun i hi => by have := hsome i (List.mem_range.1 hi); simpa using this)]
      simp
    have hget : ∀ i, i < len → ((List.range len).filterMap f)[i]? = f i := by
      intro i hi
      exact filterMap_range f len hsome i hi
    have hcells : ∀ i, ∃ cs : List Value, i < len → cs.length = k ∧ w.cells? 0 (a.add (i * k)) k = some cs ∧ ∀ x, f i = some x → R w (Old w.heap.size) cs x := by
      intro i
      by_cases hi : i < len
      · obtain ⟨z, hz, cs, h1, h2, h3, _⟩ := hf i hi
        exact ⟨cs, fun _ => ⟨h1, h2, fun x hx => by rw [hz] at hx; obtain rfl := Option.some.inj hx; exact h3⟩⟩
      · exact ⟨[], fun h => absurd h hi⟩
    obtain ⟨C, hC⟩ := Classical.axiomOfChoice hcells
    obtain ⟨hfl, hfp⟩ := flat_part C len (fun i hi => (hC i hi).1)
    refine ⟨(List.range len).filterMap f, ⟨(List.range len).flatMap C, ⟨some a, cap, by rw [hll], by omega, hm, by rw [hll]; exact hfl, fun h0 => ?_⟩, fun i x hi => ?_⟩, ?_, ?_⟩
    · rw [hll] at h0
      obtain ⟨_, h1, _⟩ := hC 0 h0
      obtain ⟨_, _, h1g⟩ := World.cells?_some h1
      obtain ⟨b, off, spot⟩ := a
      have hc0 := h1g 0 (by omega)
      have hcv : ∃ u, w.cell? ((⟨b, off, spot⟩ : Addr).add (0 * k)) = some u := by
        have e0 : (((⟨b, off, spot⟩ : Addr).add (0 * k)).add 0) = ((⟨b, off, spot⟩ : Addr).add (0 * k)) := by simp [Addr.add]
        rw [e0, List.getElem?_eq_getElem (by have := (hC 0 h0).1; omega)] at hc0
        exact ⟨_, hc0⟩
      obtain ⟨u, hu⟩ := hcv
      have hspot : spot = none := by simpa [Addr.add] using World.cell?_spot hu
      subst hspot
      have hbl : b < w.heap.size := World.block_lt_of_cell? w ⟨b, off, none⟩ (by simpa [Addr.add] using hu)
      refine ⟨b, off, rfl, hbl, fun j c hj => ?_⟩
      have hjl : j < ((List.range len).flatMap C).length := (List.getElem?_eq_some_iff.1 hj).1
      rw [hfl] at hjl
      have hi : j / k < len := Nat.div_lt_of_lt_mul (by rw [Nat.mul_comm]; exact hjl)
      obtain ⟨hcl, h2, _⟩ := hC (j / k) hi
      obtain ⟨_, _, h2g⟩ := World.cells?_some h2
      have h3 := h2g (j % k) (Nat.mod_lt _ hk)
      rw [Addr.add_mid, Addr.add_mid, Nat.add_assoc, Nat.mul_comm, Nat.div_add_mod] at h3
      rw [h3, ← hfp (j / k) hi]
      have h4 : j / k * k + j % k = j := by rw [Nat.mul_comm]; exact Nat.div_add_mod j k
      unfold eltOf
      rw [List.getElem?_take, if_pos (Nat.mod_lt _ hk), List.getElem?_drop, h4]
      exact hj
    · have hil : i < len := by have := (List.getElem?_eq_some_iff.1 hi).1; omega
      rw [hget i hil] at hi
      rw [hfp i hil]
      exact (hC i hil).2.2 x hi
    · intro x hx2
      obtain ⟨i, hi⟩ := List.mem_iff_getElem?.1 hx2
      have hil : i < len := by have := (List.getElem?_eq_some_iff.1 hi).1; omega
      rw [hget i hil] at hi
      obtain ⟨z, hz, _, _, _, _, hq⟩ := hf i hil
      rw [hz] at hi
      obtain rfl := Option.some.inj hi
      exact hq
    · rw [hll]
      have := hw _ List.mem_cons_self
      simp only [List.length_map, List.length_range, reachBytes] at this
      have h2 : len * P.bytesOf e ≤ (len + (m - len)) * P.bytesOf e := Nat.mul_le_mul_right _ (by omega)
      omega
end
end Go.Bus.cellK
