/- The lists of a message's copy, apart: what Book's Apart needs of them. No condition. -/
import Derived.Test.YtdibfkcddcjiiaaBookD
import Derived.Test.YtdibfkcddcjiiaaApartT
import Derived.Test.YtdibfkcddcjiiaaApartS
namespace Go.Proofs.Ytdibfkcddcjiiaa
open Go.RowKit Go.Bus Go.Bus.cellK Go.Bus.dbK
open Go.Bus.farmC (Farm)
set_option linter.unusedVariables false
set_option linter.unusedSimpArgs false
namespace bookD
abbrev tStr : TypeId := 9
abbrev tSig : TypeId := 119
theorem parts_flat {k : Nat} : ∀ (n : Nat) (xs : List Value), xs.length = n * k → (List.range n).flatMap (eltOf k xs) = xs
  | 0, xs, h => by rw [Nat.zero_mul] at h; rw [List.eq_nil_of_length_eq_zero h]; rfl
  | n + 1, xs, h => by
    rw [Nat.add_mul, Nat.one_mul] at h
    have h1 : (xs.take (n * k)).length = n * k := by rw [List.length_take]; omega
    have ih := parts_flat n (xs.take (n * k)) h1
    rw [List.range_succ, List.flatMap_append]
    have e1 : (List.range n).flatMap (eltOf k xs) = (List.range n).flatMap (eltOf k (xs.take (n * k))) := by
      rw [List.flatMap_def, List.flatMap_def]
      congr 1
      refine List.map_congr_left fun i hi => ?_
      have hin := List.mem_range.1 hi
      have h2 : (i + 1) * k ≤ n * k := Nat.mul_le_mul_right k hin
      rw [Nat.add_mul, Nat.one_mul] at h2
      unfold eltOf
      rw [List.drop_take, List.take_take, Nat.min_eq_left (by omega)]
    rw [e1, ih]
    have e2 : eltOf k xs n = xs.drop (n * k) := by
      unfold eltOf
      rw [List.take_of_length_le (by rw [List.length_drop]; omega)]
    simp only [List.flatMap_cons, List.flatMap_nil, List.append_nil, e2]
    exact List.take_append_drop _ _
theorem own_raise {w : World} {base k n : Nat} {e : TypeId} {v : Value} {xs : List Value} (h : w.ownsRow 0 e k v n xs) (hb : ∀ g, v.ownBlock = some g → base ≤ g) : w.ownsRow base e k v n xs := by
  refine ⟨h.1, ?_⟩
  rcases h.2 with h3 | ⟨g, cap, cur, rfl, _, rest⟩
  · exact .inl h3
  · exact .inr ⟨g, cap, cur, rfl, hb g rfl, rest⟩
theorem texts_row {w : World} {F : Foot} {v : Value} {l : List ByteArray} (h : OwD 1 strE w F 0 tStr v l) : w.ownsRow 0 tStr 1 v l.length (l.flatMap apartTx.insC) ∧ ∀ g, v.ownBlock = some g → F g := by
  obtain ⟨xs, ho, hF, Fs, hx, _⟩ := h
  refine ⟨?_, hF⟩
  have e : xs = l.flatMap apartTx.insC := by
    have h1 := parts_flat l.length xs ho.1
    rw [← h1]
    refine List.ext_getElem? fun i => ?_
    have hr : (List.range l.length).flatMap (eltOf 1 xs) = (List.range l.length).flatMap fun i => match l[i]? with | some s => [Value.string s] | none => [] := by
      rw [List.flatMap_def, List.flatMap_def]
      congr 1
      refine List.map_congr_left fun i hi => ?_
      have hil := List.mem_range.1 hi
      have h2 := hx i _ (List.getElem?_eq_getElem hil)
      rw [List.getElem?_eq_getElem hil]
      exact h2
    rw [hr]
    have : ∀ l : List ByteArray, ((List.range l.length).flatMap fun i => match l[i]? with | some s => [Value.string s] | none => []) = l.flatMap apartTx.insC := by
      intro l
      induction l with
      | nil => rfl
      | cons x t ih =>
        rw [List.length_cons, List.range_succ_eq_map, List.flatMap_cons, List.flatMap_map, List.flatMap_cons, ← ih]
        rfl
    rw [this]
  rw [← e]
  exact ho
/-- A row of signals, copied: each one's texts, and its cells. -/
theorem sigs_of {w : World} {F : Foot} {v : Value} {ls : List Sig} (h : OwD 19 (sigO tStr) w F 0 tSig v ls) : ∃ (f : Nat → Value) (g : Nat → apartSg.L5),
    w.ownsRow 0 tSig 19 v ls.length (((List.range ls.length).map g).flatMap apartSg.lC) ∧ (∀ b, v.ownBlock = some b → F b) ∧
    (∀ i s, ls[i]? = some s → (∃ A c, f i = .slice A s.to.length c) ∧ apartSg.lC (g i) = sigCells s (f i) ∧ w.ownsRow 0 tStr 1 (f i) s.to.length (s.to.flatMap apartTx.insC) ∧ ∀ b, (f i).ownBlock = some b → F b) ∧
    ∀ i j, i < ls.length → j < ls.length → i ≠ j → ∀ b, (f i).ownBlock = some b → (f j).ownBlock ≠ some b := by
  obtain ⟨xs, ho, hF, Fs, hx, hFs, hd⟩ := h
  have hel : ∀ i, ∃ y : Value × apartSg.L5, ∀ s, ls[i]? = some s → eltOf 19 xs i = sigCells s y.1 ∧ (∃ A c, y.1 = .slice A s.to.length c) ∧ apartSg.lC y.2 = sigCells s y.1 ∧ w.ownsRow 0 tStr 1 y.1 s.to.length (s.to.flatMap apartTx.insC) ∧ ∀ b, y.1.ownBlock = some b → Fs i b := by
    intro i
    cases hi : ls[i]? with
    | none => exact ⟨(.nilIface, ⟨0, 0, ⟨#[]⟩, 0, 0, 0, 0, false, false, 0, 0, 0, 0, 0, 0, 0, 0, ⟨#[]⟩, none, 0, 0⟩), fun s h => by cases h⟩
    | some s =>
      obtain ⟨u, h1, h2⟩ := hx i s hi
      obtain ⟨h3, h4⟩ := texts_row h2
      obtain ⟨A, c, h5, _, _⟩ := (h2.sl strE_mono).form
      refine ⟨(u, ⟨s.line, s.col, s.name, s.role, s.branch, s.start, s.size, s.mot, s.sgn, s.sn, s.sd, s.on, s.od, s.mn, s.md, s.xn, s.xd, s.unit, A, s.to.length, c⟩), fun s' hs' => ?_⟩
      cases hs'
      exact ⟨h1, ⟨A, c, h5⟩, by simp only [apartSg.lC, sigCells, h5], h3, h4⟩
  obtain ⟨y, hy⟩ := Classical.axiomOfChoice hel
  refine ⟨fun i => (y i).1, fun i => (y i).2, ?_, hF, fun i s hi => ?_, fun i j hi hj hij b hb hb2 => ?_⟩
  · have h1 := parts_flat ls.length xs ho.1
    have e : (List.map (fun i => (y i).2) (List.range ls.length)).flatMap apartSg.lC = xs := by
      rw [List.flatMap_map, ← h1]
      conv => rhs; rw [← h1]
      rw [List.flatMap_def, List.flatMap_def]
      congr 1
      refine List.map_congr_left fun i hi => ?_
      obtain ⟨k1, _, k3, _⟩ := hy i _ (List.getElem?_eq_getElem (List.mem_range.1 hi))
      rw [k3, h1, k1]
    rw [e]
    exact ho
  · obtain ⟨_, k2, k3, k4, k5⟩ := hy i s hi
    exact ⟨k2, k3, k4, fun b hb => (hFs i (List.getElem?_eq_some_iff.1 hi).1 b (k5 b hb)).1⟩
  · exact hd i j hi hj hij b ((hy i _ (List.getElem?_eq_getElem hi)).2.2.2.2 b hb) ((hy j _ (List.getElem?_eq_getElem hj)).2.2.2.2 b hb2)
/-- Many rows more, in blocks of their own. -/
theorem farm_more {α : Type} {w : World} {base B K : Nat} {e : TypeId} {cells : α → List Value} {R N : List (Value × List α)} (h : Farm w base e K cells R) (hR : ∀ (i : Nat) v z, R[i]? = some (v, z) → ∀ q, v.ownBlock = some q → q < B)
    (ho : ∀ (i : Nat) v z, N[i]? = some (v, z) → w.ownsRow base e K v z.length (z.flatMap cells) ∧ ∀ q, v.ownBlock = some q → B ≤ q) (hd : ∀ (i j : Nat) v z u y, N[i]? = some (v, z) → N[j]? = some (u, y) → i ≠ j → ∀ q, v.ownBlock = some q → u.ownBlock ≠ some q) : Farm w base e K cells (R ++ N) := by
  have hsp : ∀ (i : Nat) (p : Value × List α), (R ++ N)[i]? = some p → (i < R.length ∧ R[i]? = some p) ∨ (R.length ≤ i ∧ N[i - R.length]? = some p) := by
    intro i p hi
    rcases Nat.lt_or_ge i R.length with hl | hg
    · rw [List.getElem?_append_left hl] at hi; exact .inl ⟨hl, hi⟩
    · rw [List.getElem?_append_right hg] at hi; exact .inr ⟨hg, hi⟩
  refine ⟨fun i v z hi => ?_, fun i j v z u y hi hj hij q hq hu => ?_⟩
  · rcases hsp i _ hi with ⟨_, h1⟩ | ⟨_, h1⟩
    · exact h.own i v z h1
    · exact (ho _ v z h1).1
  · rcases hsp i _ hi with ⟨a1, h1⟩ | ⟨a1, h1⟩ <;> rcases hsp j _ hj with ⟨b1, h2⟩ | ⟨b1, h2⟩
    · exact h.apart i j v z u y h1 h2 hij q hq hu
    · have k1 := hR _ _ _ h1 q hq
      have k2 := (ho _ _ _ h2).2 q hu
      omega
    · have k1 := hR _ _ _ h2 q hu
      have k2 := (ho _ _ _ h1).2 q hq
      omega
    · exact hd _ _ v z u y h1 h2 (by omega) q hq hu
structure Coll (base : Nat) (w : World) (x : BL) (RT : List (Value × List ByteArray)) (RS : List apartSg.Row) : Prop where
  ht : x.t = RT.map (·.1)
  hs : x.s = RS.map (·.1)
  ft : Farm w base tStr 1 apartTx.insC RT
  fs : Farm w base tSig 19 apartSg.lC RS
  lt : ∀ p ∈ RT, p.2.length ≤ 1000000000
  ls : ∀ p ∈ RS, p.2.length ≤ 1000000000
theorem farm_kb {α : Type} {w w1 : World} {base K : Nat} {e : TypeId} {cells : α → List Value} {R : List (Value × List α)} (hk : KB w w1) (h : Farm w base e K cells R) (he : e ∉ [54, 26, 77, 60, 29, 30]) : Farm w1 base e K cells R :=
  ⟨fun i v z hi => hk.own (h.own i v z hi) he, h.apart⟩
theorem Coll.kb {base : Nat} {w w1 : World} {x : BL} {RT : List (Value × List ByteArray)} {RS : List apartSg.Row} (h : Coll base w x RT RS) (hk : KB w w1) : Coll base w1 x RT RS := ⟨h.ht, h.hs, farm_kb hk h.ft (by decide), farm_kb hk h.fs (by decide), h.lt, h.ls⟩
theorem Coll.below {base : Nat} {w w1 : World} {x : BL} {RT : List (Value × List ByteArray)} {RS : List apartSg.Row} (h : Coll base w x RT RS) (hb : Below w.heap.size w w1) : Coll base w1 x RT RS := ⟨h.ht, h.hs, h.ft.below hb, h.fs.below hb, h.lt, h.ls⟩
theorem Coll.nil_ (base : Nat) (w : World) (r m b : List Value) : Coll base w ⟨[], r, [], m, b⟩ [] [] := ⟨rfl, rfl, ⟨fun i v z h => by simp at h, fun i j v z u y h => by simp at h⟩, ⟨fun i v z h => by simp at h, fun i j v z u y h => by simp at h⟩, by simp, by simp⟩
/-- A message's copy joins them. -/
theorem Coll.add {base : Nat} {w w1 : World} {x : BL} {RT : List (Value × List ByteArray)} {RS : List apartSg.Row} {v : Value} {ls : List Sig} (h : Coll base w x RT RS) (hbase : base ≤ w.heap.size) (hb : Below w.heap.size w w1) (hm : OwD 19 (sigO tStr) w1 (Iv w.heap.size w1.heap.size) 0 tSig v ls)
    (hl : ls.length ≤ 1000000000) (hto : ∀ s ∈ ls, s.to.length ≤ 1000000000) :
    ∃ (D : List Value) (RT' : List (Value × List ByteArray)) (RS' : List apartSg.Row), Coll base w1 { x with t := x.t ++ D, s := x.s ++ [v] } RT' RS' ∧ RT'.length = RT.length + ls.length ∧ RS'.length = RS.length + 1 ∧ D.length = ls.length ∧
      (∃ A c, v = .slice A ls.length c ∧ ls.length ≤ c ∧ c ≤ 9223372036854775807 ∧ ∃ gx, (0 < ls.length → A = some ⟨gx, 0, none⟩ ∧ gx < w1.heap.size ∧ ∃ cs, Has w1 gx tSig cs) ∧ ∀ i (hD : D.length = ls.length) (h : i < ls.length), (∃ A' c', (D[i]'(by rw [hD]; exact h)) = .slice A' ls[i].to.length c') ∧ w1.rangeAt gx (i * 19) (sigCells ls[i] (D[i]'(by rw [hD]; exact h)))) := by
  obtain ⟨f, g, ho, hF, hfi, hdj⟩ := sigs_of hm
  have h1 := h.below hb
  have hlo : ∀ b, v.ownBlock = some b → w.heap.size ≤ b := fun b hb2 => (hF b hb2).1
  refine ⟨(List.range ls.length).map f, RT ++ (List.range ls.length).map (fun i => (f i, ((ls[i]?).map (·.to)).getD [])), RS ++ [(v, (List.range ls.length).map g)], ⟨?_, ?_, ?_, ?_, ?_, ?_⟩, by simp, by simp, by simp, ?_⟩
  · rw [List.map_append, h.ht]
    congr 1
    rw [List.map_map]
    rfl
  · rw [List.map_append, h.hs]; rfl
  · refine farm_more (B := w.heap.size) h1.ft (fun i v z hi q hq => ((h.ft.own i v z hi).lt q hq).2) (fun i u z hi => ?_) (fun i j u z u2 y hi hj hij q hq => ?_)
    · rw [List.getElem?_map] at hi
      obtain ⟨i', hi1, hi2⟩ := Option.map_eq_some_iff.1 hi
      obtain ⟨hil, rfl⟩ : i < ls.length ∧ i = i' := by
        by_cases hil : i < ls.length
        · rw [List.getElem?_range hil] at hi1; exact ⟨hil, Option.some.inj hi1⟩
        · rw [List.getElem?_eq_none (by simp; omega)] at hi1; cases hi1
      rw [List.getElem?_eq_getElem hil] at hi2
      simp only [Option.map_some, Option.getD_some, Prod.mk.injEq] at hi2
      obtain ⟨rfl, rfl⟩ := hi2
      obtain ⟨_, _, k3, k4⟩ := hfi i _ (List.getElem?_eq_getElem hil)
      exact ⟨own_raise k3 (fun b hb2 => Nat.le_trans hbase (k4 b hb2).1), fun b hb2 => (k4 b hb2).1⟩
    · have hx : ∀ (i : Nat) u z, ((List.range ls.length).map (fun i => (f i, ((ls[i]?).map (·.to)).getD [])))[i]? = some (u, z) → i < ls.length ∧ u = f i := by
        intro i u z hi
        rw [List.getElem?_map] at hi
        obtain ⟨i', hi1, hi2⟩ := Option.map_eq_some_iff.1 hi
        by_cases hil : i < ls.length
        · rw [List.getElem?_range hil] at hi1
          obtain rfl := Option.some.inj hi1
          exact ⟨hil, (Prod.mk.inj hi2).1.symm⟩
        · rw [List.getElem?_eq_none (by simp; omega)] at hi1; cases hi1
      obtain ⟨a1, rfl⟩ := hx i u z hi
      obtain ⟨a2, rfl⟩ := hx j u2 y hj
      exact hdj i j a1 a2 hij q hq
  · refine farm_more (B := w.heap.size) h1.fs (fun i v z hi q hq => ((h.fs.own i v z hi).lt q hq).2) (fun i u z hi => ?_) (fun i j u z u2 y hi hj hij q hq => ?_)
    · match i, hi with
      | 0, hi =>
        simp only [List.getElem?_cons_zero, Option.some.injEq, Prod.mk.injEq] at hi
        obtain ⟨rfl, rfl⟩ := hi
        exact ⟨own_raise (by rw [List.length_map, List.length_range]; exact ho) (fun b hb2 => Nat.le_trans hbase (hlo b hb2)), hlo⟩
      | i + 1, hi => simp at hi
    · have e1 : i = 0 := by have := (List.getElem?_eq_some_iff.1 hi).1; simp at this; exact this
      have e2 : j = 0 := by have := (List.getElem?_eq_some_iff.1 hj).1; simp at this; exact this
      omega
  · intro p hp
    rcases List.mem_append.1 hp with hp | hp
    · exact h.lt p hp
    · obtain ⟨i, hi, rfl⟩ := List.mem_map.1 hp
      have hil := List.mem_range.1 hi
      rw [List.getElem?_eq_getElem hil]
      exact hto _ (List.getElem_mem hil)
  · intro p hp
    rcases List.mem_append.1 hp with hp | hp
    · exact h.ls p hp
    · simp at hp
      subst hp
      simpa using hl
  · rcases ho.2 with ⟨rfl, h0⟩ | ⟨gx, cap, cur, rfl, _, hg, hn, hm2, _⟩
    · exact ⟨none, 0, by rw [h0], by omega, by omega, 0, fun h => by omega, fun i _ hi => by omega⟩
    · refine ⟨_, cap, rfl, hn, by unfold maxLen at hm2; omega, gx, fun _ => ⟨rfl, Has.lt hg, cur, hg⟩, fun i hD hi => ?_⟩
      obtain ⟨k1, k2, _, _⟩ := hfi i _ (List.getElem?_eq_getElem hi)
      refine ⟨by simpa using k1, ?_⟩
      have hr : w1.rangeAt gx 0 (((List.range ls.length).map g).flatMap apartSg.lC) := fun j u hj => by
        have h2 := ho.cells (g := gx) rfl j u hj
        rw [Addr.add_mid] at h2
        exact h2
      have h3 := range_part hr i (k := 19)
      rw [Nat.zero_add] at h3
      have h4 : eltOf 19 (((List.range ls.length).map g).flatMap apartSg.lC) i = sigCells ls[i] (f i) := by
        rw [← k2]
        have h5 := Go.Bus.lentC.flat_elt (cells := apartSg.lC) apartSg.insC_len ((List.range ls.length).map g) i (by simpa using hi)
        simpa using h5
      rw [h4] at h3
      simpa using h3
end bookD
end Go.Proofs.Ytdibfkcddcjiiaa
