/- The document's instructions, field by field: letters; what its Right, one and Decode come to. Plain. No condition. -/
import Derived.Test.YtbopooanmpcepaaGreatDoorCodeLaw
namespace Go.Bus.codeK
set_option linter.unusedVariables false
inductive Le | a | b | k | n | s | h | w | j | i | g
  deriving DecidableEq
def Le.c : Le → UInt8
  | .a => 97 | .b => 98 | .k => 107 | .n => 110 | .s => 115 | .h => 104 | .w => 119 | .j => 106 | .i => 105 | .g => 103
def Le.fk : Le → Fk
  | .a => reg | .b => other | .k => start | .n => .bytes | .s => slot | .h => shift | .w => width | .j => .skip | .i => .number | .g => .sign
def lettersN : Nat → Option (List Le)
  | 0 => some []
  | 1 => some [.a, .i]
  | 2 => some [.a, .b]
  | 3 => some [.a, .b]
  | 4 => some [.a, .b]
  | 5 => some [.a, .b]
  | 6 => some [.a, .h]
  | 7 => some [.a, .h]
  | 8 => some [.a, .i]
  | 9 => some [.a, .k, .n]
  | 10 => some [.a, .k, .n]
  | 11 => some [.a, .k, .n]
  | 12 => some [.a, .k, .n]
  | 13 => some [.a, .k, .n, .i]
  | 14 => some [.a, .w]
  | 15 => some [.a, .s]
  | 16 => some [.a, .s]
  | 17 => some [.a, .s, .w, .g]
  | 18 => some [.j]
  | 19 => some [.a, .j, .i]
  | _ => none
def lettersOf (op : Int) : Option (List Le) := if 0 ≤ op then lettersN op.toNat else none
def textOf (ls : List Le) : ByteArray := ⟨(ls.map Le.c).toArray⟩
theorem fieldsN_letters : ∀ (k : Nat), fieldsN k = (lettersN k).map (List.map Le.fk)
  | 0 => rfl
  | 1 => rfl
  | 2 => rfl
  | 3 => rfl
  | 4 => rfl
  | 5 => rfl
  | 6 => rfl
  | 7 => rfl
  | 8 => rfl
  | 9 => rfl
  | 10 => rfl
  | 11 => rfl
  | 12 => rfl
  | 13 => rfl
  | 14 => rfl
  | 15 => rfl
  | 16 => rfl
  | 17 => rfl
  | 18 => rfl
  | 19 => rfl
  | _ + 20 => rfl
theorem fields_letters (op : Int) : fieldsOf op = (lettersOf op).map (List.map Le.fk) := by
  unfold fieldsOf lettersOf
  split
  · exact fieldsN_letters _
  · rfl
theorem letters_fields {op : Int} {ls : List Le} (h : lettersOf op = some ls) : fieldsOf op = some (ls.map Le.fk) := by rw [fields_letters, h]; rfl
theorem letters_none {op : Int} (h : lettersOf op = none) : fieldsOf op = none := by rw [fields_letters, h]; rfl
theorem letters_cases {op : Int} {ls : List Le} (h : lettersOf op = some ls) : ∃ k : Nat, op = k ∧ k < 20 ∧ lettersN k = some ls := by
  obtain ⟨k, h1, h2, _⟩ := fields_cases (letters_fields h)
  refine ⟨k, h1, h2, ?_⟩
  unfold lettersOf at h
  rw [if_pos (by omega), h1] at h
  exact h
theorem letters_out {op : Int} (h : op < 0 ∨ 20 ≤ op) : lettersOf op = none := by
  cases e : lettersOf op with
  | none => rfl
  | some ls => obtain ⟨k, _, _, _⟩ := letters_cases e; omega
theorem letters_in {op : Int} (h : 0 ≤ op) (h' : op < 20) : ∃ ls, lettersOf op = some ls := by
  obtain ⟨k, rfl⟩ := Int.eq_ofNat_of_zero_le h
  have hk : k < 20 := by omega
  have key : ∀ k : Fin 20, (lettersN k.val).isSome = true := by decide
  have := key ⟨k, hk⟩
  obtain ⟨ls, hl⟩ := Option.isSome_iff_exists.1 this
  exact ⟨ls, by unfold lettersOf; rw [if_pos h]; exact hl⟩
theorem right_letters {x : Ins} {ls : List Le} (h : lettersOf x.op = some ls) : rightB x = ((ls.map Le.fk).all (okF · x) && decide (setAll (ls.map Le.fk) x (zero x.op) = x)) := by
  unfold rightB; rw [letters_fields h]
theorem right_none {x : Ins} (h : lettersOf x.op = none) : rightB x = false := by unfold rightB; rw [letters_none h]
theorem all_take {fs : List Fk} {x : Ins} {k : Nat} (h : k < fs.length) : (fs.take (k + 1)).all (okF · x) = ((fs.take k).all (okF · x) && okF fs[k] x) := by
  rw [List.take_succ_eq_append_getElem h, List.all_append]; simp
/-! ## reading -/
def rdR : Le → List Int → Ins → Rd
  | .j => rdNum .N fun v => (min v 4611686018427387904 : Nat)
  | l => rdF l.fk
def rdAllR (L : Nat) : List Le → List Int → Ins → Except (Int × Nat) (List Int × Ins)
  | [], l, x => .ok (l, x)
  | f :: fs, l, x =>
    match rdR f l x with
    | .short => .error (2, L)
    | .form => .error (4, L - l.length)
    | .got r y => rdAllR L fs r y
def seeR (E : Int × Nat) (z : Except (Int × Nat) (List Int × Ins)) : Except (Int × Nat) (List Int × Ins) :=
  match z with
  | .error e => .error e
  | .ok (r', x) => if rightB x then .ok (r', x) else .error E
theorem seeR_no {E : Int × Nat} {r : List Int} {x : Ins} (h : rightB x = false) : seeR E (.ok (r, x)) = .error E := by unfold seeR; simp [h]
theorem seeR_yes {E : Int × Nat} {r : List Int} {x : Ins} (h : rightB x = true) : seeR E (.ok (r, x)) = .ok (r, x) := by unfold seeR; simp [h]
/-- The instruction behind its first byte; or the error, and where. -/
def oneR (L : Nat) (c : Int) (r : List Int) : Except (Int × Nat) (List Int × Ins) :=
  match lettersOf c with
  | none => .error (20, L - (r.length + 1))
  | some ls => seeR (20, L - (r.length + 1)) (rdAllR L ls r (zero c))
theorem rdR_plain {l : Le} (h : l ≠ .j) : rdR l = rdF l.fk := by cases l <;> first | rfl | exact absurd rfl h
theorem rdAllR_plain (L : Nat) : ∀ (ls : List Le) (l : List Int) (x : Ins), (∀ y ∈ ls, y ≠ .j) → rdAllR L ls l x = rdAll L (ls.map Le.fk) l x
  | [], _, _, _ => rfl
  | f :: fs, l, x, h => by
    have ih := fun r y => rdAllR_plain L fs r y (fun z hz => h z (List.mem_cons_of_mem _ hz))
    simp only [rdAllR, List.map_cons, rdAll, rdR_plain (h f (List.mem_cons_self ..))]
    cases rdF f.fk l x <;> simp only [] <;> first | rfl | exact ih _ _
theorem wide18 {m : Int} (h : 16384 < m) : rightB ⟨18, 0, 0, m, 0⟩ = false := by
  unfold rightB
  rw [show fieldsOf (18 : Int) = some [.skip] from rfl]
  have : decide (m ≤ 16384) = false := by simp; omega
  simp [okF, this]
theorem wide19 {m a i : Int} (h : 16384 < m) : rightB ⟨19, a, 0, m, i⟩ = false := by
  unfold rightB
  rw [show fieldsOf (19 : Int) = some [reg, .skip, .number] from rfl]
  have : decide (m ≤ 16384) = false := by simp; omega
  simp [okF, this]
theorem oneR_18 (L : Nat) (r : List Int) (E : Int × Nat) : seeR E (rdAllR L [.j] r (zero 18)) = seeR E (rdAll L [.skip] r (zero 18)) := by
  simp only [rdAllR, rdAll, rdR, rdF, rdNum]
  cases sevGo r 0 0 with
  | short => rfl
  | form => rfl
  | ok v r' =>
    show seeR E (.ok (r', ⟨18, 0, 0, ((min v 4611686018427387904 : Nat) : Int), 0⟩)) = seeR E (.ok (r', ⟨18, 0, 0, ((min v 16385 : Nat) : Int), 0⟩))
    rcases Nat.lt_or_ge 16384 v with h | h
    · rw [seeR_no (wide18 (by omega)), seeR_no (wide18 (by omega))]
    · rw [show min v 4611686018427387904 = v from by omega, show min v 16385 = v from by omega]
theorem oneR_19 (L : Nat) (r : List Int) (E : Int × Nat) : seeR E (rdAllR L [.a, .j, .i] r (zero 19)) = seeR E (rdAll L [reg, .skip, .number] r (zero 19)) := by
  simp only [rdAllR, rdAll, rdR, Le.fk, reg, rdF, rdNum]
  cases r with
  | nil => rfl
  | cons c r =>
    simp only [rdByte]
    cases sevGo r 0 0 with
    | short => rfl
    | form => rfl
    | ok v r' =>
      simp only []
      cases sevGo r' 0 0 with
      | short => rfl
      | form => rfl
      | ok v2 r2 =>
        show seeR E (.ok (r2, ⟨19, c, 0, ((min v 4611686018427387904 : Nat) : Int), (v2 : Int)⟩)) = seeR E (.ok (r2, ⟨19, c, 0, ((min v 16385 : Nat) : Int), (v2 : Int)⟩))
        rcases Nat.lt_or_ge 16384 v with h | h
        · rw [seeR_no (wide19 (by omega)), seeR_no (wide19 (by omega))]
        · rw [show min v 4611686018427387904 = v from by omega, show min v 16385 = v from by omega]
theorem letters_j {k : Nat} {ls : List Le} (hk : k < 20) (h : lettersN k = some ls) : (∀ y ∈ ls, y ≠ .j) ∨ (k = 18 ∧ ls = [.j]) ∨ (k = 19 ∧ ls = [.a, .j, .i]) := by
  have key : ∀ k : Fin 20, ((lettersN k.val).getD []).all (fun y => decide (y ≠ Le.j)) = true ∨ (k.val = 18 ∧ (lettersN k.val).getD [] = [Le.j]) ∨ (k.val = 19 ∧ (lettersN k.val).getD [] = [Le.a, Le.j, Le.i]) := by decide
  have h1 := key ⟨k, hk⟩
  simp only [h, Option.getD_some] at h1
  rcases h1 with h1 | h1 | h1
  · left; intro y hy; have := List.all_eq_true.1 h1 y hy; simpa using this
  · exact .inr (.inl h1)
  · exact .inr (.inr h1)
theorem oneR_eq (L : Nat) {c : Int} {ls : List Le} (h : lettersOf c = some ls) (r : List Int) (E : Int × Nat) : seeR E (rdAllR L ls r (zero c)) = seeR E (rdAll L (ls.map Le.fk) r (zero c)) := by
  obtain ⟨k, rfl, hk, hl⟩ := letters_cases h
  rcases letters_j hk hl with h1 | ⟨rfl, rfl⟩ | ⟨rfl, rfl⟩
  · rw [rdAllR_plain L ls r _ h1]
  · exact oneR_18 L r E
  · exact oneR_19 L r E
/-- Decode, an instruction at a time. -/
theorem dec_one (L : Nat) (c : Int) (r : List Int) (p : List Ins) : decGo L (c :: r) p =
    if p.length = 16384 then .error (5, L - (r.length + 1)) else
    match oneR L c r with
    | .error e => .error e
    | .ok (r', x) => if r'.length ≤ r.length then decGo L r' (p ++ [x]) else .error (0, 0) := by
  rw [decGo_cons]
  unfold oneR
  split
  · rfl
  · cases h : lettersOf c with
    | none => rw [letters_none h]
    | some ls =>
      rw [letters_fields h]
      simp only []
      rw [oneR_eq L h r]
      cases rdAll L (ls.map Le.fk) r (zero c) with
      | error e => rfl
      | ok z =>
        obtain ⟨r', x⟩ := z
        cases hx : rightB x with
        | true => rw [seeR_yes hx]; simp [hx]
        | false => rw [seeR_no hx]; simp [hx]
theorem rdR_suffix {f : Le} {l r : List Int} {y z : Ins} (hb : ∀ c ∈ l, Byte c) (hr : rdR f l y = .got r z) : (∃ m, l = m ++ r) ∧ r.length < l.length := by
  by_cases hj : f = .j
  · subst hj
    obtain ⟨v, _, h2, h3⟩ := rdNum_inv (h := .N) (f := fun v => (min v 4611686018427387904 : Nat)) hb hr
    exact ⟨⟨_, h2⟩, h3⟩
  · rw [rdR_plain hj] at hr
    obtain ⟨_, _, _, m, hm⟩ := rdF_inv hb hr
    exact ⟨⟨m, hm⟩, rdF_len hb hr⟩
theorem rdAllR_suffix (L : Nat) : ∀ (ls : List Le) (l r : List Int) (y z : Ins), (∀ c ∈ l, Byte c) → rdAllR L ls l y = .ok (r, z) → ∃ m, l = m ++ r
  | [], l, r, y, z, _, h => by
    simp only [rdAllR, Except.ok.injEq, Prod.mk.injEq] at h
    obtain ⟨rfl, rfl⟩ := h
    exact ⟨[], rfl⟩
  | f :: fs, l, r, y, z, hb, h => by
    simp only [rdAllR] at h
    split at h
    · cases h
    · cases h
    · rename_i r1 y1 he
      obtain ⟨⟨m, hm⟩, _⟩ := rdR_suffix hb he
      obtain ⟨m2, hm2⟩ := rdAllR_suffix L fs r1 r _ z (fun c hc => hb c (by rw [hm]; exact List.mem_append_right _ hc)) h
      exact ⟨m ++ m2, by rw [hm, hm2, List.append_assoc]⟩
theorem seeR_ok {E : Int × Nat} {z : Except (Int × Nat) (List Int × Ins)} {y : List Int × Ins} (h : seeR E z = .ok y) : z = .ok y ∧ rightB y.2 = true := by
  unfold seeR at h
  split at h
  · cases h
  · split at h
    · cases h; exact ⟨rfl, by assumption⟩
    · cases h
theorem oneR_suffix {L : Nat} {c : Int} {r r' : List Int} {x : Ins} (hb : ∀ d ∈ r, Byte d) (h : oneR L c r = .ok (r', x)) : ∃ m, r = m ++ r' := by
  unfold oneR at h
  split at h
  · cases h
  · rename_i ls hl
    exact rdAllR_suffix L ls r _ _ _ hb (seeR_ok h).1
theorem oneR_no {L : Nat} {c : Int} {r : List Int} {e : Int × Nat} (h : oneR L c r = .error e) : 1 ≤ e.1 ∧ e.1 ≤ 26 := by
  unfold oneR at h
  split at h
  · cases h; exact ⟨by simp, by simp⟩
  · rename_i ls hl
    have key : ∀ (ls : List Le) (l : List Int) (x : Ins) (e : Int × Nat), rdAllR L ls l x = .error e → 1 ≤ e.1 ∧ e.1 ≤ 26 := by
      intro ls
      induction ls with
      | nil => intro l x e h; cases h
      | cons f fs ih =>
        intro l x e h
        simp only [rdAllR] at h
        split at h
        · cases h; exact ⟨by simp, by simp⟩
        · cases h; exact ⟨by simp, by simp⟩
        · exact ih _ _ _ h
    unfold seeR at h
    split at h
    · rename_i e2 he; cases h; exact key _ _ _ _ he
    · split at h
      · cases h
      · cases h; exact ⟨by simp, by simp⟩
theorem firstBad_of {p : List Ins} {i : Nat} (hi : i < p.length) (h : ∀ x ∈ p.take i, rightB x = true) (hb : rightB p[i] = false) : p.findIdx? (fun x => !rightB x) = some i := by
  rw [List.findIdx?_eq_some_iff_getElem]
  refine ⟨hi, by rw [hb]; rfl, fun j hj => ?_⟩
  have := h p[j] (List.mem_iff_getElem.2 ⟨j, by simp; omega, by rw [List.getElem_take]⟩)
  rw [this]; simp
end Go.Bus.codeK
