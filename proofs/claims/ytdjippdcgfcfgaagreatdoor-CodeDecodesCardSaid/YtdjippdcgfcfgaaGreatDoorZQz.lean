/- Texts of this claim, one behind the other. No condition but those that each states. -/
import Derived.Test.YtdjippdcgfcfgaaGreatDoorCodeLaw
import Derived.Test.YtdjippdcgfcfgaaGreatDoorCodeE
import Derived.Deep.QuietTactic
import Derived.BigQuiet
import Derived.Test.YtdjippdcgfcfgaaGreatDoorCodeSv
import Derived.Test.YtdjippdcgfcfgaaGreatDoorCodeWk

namespace Go.Bus.codeK
set_option linter.unusedVariables false
inductive Le | a | b | k | n | s | h | w | j | i | g
  deriving DecidableEq
def Le.c : Le → UInt8
  | .a => 97 | .b => 98 | .k => 107 | .n => 110 | .s => 115 | .h => 104 | .w => 119 | .j => 106 | .i => 105 | .g => 103
def Le.fk : Le → Fk
  | .a => reg | .b => other | .k => start | .n => .bytes | .s => slot | .h => shift | .w => width | .j => .skip | .i => .number | .g => .sign
def lettersN : Nat → Option (List Le)
  | 0 => some []
  | 1 => some [.a, .i]
  | 2 => some [.a, .b]
  | 3 => some [.a, .b]
  | 4 => some [.a, .b]
  | 5 => some [.a, .b]
  | 6 => some [.a, .h]
  | 7 => some [.a, .h]
  | 8 => some [.a, .i]
  | 9 => some [.a, .k, .n]
  | 10 => some [.a, .k, .n]
  | 11 => some [.a, .k, .n]
  | 12 => some [.a, .k, .n]
  | 13 => some [.a, .k, .n, .i]
  | 14 => some [.a, .w]
  | 15 => some [.a, .s]
  | 16 => some [.a, .s]
  | 17 => some [.a, .s, .w, .g]
  | 18 => some [.j]
  | 19 => some [.a, .j, .i]
  | _ => none
def lettersOf (op : Int) : Option (List Le) := if 0 ≤ op then lettersN op.toNat else none
def textOf (ls : List Le) : ByteArray := ⟨(ls.map Le.c).toArray⟩
theorem fieldsN_letters : ∀ (k : Nat), fieldsN k = (lettersN k).map (List.map Le.fk)
  | 0 => rfl
  | 1 => rfl
  | 2 => rfl
  | 3 => rfl
  | 4 => rfl
  | 5 => rfl
  | 6 => rfl
  | 7 => rfl
  | 8 => rfl
  | 9 => rfl
  | 10 => rfl
  | 11 => rfl
  | 12 => rfl
  | 13 => rfl
  | 14 => rfl
  | 15 => rfl
  | 16 => rfl
  | 17 => rfl
  | 18 => rfl
  | 19 => rfl
  | _ + 20 => rfl
theorem fields_letters (op : Int) : fieldsOf op = (lettersOf op).map (List.map Le.fk) := by
  unfold fieldsOf lettersOf
  split
  · exact fieldsN_letters _
  · rfl
theorem letters_fields {op : Int} {ls : List Le} (h : lettersOf op = some ls) : fieldsOf op = some (ls.map Le.fk) := by rw [fields_letters, h]; rfl
theorem letters_none {op : Int} (h : lettersOf op = none) : fieldsOf op = none := by rw [fields_letters, h]; rfl
theorem letters_cases {op : Int} {ls : List Le} (h : lettersOf op = some ls) : ∃ k : Nat, op = k ∧ k < 20 ∧ lettersN k = some ls := by
  obtain ⟨k, h1, h2, _⟩ := fields_cases (letters_fields h)
  refine ⟨k, h1, h2, ?_⟩
  unfold lettersOf at h
  rw [if_pos (by omega), h1] at h
  exact h
theorem letters_out {op : Int} (h : op < 0 ∨ 20 ≤ op) : lettersOf op = none := by
  cases e : lettersOf op with
  | none => rfl
  | some ls => obtain ⟨k, _, _, _⟩ := letters_cases e; omega
theorem letters_in {op : Int} (h : 0 ≤ op) (h' : op < 20) : ∃ ls, lettersOf op = some ls := by
  obtain ⟨k, rfl⟩ := Int.eq_ofNat_of_zero_le h
  have hk : k < 20 := by omega
  have key : ∀ k : Fin 20, (lettersN k.val).isSome = true := by decide
  have := key ⟨k, hk⟩
  obtain ⟨ls, hl⟩ := Option.isSome_iff_exists.1 this
  exact ⟨ls, by unfold lettersOf; rw [if_pos h]; exact hl⟩
theorem right_letters {x : Ins} {ls : List Le} (h : lettersOf x.op = some ls) : rightB x = ((ls.map Le.fk).all (okF · x) && decide (setAll (ls.map Le.fk) x (zero x.op) = x)) := by
  unfold rightB; rw [letters_fields h]
theorem right_none {x : Ins} (h : lettersOf x.op = none) : rightB x = false := by unfold rightB; rw [letters_none h]
theorem all_take {fs : List Fk} {x : Ins} {k : Nat} (h : k < fs.length) : (fs.take (k + 1)).all (okF · x) = ((fs.take k).all (okF · x) && okF fs[k] x) := by
  rw [List.take_succ_eq_append_getElem h, List.all_append]; simp
/-! ## reading -/
def rdR : Le → List Int → Ins → Rd
  | .j => rdNum .N fun v => (min v 4611686018427387904 : Nat)
  | l => rdF l.fk
def rdAllR (L : Nat) : List Le → List Int → Ins → Except (Int × Nat) (List Int × Ins)
  | [], l, x => .ok (l, x)
  | f :: fs, l, x =>
    match rdR f l x with
    | .short => .error (2, L)
    | .form => .error (4, L - l.length)
    | .got r y => rdAllR L fs r y
def seeR (E : Int × Nat) (z : Except (Int × Nat) (List Int × Ins)) : Except (Int × Nat) (List Int × Ins) :=
  match z with
  | .error e => .error e
  | .ok (r', x) => if rightB x then .ok (r', x) else .error E
theorem seeR_no {E : Int × Nat} {r : List Int} {x : Ins} (h : rightB x = false) : seeR E (.ok (r, x)) = .error E := by unfold seeR; simp [h]
theorem seeR_yes {E : Int × Nat} {r : List Int} {x : Ins} (h : rightB x = true) : seeR E (.ok (r, x)) = .ok (r, x) := by unfold seeR; simp [h]
/-- The instruction behind its first byte; or the error, and where. -/
def oneR (L : Nat) (c : Int) (r : List Int) : Except (Int × Nat) (List Int × Ins) :=
  match lettersOf c with
  | none => .error (20, L - (r.length + 1))
  | some ls => seeR (20, L - (r.length + 1)) (rdAllR L ls r (zero c))
theorem rdR_plain {l : Le} (h : l ≠ .j) : rdR l = rdF l.fk := by cases l <;> first | rfl | exact absurd rfl h
theorem rdAllR_plain (L : Nat) : ∀ (ls : List Le) (l : List Int) (x : Ins), (∀ y ∈ ls, y ≠ .j) → rdAllR L ls l x = rdAll L (ls.map Le.fk) l x
  | [], _, _, _ => rfl
  | f :: fs, l, x, h => by
    have ih := fun r y => rdAllR_plain L fs r y (fun z hz => h z (List.mem_cons_of_mem _ hz))
    simp only [rdAllR, List.map_cons, rdAll, rdR_plain (h f (List.mem_cons_self ..))]
    cases rdF f.fk l x <;> simp only [] <;> first | rfl | exact ih _ _
theorem wide18 {m : Int} (h : 16384 < m) : rightB ⟨18, 0, 0, m, 0⟩ = false := by
  unfold rightB
  rw [show fieldsOf (18 : Int) = some [.skip] from rfl]
  have : decide (m ≤ 16384) = false := by simp; omega
  simp [okF, this]
theorem wide19 {m a i : Int} (h : 16384 < m) : rightB ⟨19, a, 0, m, i⟩ = false := by
  unfold rightB
  rw [show fieldsOf (19 : Int) = some [reg, .skip, .number] from rfl]
  have : decide (m ≤ 16384) = false := by simp; omega
  simp [okF, this]
theorem oneR_18 (L : Nat) (r : List Int) (E : Int × Nat) : seeR E (rdAllR L [.j] r (zero 18)) = seeR E (rdAll L [.skip] r (zero 18)) := by
  simp only [rdAllR, rdAll, rdR, rdF, rdNum]
  cases sevGo r 0 0 with
  | short => rfl
  | form => rfl
  | ok v r' =>
    show seeR E (.ok (r', ⟨18, 0, 0, ((min v 4611686018427387904 : Nat) : Int), 0⟩)) = seeR E (.ok (r', ⟨18, 0, 0, ((min v 16385 : Nat) : Int), 0⟩))
    rcases Nat.lt_or_ge 16384 v with h | h
    · rw [seeR_no (wide18 (by omega)), seeR_no (wide18 (by omega))]
    · rw [show min v 4611686018427387904 = v from by omega, show min v 16385 = v from by omega]
theorem oneR_19 (L : Nat) (r : List Int) (E : Int × Nat) : seeR E (rdAllR L [.a, .j, .i] r (zero 19)) = seeR E (rdAll L [reg, .skip, .number] r (zero 19)) := by
  simp only [rdAllR, rdAll, rdR, Le.fk, reg, rdF, rdNum]
  cases r with
  | nil => rfl
  | cons c r =>
    simp only [rdByte]
    cases sevGo r 0 0 with
    | short => rfl
    | form => rfl
    | ok v r' =>
      simp only []
      cases sevGo r' 0 0 with
      | short => rfl
      | form => rfl
      | ok v2 r2 =>
        show seeR E (.ok (r2, ⟨19, c, 0, ((min v 4611686018427387904 : Nat) : Int), (v2 : Int)⟩)) = seeR E (.ok (r2, ⟨19, c, 0, ((min v 16385 : Nat) : Int), (v2 : Int)⟩))
        rcases Nat.lt_or_ge 16384 v with h | h
        · rw [seeR_no (wide19 (by omega)), seeR_no (wide19 (by omega))]
        · rw [show min v 4611686018427387904 = v from by omega, show min v 16385 = v from by omega]
theorem letters_j {k : Nat} {ls : List Le} (hk : k < 20) (h : lettersN k = some ls) : (∀ y ∈ ls, y ≠ .j) ∨ (k = 18 ∧ ls = [.j]) ∨ (k = 19 ∧ ls = [.a, .j, .i]) := by
  have key : ∀ k : Fin 20, ((lettersN k.val).getD []).all (fun y => decide (y ≠ Le.j)) = true ∨ (k.val = 18 ∧ (lettersN k.val).getD [] = [Le.j]) ∨ (k.val = 19 ∧ (lettersN k.val).getD [] = [Le.a, Le.j, Le.i]) := by decide
  have h1 := key ⟨k, hk⟩
  simp only [h, Option.getD_some] at h1
  rcases h1 with h1 | h1 | h1
  · left; intro y hy; have := List.all_eq_true.1 h1 y hy; simpa using this
  · exact .inr (.inl h1)
  · exact .inr (.inr h1)
theorem oneR_eq (L : Nat) {c : Int} {ls : List Le} (h : lettersOf c = some ls) (r : List Int) (E : Int × Nat) : seeR E (rdAllR L ls r (zero c)) = seeR E (rdAll L (ls.map Le.fk) r (zero c)) := by
  obtain ⟨k, rfl, hk, hl⟩ := letters_cases h
  rcases letters_j hk hl with h1 | ⟨rfl, rfl⟩ | ⟨rfl, rfl⟩
  · rw [rdAllR_plain L ls r _ h1]
  · exact oneR_18 L r E
  · exact oneR_19 L r E
/-- Decode, an instruction at a time. -/
theorem dec_one (L : Nat) (c : Int) (r : List Int) (p : List Ins) : decGo L (c :: r) p =
    if p.length = 16384 then .error (5, L - (r.length + 1)) else
    match oneR L c r with
    | .error e => .error e
    | .ok (r', x) => if r'.length ≤ r.length then decGo L r' (p ++ [x]) else .error (0, 0) := by
  rw [decGo_cons]
  unfold oneR
  split
  · rfl
  · cases h : lettersOf c with
    | none => rw [letters_none h]
    | some ls =>
      rw [letters_fields h]
      simp only []
      rw [oneR_eq L h r]
      cases rdAll L (ls.map Le.fk) r (zero c) with
      | error e => rfl
      | ok z =>
        obtain ⟨r', x⟩ := z
        cases hx : rightB x with
        | true => rw [seeR_yes hx]; simp [hx]
        | false => rw [seeR_no hx]; simp [hx]
theorem rdR_suffix {f : Le} {l r : List Int} {y z : Ins} (hb : ∀ c ∈ l, Byte c) (hr : rdR f l y = .got r z) : (∃ m, l = m ++ r) ∧ r.length < l.length := by
  by_cases hj : f = .j
  · subst hj
    obtain ⟨v, _, h2, h3⟩ := rdNum_inv (h := .N) (f := fun v => (min v 4611686018427387904 : Nat)) hb hr
    exact ⟨⟨_, h2⟩, h3⟩
  · rw [rdR_plain hj] at hr
    obtain ⟨_, _, _, m, hm⟩ := rdF_inv hb hr
    exact ⟨⟨m, hm⟩, rdF_len hb hr⟩
theorem rdAllR_suffix (L : Nat) : ∀ (ls : List Le) (l r : List Int) (y z : Ins), (∀ c ∈ l, Byte c) → rdAllR L ls l y = .ok (r, z) → ∃ m, l = m ++ r
  | [], l, r, y, z, _, h => by
    simp only [rdAllR, Except.ok.injEq, Prod.mk.injEq] at h
    obtain ⟨rfl, rfl⟩ := h
    exact ⟨[], rfl⟩
  | f :: fs, l, r, y, z, hb, h => by
    simp only [rdAllR] at h
    split at h
    · cases h
    · cases h
    · rename_i r1 y1 he
      obtain ⟨⟨m, hm⟩, _⟩ := rdR_suffix hb he
      obtain ⟨m2, hm2⟩ := rdAllR_suffix L fs r1 r _ z (fun c hc => hb c (by rw [hm]; exact List.mem_append_right _ hc)) h
      exact ⟨m ++ m2, by rw [hm, hm2, List.append_assoc]⟩
theorem seeR_ok {E : Int × Nat} {z : Except (Int × Nat) (List Int × Ins)} {y : List Int × Ins} (h : seeR E z = .ok y) : z = .ok y ∧ rightB y.2 = true := by
  unfold seeR at h
  split at h
  · cases h
  · split at h
    · cases h; exact ⟨rfl, by assumption⟩
    · cases h
theorem oneR_suffix {L : Nat} {c : Int} {r r' : List Int} {x : Ins} (hb : ∀ d ∈ r, Byte d) (h : oneR L c r = .ok (r', x)) : ∃ m, r = m ++ r' := by
  unfold oneR at h
  split at h
  · cases h
  · rename_i ls hl
    exact rdAllR_suffix L ls r _ _ _ hb (seeR_ok h).1
theorem oneR_no {L : Nat} {c : Int} {r : List Int} {e : Int × Nat} (h : oneR L c r = .error e) : 1 ≤ e.1 ∧ e.1 ≤ 26 := by
  unfold oneR at h
  split at h
  · cases h; exact ⟨by simp, by simp⟩
  · rename_i ls hl
    have key : ∀ (ls : List Le) (l : List Int) (x : Ins) (e : Int × Nat), rdAllR L ls l x = .error e → 1 ≤ e.1 ∧ e.1 ≤ 26 := by
      intro ls
      induction ls with
      | nil => intro l x e h; cases h
      | cons f fs ih =>
        intro l x e h
        simp only [rdAllR] at h
        split at h
        · cases h; exact ⟨by simp, by simp⟩
        · cases h; exact ⟨by simp, by simp⟩
        · exact ih _ _ _ h
    unfold seeR at h
    split at h
    · rename_i e2 he; cases h; exact key _ _ _ _ he
    · split at h
      · cases h
      · cases h; exact ⟨by simp, by simp⟩
theorem firstBad_of {p : List Ins} {i : Nat} (hi : i < p.length) (h : ∀ x ∈ p.take i, rightB x = true) (hb : rightB p[i] = false) : p.findIdx? (fun x => !rightB x) = some i := by
  rw [List.findIdx?_eq_some_iff_getElem]
  refine ⟨hi, by rw [hb]; rfl, fun j hj => ?_⟩
  have := h p[j] (List.mem_iff_getElem.2 ⟨j, by simp; omega, by rw [List.getElem_take]⟩)
  rw [this]; simp
end Go.Bus.codeK

namespace Go.Proofs.YtdjippdcgfcfgaaGreatDoor
open Go.RowKit Go.Bus Go.Bus.cellK Go.Bus.codeK
set_option linter.unusedVariables false
set_option linter.unusedSimpArgs false
namespace codeW
def fldTxt (op : Int) : ByteArray := match lettersOf op with | some ls => textOf ls | none => ⟨#[63]⟩
def txts : Array Value := #[.string ⟨#[]⟩, .string ⟨#[97, 105]⟩, .string ⟨#[97, 98]⟩, .string ⟨#[97, 98]⟩, .string ⟨#[97, 98]⟩, .string ⟨#[97, 98]⟩, .string ⟨#[97, 104]⟩, .string ⟨#[97, 104]⟩, .string ⟨#[97, 105]⟩, .string ⟨#[97, 107, 110]⟩, .string ⟨#[97, 107, 110]⟩, .string ⟨#[97, 107, 110]⟩, .string ⟨#[97, 107, 110]⟩, .string ⟨#[97, 107, 110, 105]⟩, .string ⟨#[97, 119]⟩, .string ⟨#[97, 115]⟩, .string ⟨#[97, 115]⟩, .string ⟨#[97, 115, 119, 103]⟩, .string ⟨#[106]⟩, .string ⟨#[97, 106, 105]⟩]
theorem txts_at : ∀ k, k < 20 → txts[k]? = some (.string (fldTxt (k : Nat)))
  | 0, _ => rfl
  | 1, _ => rfl
  | 2, _ => rfl
  | 3, _ => rfl
  | 4, _ => rfl
  | 5, _ => rfl
  | 6, _ => rfl
  | 7, _ => rfl
  | 8, _ => rfl
  | 9, _ => rfl
  | 10, _ => rfl
  | 11, _ => rfl
  | 12, _ => rfl
  | 13, _ => rfl
  | 14, _ => rfl
  | 15, _ => rfl
  | 16, _ => rfl
  | 17, _ => rfl
  | 18, _ => rfl
  | 19, _ => rfl
  | k + 20, h => absurd h (by omega)
set_option maxRecDepth 100000 in
set_option maxHeartbeats 1000000 in
theorem rfields_any (op : Int) (w : World) : Calls Tryz.prog 62 #[.int .i64 op] w fun e w' => e = .returned (.string (fldTxt op)) ∧ Below w.heap.size w w' := by
  by_cases hin : 0 ≤ op ∧ op < 20
  · obtain ⟨k, rfl⟩ := Int.eq_ofNat_of_zero_le hin.1
    have hk : k < 20 := by omega
    have hc : (w.alloc (.cells txts 9)).cell? ⟨w.heap.size, k, none⟩ = some (.string (fldTxt k)) := ((Has.new w _ txts).cell k).trans (txts_at k hk)
    unfold txts at hc
    have d1 : decide ((k : Int) < 0) = false := by simp
    have d2 : decide (20 ≤ (k : Int)) = false := by simp; omega
    obtain ⟨S, hS⟩ : ∃ S, S = fldTxt (k : Nat) := ⟨_, rfl⟩
    rw [← hS] at hc ⊢
    clear hS hin
    go_enter Tryz.func62, Tryz.ntmps62
    go_wp2
    go_ret
    exact ⟨rfl, (by repeat' (first | (with_reducible assumption) | (with_reducible refine Below.setCell ?_ ?_ _) | (with_reducible refine Below.alloc ?_ ?_ _) | (with_reducible refine Below.drew ?_) | (with_reducible refine below_drewN ?_ _) | (with_reducible exact Below.refl _ _) | (show _ ≤ _; (try simp); (try omega); done) | exact Below.refl _ _ | assumption))⟩
  · have hq : fldTxt op = ⟨#[63]⟩ := by unfold fldTxt; rw [letters_out (by omega)]
    rw [hq]
    rcases (by omega : op < 0 ∨ 20 ≤ op) with h | h
    · have d1 : decide (op < 0) = true := by simpa using h
      clear h hin hq
      go_enter Tryz.func62, Tryz.ntmps62
      go_wp2
      go_ret
      exact ⟨rfl, (by repeat' (first | (with_reducible assumption) | (with_reducible refine Below.setCell ?_ ?_ _) | (with_reducible refine Below.alloc ?_ ?_ _) | (with_reducible refine Below.drew ?_) | (with_reducible refine below_drewN ?_ _) | (with_reducible exact Below.refl _ _) | (show _ ≤ _; (try simp); (try omega); done) | exact Below.refl _ _ | assumption))⟩
    · have d1 : decide (op < 0) = false := by simp; omega
      have d2 : decide (20 ≤ op) = true := by simp; omega
      clear h hin hq
      go_enter Tryz.func62, Tryz.ntmps62
      go_wp2
      go_ret
      exact ⟨rfl, (by repeat' (first | (with_reducible assumption) | (with_reducible refine Below.setCell ?_ ?_ _) | (with_reducible refine Below.alloc ?_ ?_ _) | (with_reducible refine Below.drew ?_) | (with_reducible refine below_drewN ?_ _) | (with_reducible exact Below.refl _ _) | (show _ ≤ _; (try simp); (try omega); done) | exact Below.refl _ _ | assumption))⟩
set_option maxRecDepth 100000 in
set_option maxHeartbeats 1000000 in
theorem rfrom_any (n lo hi : Int) (w : World) : Calls Tryz.prog 63 #[.int .i64 n, .int .i64 lo, .int .i64 hi] w fun e w' => e = .returned (.bool (decide (lo ≤ n) && decide (n ≤ hi))) ∧ w = w' := by
  cases hb : decide (lo ≤ n)
  all_goals
    go_enter Tryz.func63, Tryz.ntmps63
    go_wp2
    go_ret
    exact ⟨rfl, rfl⟩
theorem neq_ins2 (x y : Ins) (w : World) : (binOp .neq 35 (.agg (insC x).toArray) (.agg (insC y).toArray)).run Tryz.prog w = .ok (.bool (!decide (x = y))) w := by
  obtain ⟨a, b, c, d, e⟩ := x
  obtain ⟨a', b', c', d', e'⟩ := y
  by_cases h1 : a = a' <;> by_cases h2 : b = b' <;> by_cases h3 : c = c' <;> by_cases h4 : d = d' <;> by_cases h5 : e = e' <;> simp [insC, go_sem, h1, h2, h3, h4, h5]
theorem textOf_size (ls : List Le) : (textOf ls).size = ls.length := by show ((ls.map Le.c).toArray).size = _; simp
theorem textOf_get (ls : List Le) (k : Nat) (h : k < (textOf ls).size) (h' : k < ls.length) : (textOf ls)[k]'h = (ls[k]).c := by
  have e : (textOf ls).data[k]? = some (ls[k]).c := by simp [textOf, h']
  exact (Array.getElem?_eq_some_iff.1 e).2
theorem setAll_take2 (fs : List Fk) (x y : Ins) {k : Nat} (h : k < fs.length) : setAll (fs.take (k + 1)) x y = (setAll (fs.take k) x y).put fs[k].wh (x.at_ fs[k].wh) := by
  rw [List.take_succ_eq_append_getElem h]
  unfold setAll
  rw [List.foldl_append]; rfl
set_option maxRecDepth 100000 in
set_option maxHeartbeats 1000000 in
theorem rright_none {x : Ins} (hx : x.Ok) (w : World) (hl : lettersOf x.op = none) : Calls Tryz.prog 31 #[.agg (insC x).toArray] w fun e w' => e = .returned (.int .i64 20) ∧ Below w.heap.size w w' := by
  obtain ⟨op, a, b, n, imm⟩ := x
  have hf : fldTxt op = ⟨#[63]⟩ := by unfold fldTxt; simp only at hl; rw [hl]
  have HF := Lib.hid (fun (W : World) => rfields_any op W)
  rw [hf] at HF
  clear hl hf hx
  unfold insC
  go_enter Tryz.func31, Tryz.ntmps31
  go_wp2_with (go_at_call 62; refine (HF.out _).mono ?_; rintro e w1 ⟨rfl, hb⟩; have hx1 := (Has.new w 35 #[.int .i64 op, .int .i64 a, .int .i64 b, .int .i64 n, .int .u64 imm]).below hb (by simp); have c0 : w1.cell? ⟨w.heap.size, 0, none⟩ = some (.int .i64 op) := hx1.cell 0; have zx : w.heap.size < w1.heap.size := hx1.lt; have HB1 : Hid (Below w.heap.size w w1) := Lib.hid (((Below.refl _ _).alloc (Nat.le_refl _) _).trans (hb.mono (by simp))); clear hb hx1)
  have HW1 : Hid (Below w.heap.size w (w1.alloc (.cells #[.int .i64 op, .int .i64 0, .int .i64 0, .int .i64 0, .int .u64 0] 35))) := Lib.hid (HB1.out.alloc (Nat.le_of_lt zx) _)
  go_loopw [5, 6] (fun ok i wr => ∃ k : Nat, k ≤ 1 ∧ i = .int .i64 k ∧ ok = .bool false ∧ Hid (Below w.heap.size w wr)) (fun _ i _ => 1 - (intOf i).toNat)
  case atStart => exact ⟨0, by omega, rfl, rfl, Lib.hid (by have := HW1.out; exact (by repeat' (first | (with_reducible assumption) | (with_reducible refine Below.setCell ?_ ?_ _) | (with_reducible refine Below.alloc ?_ ?_ _) | (with_reducible refine Below.drew ?_) | (with_reducible refine below_drewN ?_ _) | (with_reducible exact Below.refl _ _) | (show _ ≤ _; (try simp); (try omega); done) | exact Below.refl _ _ | assumption)))⟩
  case round =>
    obtain ⟨k, hk, rfl, rfl, HB⟩ := hrel
    clear HW1 c0
    rcases (by omega : k = 0 ∨ k = 1) with rfl | rfl
    · go_wp2
      go_roundw
      case rel => exact ⟨1, by omega, rfl, rfl, HB⟩
      case measure => simp [intOf]
    · go_wp2
      go_ret
      exact ⟨rfl, HB.out⟩
set_option maxRecDepth 100000 in
set_option maxHeartbeats 1000000 in
theorem rright_some {x : Ins} (hx : x.Ok) (w : World) (ls : List Le) (hl : lettersOf x.op = some ls) : Calls Tryz.prog 31 #[.agg (insC x).toArray] w fun e w' => e = .returned (.int .i64 (if rightB x then 0 else 20)) ∧ Below w.heap.size w w' := by
  have hr := right_letters hl
  have hfs := letters_fields hl
  have hlen : ls.length ≤ 4 := by have := fields_len hfs; simpa using this
  obtain ⟨R, hR⟩ : ∃ R, R = rightB x := ⟨_, rfl⟩
  rw [← hR] at hr ⊢
  obtain ⟨N, hN⟩ : ∃ N : Int, N = if R then 0 else 20 := ⟨_, rfl⟩
  rw [← hN]
  have HN := Lib.hid hN
  clear hN
  have HR := Lib.hid hr
  have HFS := Lib.hid hfs
  obtain ⟨op, a, b, n, imm⟩ := x
  have hf : fldTxt op = textOf ls := by unfold fldTxt; simp only at hl; rw [hl]
  have HF := Lib.hid (fun (W : World) => rfields_any op W)
  rw [hf] at HF
  have hsz := textOf_size ls
  have HGET := Lib.hid (textOf_get ls)
  obtain ⟨S, hS⟩ : ∃ S, S = textOf ls := ⟨_, rfl⟩
  rw [← hS] at HF hsz HGET
  have HSZ := Lib.hid hsz
  have hne : S ≠ ⟨#[63]⟩ := by
    rw [hS]
    intro e
    have h1 : ls.map Le.c = [63] := by
      have h2 : (ls.map Le.c).toArray = #[63] := ByteArray.mk.inj e
      have h3 := congrArg Array.toList h2
      simpa using h3
    cases ls with
    | nil => simp at h1
    | cons y t => simp only [List.map_cons, List.cons.injEq] at h1; cases y <;> exact absurd h1.1 (by decide)
  have hne2 : (S.toList == (⟨#[63]⟩ : ByteArray).toList) = false := by
    rw [beq_eq_false_iff_ne]
    intro e
    exact hne (ByteArray.ext (Array.toList_inj.1 (by rw [← ByteArray.toList_eq, ← ByteArray.toList_eq, e])))
  have hne3 : (S.toList == [63]) = false := by
    have h := hne2
    rw [show (⟨#[63]⟩ : ByteArray).toList = [63] from ByteArray.toList_mk [63]] at h
    exact h
  clear hl hf hx hr hfs hR hsz hS hne
  obtain ⟨fs, hfs⟩ : ∃ fs, fs = ls.map Le.fk := ⟨_, rfl⟩
  rw [← hfs] at HR HFS
  have HFE := Lib.hid hfs
  have hfl : fs.length = ls.length := by rw [hfs]; simp
  have HFL := Lib.hid hfl
  clear hfs hfl
  unfold insC
  go_enter Tryz.func31, Tryz.ntmps31
  go_wp2_with (go_at_call 62; refine (HF.out _).mono ?_; rintro e w1 ⟨rfl, hb⟩; have hx1 := (Has.new w 35 #[.int .i64 op, .int .i64 a, .int .i64 b, .int .i64 n, .int .u64 imm]).below hb (by simp); have c0 : w1.cell? ⟨w.heap.size, 0, none⟩ = some (.int .i64 op) := hx1.cell 0; have zx : w.heap.size < w1.heap.size := hx1.lt; have HX1 := Lib.hid hx1; have HB1 : Hid (Below w.heap.size w w1) := Lib.hid (((Below.refl _ _).alloc (Nat.le_refl _) _).trans (hb.mono (by simp))); clear hb hx1)
  obtain ⟨W1, hW1⟩ : ∃ W1, W1 = w1.alloc (.cells #[.int .i64 op, .int .i64 0, .int .i64 0, .int .i64 0, .int .u64 0] 35) := ⟨_, rfl⟩
  have HY0 : Hid (Has W1 w1.heap.size 35 #[.int .i64 op, .int .i64 0, .int .i64 0, .int .i64 0, .int .u64 0]) := Lib.hid (by rw [hW1]; exact Has.new w1 _ _)
  have HX0 : Hid (Has W1 w.heap.size 35 #[.int .i64 op, .int .i64 a, .int .i64 b, .int .i64 n, .int .u64 imm]) := Lib.hid (by rw [hW1]; exact HX1.out.alloc _)
  have HB0 : Hid (Below w.heap.size w W1) := Lib.hid (by rw [hW1]; exact HB1.out.alloc (Nat.le_of_lt zx) _)
  rw [← hW1]
  clear hW1 c0
  go_loopw [5, 6] (fun ok i wr => ∃ k : Nat, k ≤ ls.length ∧ i = .int .i64 k ∧ ok = .bool ((fs.take k).all (okF · ⟨op, a, b, n, imm⟩)) ∧ Hid (Has wr w1.heap.size 35 (insC (setAll (fs.take k) ⟨op, a, b, n, imm⟩ (zero op))).toArray) ∧ Hid (Has wr w.heap.size 35 #[.int .i64 op, .int .i64 a, .int .i64 b, .int .i64 n, .int .u64 imm]) ∧ Hid (Below w.heap.size w wr)) (fun _ i _ => ls.length - (intOf i).toNat)
  case atStart => exact ⟨0, Nat.zero_le _, rfl, rfl, HY0, HX0, HB0⟩
  case round =>
    obtain ⟨k, hk, rfl, rfl, HY, HX, HB⟩ := hrel
    clear HY0 HX0 HB0
    have g0 : wr.cell? ⟨w.heap.size, 0, none⟩ = some (.int .i64 op) := HX.out.cell 0
    have g1 : wr.cell? ⟨w.heap.size, 1, none⟩ = some (.int .i64 a) := HX.out.cell 1
    have g2 : wr.cell? ⟨w.heap.size, 2, none⟩ = some (.int .i64 b) := HX.out.cell 2
    have g3 : wr.cell? ⟨w.heap.size, 3, none⟩ = some (.int .i64 n) := HX.out.cell 3
    have g4 : wr.cell? ⟨w.heap.size, 4, none⟩ = some (.int .u64 imm) := HX.out.cell 4
    have zX : w.heap.size < wr.heap.size := HX.out.lt
    have zY : w1.heap.size < wr.heap.size := HY.out.lt
    by_cases hlt : k < ls.length
    · have hltS : k < S.size := by rw [HSZ.out]; exact hlt
      have hltF : k < fs.length := by rw [HFL.out]; exact hlt
      have hget := HGET.out k hltS hlt
      have hfk : fs[k] = (ls[k]).fk := by simp only [HFE.out, List.getElem_map]
      have HALL : Hid ((fs.take (k + 1)).all (okF · ⟨op, a, b, n, imm⟩) = ((fs.take k).all (okF · ⟨op, a, b, n, imm⟩) && okF (ls[k]).fk ⟨op, a, b, n, imm⟩)) := Lib.hid (by rw [all_take hltF, hfk])
      have HSET : Hid (setAll (fs.take (k + 1)) ⟨op, a, b, n, imm⟩ (zero op) = (setAll (fs.take k) ⟨op, a, b, n, imm⟩ (zero op)).put (ls[k]).fk.wh ((⟨op, a, b, n, imm⟩ : Ins).at_ (ls[k]).fk.wh)) := Lib.hid (by rw [setAll_take2 _ _ _ hltF, hfk])
      have HBY : Hid ((ls[k]).fk = .bytes → (fs.take k).all (okF · ⟨op, a, b, n, imm⟩) = true → 0 ≤ b ∧ b ≤ 7) := Lib.hid (by
        intro h1 h2
        obtain ⟨e2, hs⟩ := bytes_at HFS.out (i := k) (by rw [List.getElem?_eq_getElem hltF, hfk, h1])
        subst e2
        have hm : codeK.start ∈ fs.take 2 := by
          obtain ⟨h3, h4⟩ := List.getElem?_eq_some_iff.1 hs
          exact List.mem_iff_getElem.2 ⟨1, by simp; omega, by rw [List.getElem_take]; exact h4⟩
        have h5 := List.all_eq_true.1 h2 _ hm
        have h6 : (decide (0 ≤ b) && decide (b ≤ 7)) = true := h5
        simpa using h6)
      generalize (fs.take k).all (okF · ⟨op, a, b, n, imm⟩) = B at *
      generalize hY : setAll (fs.take k) ⟨op, a, b, n, imm⟩ (zero op) = Y at *
      clear hY
      obtain ⟨y0, y1, y2, y3, y4⟩ := Y
      have q0 : wr.cell? ⟨w1.heap.size, 0, none⟩ = some (.int .i64 y0) := HY.out.cell 0
      have q1 : wr.cell? ⟨w1.heap.size, 1, none⟩ = some (.int .i64 y1) := HY.out.cell 1
      have q2 : wr.cell? ⟨w1.heap.size, 2, none⟩ = some (.int .i64 y2) := HY.out.cell 2
      have q3 : wr.cell? ⟨w1.heap.size, 3, none⟩ = some (.int .i64 y3) := HY.out.cell 3
      have q4 : wr.cell? ⟨w1.heap.size, 4, none⟩ = some (.int .u64 y4) := HY.out.cell 4
      have r1 : wr.frozen? ⟨w1.heap.size, 1, none⟩ = false := HY.out.frozen 1
      have r2 : wr.frozen? ⟨w1.heap.size, 2, none⟩ = false := HY.out.frozen 2
      have r3 : wr.frozen? ⟨w1.heap.size, 3, none⟩ = false := HY.out.frozen 3
      have r4 : wr.frozen? ⟨w1.heap.size, 4, none⟩ = false := HY.out.frozen 4
      cases hle : ls[k] <;> rw [hle] at HALL HSET HBY hget <;> clear hle hfk
      case a =>
        have hcc : ((S[k]'hltS).toNat : Int) = 97 := by rw [hget]; rfl
        clear hget
        clear HBY
        cases B
        · go_wp2
          go_roundw
          case rel => exact ⟨k + 1, by omega, by go_num, by rw [HALL.out]; rfl, Lib.hid (by rw [HSET.out]; exact HY.out.set 1 _), Lib.hid (HX.out.far (by simp; omega) _), Lib.hid (by have := HB.out; exact (by repeat' (first | (with_reducible assumption) | (with_reducible refine Below.setCell ?_ ?_ _) | (with_reducible refine Below.alloc ?_ ?_ _) | (with_reducible refine Below.drew ?_) | (with_reducible refine below_drewN ?_ _) | (with_reducible exact Below.refl _ _) | (show _ ≤ _; (try simp); (try omega); done) | exact Below.refl _ _ | assumption)))⟩
          case measure => simp [intOf]; omega
        · go_wp2_with (go_at_call 63; refine (rfrom_any _ _ _ _).mono ?_; rintro e w3 ⟨rfl, rfl⟩)
          go_roundw
          case rel => exact ⟨k + 1, by omega, by go_num, by rw [HALL.out]; rfl, Lib.hid (by rw [HSET.out]; exact HY.out.set 1 _), Lib.hid (HX.out.far (by simp; omega) _), Lib.hid (by have := HB.out; exact (by repeat' (first | (with_reducible assumption) | (with_reducible refine Below.setCell ?_ ?_ _) | (with_reducible refine Below.alloc ?_ ?_ _) | (with_reducible refine Below.drew ?_) | (with_reducible refine below_drewN ?_ _) | (with_reducible exact Below.refl _ _) | (show _ ≤ _; (try simp); (try omega); done) | exact Below.refl _ _ | assumption)))⟩
          case measure => simp [intOf]; omega
      case b =>
        have hcc : ((S[k]'hltS).toNat : Int) = 98 := by rw [hget]; rfl
        clear hget
        clear HBY
        cases B
        · go_wp2
          go_roundw
          case rel => exact ⟨k + 1, by omega, by go_num, by rw [HALL.out]; rfl, Lib.hid (by rw [HSET.out]; exact HY.out.set 2 _), Lib.hid (HX.out.far (by simp; omega) _), Lib.hid (by have := HB.out; exact (by repeat' (first | (with_reducible assumption) | (with_reducible refine Below.setCell ?_ ?_ _) | (with_reducible refine Below.alloc ?_ ?_ _) | (with_reducible refine Below.drew ?_) | (with_reducible refine below_drewN ?_ _) | (with_reducible exact Below.refl _ _) | (show _ ≤ _; (try simp); (try omega); done) | exact Below.refl _ _ | assumption)))⟩
          case measure => simp [intOf]; omega
        · go_wp2_with (go_at_call 63; refine (rfrom_any _ _ _ _).mono ?_; rintro e w3 ⟨rfl, rfl⟩)
          go_roundw
          case rel => exact ⟨k + 1, by omega, by go_num, by rw [HALL.out]; rfl, Lib.hid (by rw [HSET.out]; exact HY.out.set 2 _), Lib.hid (HX.out.far (by simp; omega) _), Lib.hid (by have := HB.out; exact (by repeat' (first | (with_reducible assumption) | (with_reducible refine Below.setCell ?_ ?_ _) | (with_reducible refine Below.alloc ?_ ?_ _) | (with_reducible refine Below.drew ?_) | (with_reducible refine below_drewN ?_ _) | (with_reducible exact Below.refl _ _) | (show _ ≤ _; (try simp); (try omega); done) | exact Below.refl _ _ | assumption)))⟩
          case measure => simp [intOf]; omega
      case k =>
        have hcc : ((S[k]'hltS).toNat : Int) = 107 := by rw [hget]; rfl
        clear hget
        clear HBY
        cases B
        · go_wp2
          go_roundw
          case rel => exact ⟨k + 1, by omega, by go_num, by rw [HALL.out]; rfl, Lib.hid (by rw [HSET.out]; exact HY.out.set 2 _), Lib.hid (HX.out.far (by simp; omega) _), Lib.hid (by have := HB.out; exact (by repeat' (first | (with_reducible assumption) | (with_reducible refine Below.setCell ?_ ?_ _) | (with_reducible refine Below.alloc ?_ ?_ _) | (with_reducible refine Below.drew ?_) | (with_reducible refine below_drewN ?_ _) | (with_reducible exact Below.refl _ _) | (show _ ≤ _; (try simp); (try omega); done) | exact Below.refl _ _ | assumption)))⟩
          case measure => simp [intOf]; omega
        · go_wp2_with (go_at_call 63; refine (rfrom_any _ _ _ _).mono ?_; rintro e w3 ⟨rfl, rfl⟩)
          go_roundw
          case rel => exact ⟨k + 1, by omega, by go_num, by rw [HALL.out]; rfl, Lib.hid (by rw [HSET.out]; exact HY.out.set 2 _), Lib.hid (HX.out.far (by simp; omega) _), Lib.hid (by have := HB.out; exact (by repeat' (first | (with_reducible assumption) | (with_reducible refine Below.setCell ?_ ?_ _) | (with_reducible refine Below.alloc ?_ ?_ _) | (with_reducible refine Below.drew ?_) | (with_reducible refine below_drewN ?_ _) | (with_reducible exact Below.refl _ _) | (show _ ≤ _; (try simp); (try omega); done) | exact Below.refl _ _ | assumption)))⟩
          case measure => simp [intOf]; omega
      case n =>
        have hcc : ((S[k]'hltS).toNat : Int) = 110 := by rw [hget]; rfl
        clear hget
        cases B
        · clear HBY
          go_wp2
          go_roundw
          case rel => exact ⟨k + 1, by omega, by go_num, by rw [HALL.out]; rfl, Lib.hid (by rw [HSET.out]; exact HY.out.set 3 _), Lib.hid (HX.out.far (by simp; omega) _), Lib.hid (by have := HB.out; exact (by repeat' (first | (with_reducible assumption) | (with_reducible refine Below.setCell ?_ ?_ _) | (with_reducible refine Below.alloc ?_ ?_ _) | (with_reducible refine Below.drew ?_) | (with_reducible refine below_drewN ?_ _) | (with_reducible exact Below.refl _ _) | (show _ ≤ _; (try simp); (try omega); done) | exact Below.refl _ _ | assumption)))⟩
          case measure => simp [intOf]; omega
        · have hby := HBY.out rfl rfl
          clear HBY
          cases hfr : (decide (1 ≤ n) && decide (n ≤ 8))
          · have HFR := Lib.hid hfr
            clear hfr
            go_wp2_with (go_at_call 63; refine (rfrom_any _ _ _ _).mono ?_; rintro e w3 ⟨rfl, rfl⟩; rw [HFR.out])
            go_roundw
            case rel => exact ⟨k + 1, by omega, by go_num, by rw [HALL.out]; simp only [Le.fk, okF, HFR.out]; rfl, Lib.hid (by rw [HSET.out]; exact HY.out.set 3 _), Lib.hid (HX.out.far (by simp; omega) _), Lib.hid (by have := HB.out; exact (by repeat' (first | (with_reducible assumption) | (with_reducible refine Below.setCell ?_ ?_ _) | (with_reducible refine Below.alloc ?_ ?_ _) | (with_reducible refine Below.drew ?_) | (with_reducible refine below_drewN ?_ _) | (with_reducible exact Below.refl _ _) | (show _ ≤ _; (try simp); (try omega); done) | exact Below.refl _ _ | assumption)))⟩
            case measure => simp [intOf]; omega
          · have HFR := Lib.hid hfr
            have hn : 1 ≤ n ∧ n ≤ 8 := by simpa using hfr
            have hwr : IntKind.i64.wrap (b + n) = b + n := by rw [IntKind.wrap_i64]; omega
            clear hfr
            go_wp2_with (go_at_call 63; refine (rfrom_any _ _ _ _).mono ?_; rintro e w3 ⟨rfl, rfl⟩; rw [HFR.out])
            go_roundw
            case rel => exact ⟨k + 1, by omega, by go_num, by rw [HALL.out]; simp only [Le.fk, okF, HFR.out]; rfl, Lib.hid (by rw [HSET.out]; exact HY.out.set 3 _), Lib.hid (HX.out.far (by simp; omega) _), Lib.hid (by have := HB.out; exact (by repeat' (first | (with_reducible assumption) | (with_reducible refine Below.setCell ?_ ?_ _) | (with_reducible refine Below.alloc ?_ ?_ _) | (with_reducible refine Below.drew ?_) | (with_reducible refine below_drewN ?_ _) | (with_reducible exact Below.refl _ _) | (show _ ≤ _; (try simp); (try omega); done) | exact Below.refl _ _ | assumption)))⟩
            case measure => simp [intOf]; omega
      case s =>
        have hcc : ((S[k]'hltS).toNat : Int) = 115 := by rw [hget]; rfl
        clear hget
        clear HBY
        cases B
        · go_wp2
          go_roundw
          case rel => exact ⟨k + 1, by omega, by go_num, by rw [HALL.out]; rfl, Lib.hid (by rw [HSET.out]; exact HY.out.set 2 _), Lib.hid (HX.out.far (by simp; omega) _), Lib.hid (by have := HB.out; exact (by repeat' (first | (with_reducible assumption) | (with_reducible refine Below.setCell ?_ ?_ _) | (with_reducible refine Below.alloc ?_ ?_ _) | (with_reducible refine Below.drew ?_) | (with_reducible refine below_drewN ?_ _) | (with_reducible exact Below.refl _ _) | (show _ ≤ _; (try simp); (try omega); done) | exact Below.refl _ _ | assumption)))⟩
          case measure => simp [intOf]; omega
        · go_wp2_with (go_at_call 63; refine (rfrom_any _ _ _ _).mono ?_; rintro e w3 ⟨rfl, rfl⟩)
          go_roundw
          case rel => exact ⟨k + 1, by omega, by go_num, by rw [HALL.out]; rfl, Lib.hid (by rw [HSET.out]; exact HY.out.set 2 _), Lib.hid (HX.out.far (by simp; omega) _), Lib.hid (by have := HB.out; exact (by repeat' (first | (with_reducible assumption) | (with_reducible refine Below.setCell ?_ ?_ _) | (with_reducible refine Below.alloc ?_ ?_ _) | (with_reducible refine Below.drew ?_) | (with_reducible refine below_drewN ?_ _) | (with_reducible exact Below.refl _ _) | (show _ ≤ _; (try simp); (try omega); done) | exact Below.refl _ _ | assumption)))⟩
          case measure => simp [intOf]; omega
      case h =>
        have hcc : ((S[k]'hltS).toNat : Int) = 104 := by rw [hget]; rfl
        clear hget
        clear HBY
        cases B
        · go_wp2
          go_roundw
          case rel => exact ⟨k + 1, by omega, by go_num, by rw [HALL.out]; rfl, Lib.hid (by rw [HSET.out]; exact HY.out.set 3 _), Lib.hid (HX.out.far (by simp; omega) _), Lib.hid (by have := HB.out; exact (by repeat' (first | (with_reducible assumption) | (with_reducible refine Below.setCell ?_ ?_ _) | (with_reducible refine Below.alloc ?_ ?_ _) | (with_reducible refine Below.drew ?_) | (with_reducible refine below_drewN ?_ _) | (with_reducible exact Below.refl _ _) | (show _ ≤ _; (try simp); (try omega); done) | exact Below.refl _ _ | assumption)))⟩
          case measure => simp [intOf]; omega
        · go_wp2_with (go_at_call 63; refine (rfrom_any _ _ _ _).mono ?_; rintro e w3 ⟨rfl, rfl⟩)
          go_roundw
          case rel => exact ⟨k + 1, by omega, by go_num, by rw [HALL.out]; rfl, Lib.hid (by rw [HSET.out]; exact HY.out.set 3 _), Lib.hid (HX.out.far (by simp; omega) _), Lib.hid (by have := HB.out; exact (by repeat' (first | (with_reducible assumption) | (with_reducible refine Below.setCell ?_ ?_ _) | (with_reducible refine Below.alloc ?_ ?_ _) | (with_reducible refine Below.drew ?_) | (with_reducible refine below_drewN ?_ _) | (with_reducible exact Below.refl _ _) | (show _ ≤ _; (try simp); (try omega); done) | exact Below.refl _ _ | assumption)))⟩
          case measure => simp [intOf]; omega
      case w =>
        have hcc : ((S[k]'hltS).toNat : Int) = 119 := by rw [hget]; rfl
        clear hget
        clear HBY
        cases B
        · go_wp2
          go_roundw
          case rel => exact ⟨k + 1, by omega, by go_num, by rw [HALL.out]; rfl, Lib.hid (by rw [HSET.out]; exact HY.out.set 3 _), Lib.hid (HX.out.far (by simp; omega) _), Lib.hid (by have := HB.out; exact (by repeat' (first | (with_reducible assumption) | (with_reducible refine Below.setCell ?_ ?_ _) | (with_reducible refine Below.alloc ?_ ?_ _) | (with_reducible refine Below.drew ?_) | (with_reducible refine below_drewN ?_ _) | (with_reducible exact Below.refl _ _) | (show _ ≤ _; (try simp); (try omega); done) | exact Below.refl _ _ | assumption)))⟩
          case measure => simp [intOf]; omega
        · go_wp2_with (go_at_call 63; refine (rfrom_any _ _ _ _).mono ?_; rintro e w3 ⟨rfl, rfl⟩)
          go_roundw
          case rel => exact ⟨k + 1, by omega, by go_num, by rw [HALL.out]; rfl, Lib.hid (by rw [HSET.out]; exact HY.out.set 3 _), Lib.hid (HX.out.far (by simp; omega) _), Lib.hid (by have := HB.out; exact (by repeat' (first | (with_reducible assumption) | (with_reducible refine Below.setCell ?_ ?_ _) | (with_reducible refine Below.alloc ?_ ?_ _) | (with_reducible refine Below.drew ?_) | (with_reducible refine below_drewN ?_ _) | (with_reducible exact Below.refl _ _) | (show _ ≤ _; (try simp); (try omega); done) | exact Below.refl _ _ | assumption)))⟩
          case measure => simp [intOf]; omega
      case j =>
        have hcc : ((S[k]'hltS).toNat : Int) = 106 := by rw [hget]; rfl
        clear hget
        clear HBY
        cases B
        · go_wp2
          go_roundw
          case rel => exact ⟨k + 1, by omega, by go_num, by rw [HALL.out]; rfl, Lib.hid (by rw [HSET.out]; exact HY.out.set 3 _), Lib.hid (HX.out.far (by simp; omega) _), Lib.hid (by have := HB.out; exact (by repeat' (first | (with_reducible assumption) | (with_reducible refine Below.setCell ?_ ?_ _) | (with_reducible refine Below.alloc ?_ ?_ _) | (with_reducible refine Below.drew ?_) | (with_reducible refine below_drewN ?_ _) | (with_reducible exact Below.refl _ _) | (show _ ≤ _; (try simp); (try omega); done) | exact Below.refl _ _ | assumption)))⟩
          case measure => simp [intOf]; omega
        · go_wp2_with (go_at_call 63; refine (rfrom_any _ _ _ _).mono ?_; rintro e w3 ⟨rfl, rfl⟩)
          go_roundw
          case rel => exact ⟨k + 1, by omega, by go_num, by rw [HALL.out]; rfl, Lib.hid (by rw [HSET.out]; exact HY.out.set 3 _), Lib.hid (HX.out.far (by simp; omega) _), Lib.hid (by have := HB.out; exact (by repeat' (first | (with_reducible assumption) | (with_reducible refine Below.setCell ?_ ?_ _) | (with_reducible refine Below.alloc ?_ ?_ _) | (with_reducible refine Below.drew ?_) | (with_reducible refine below_drewN ?_ _) | (with_reducible exact Below.refl _ _) | (show _ ≤ _; (try simp); (try omega); done) | exact Below.refl _ _ | assumption)))⟩
          case measure => simp [intOf]; omega
      case i =>
        have hcc : ((S[k]'hltS).toNat : Int) = 105 := by rw [hget]; rfl
        clear hget
        clear HBY
        cases B
        · go_wp2
          go_roundw
          case rel => exact ⟨k + 1, by omega, by go_num, by rw [HALL.out]; rfl, Lib.hid (by rw [HSET.out]; exact HY.out.set 4 _), Lib.hid (HX.out.far (by simp; omega) _), Lib.hid (by have := HB.out; exact (by repeat' (first | (with_reducible assumption) | (with_reducible refine Below.setCell ?_ ?_ _) | (with_reducible refine Below.alloc ?_ ?_ _) | (with_reducible refine Below.drew ?_) | (with_reducible refine below_drewN ?_ _) | (with_reducible exact Below.refl _ _) | (show _ ≤ _; (try simp); (try omega); done) | exact Below.refl _ _ | assumption)))⟩
          case measure => simp [intOf]; omega
        · go_wp2
          go_roundw
          case rel => exact ⟨k + 1, by omega, by go_num, by rw [HALL.out]; rfl, Lib.hid (by rw [HSET.out]; exact HY.out.set 4 _), Lib.hid (HX.out.far (by simp; omega) _), Lib.hid (by have := HB.out; exact (by repeat' (first | (with_reducible assumption) | (with_reducible refine Below.setCell ?_ ?_ _) | (with_reducible refine Below.alloc ?_ ?_ _) | (with_reducible refine Below.drew ?_) | (with_reducible refine below_drewN ?_ _) | (with_reducible exact Below.refl _ _) | (show _ ≤ _; (try simp); (try omega); done) | exact Below.refl _ _ | assumption)))⟩
          case measure => simp [intOf]; omega
      case g =>
        have hcc : ((S[k]'hltS).toNat : Int) = 103 := by rw [hget]; rfl
        clear hget
        clear HBY
        cases B
        · go_wp2
          go_roundw
          case rel => exact ⟨k + 1, by omega, by go_num, by rw [HALL.out]; rfl, Lib.hid (by rw [HSET.out]; exact HY.out.set 4 _), Lib.hid (HX.out.far (by simp; omega) _), Lib.hid (by have := HB.out; exact (by repeat' (first | (with_reducible assumption) | (with_reducible refine Below.setCell ?_ ?_ _) | (with_reducible refine Below.alloc ?_ ?_ _) | (with_reducible refine Below.drew ?_) | (with_reducible refine below_drewN ?_ _) | (with_reducible exact Below.refl _ _) | (show _ ≤ _; (try simp); (try omega); done) | exact Below.refl _ _ | assumption)))⟩
          case measure => simp [intOf]; omega
        · go_wp2
          go_roundw
          case rel => exact ⟨k + 1, by omega, by go_num, by rw [HALL.out]; rfl, Lib.hid (by rw [HSET.out]; exact HY.out.set 4 _), Lib.hid (HX.out.far (by simp; omega) _), Lib.hid (by have := HB.out; exact (by repeat' (first | (with_reducible assumption) | (with_reducible refine Below.setCell ?_ ?_ _) | (with_reducible refine Below.alloc ?_ ?_ _) | (with_reducible refine Below.drew ?_) | (with_reducible refine below_drewN ?_ _) | (with_reducible exact Below.refl _ _) | (show _ ≤ _; (try simp); (try omega); done) | exact Below.refl _ _ | assumption)))⟩
          case measure => simp [intOf]; omega
    · obtain rfl : k = ls.length := by omega
      have hft : fs.take ls.length = fs := List.take_of_length_le (by rw [HFL.out]; exact Nat.le_refl _)
      rw [hft] at HY
      rw [hft]
      have hdec : decide ((ls.length : Int) < (S.size : Int)) = false := by rw [HSZ.out]; simp
      have hdec2 : decide (ls.length < S.size) = false := by rw [HSZ.out]; simp
      have hdec3 : S.size ≤ ls.length := by rw [HSZ.out]; exact Nat.le_refl _
      generalize fs.all (okF · ⟨op, a, b, n, imm⟩) = B at *
      generalize hY : setAll fs ⟨op, a, b, n, imm⟩ (zero op) = Y at *
      obtain ⟨y0, y1, y2, y3, y4⟩ := Y
      clear hY hft
      have q0 : wr.cell? ⟨w1.heap.size, 0, none⟩ = some (.int .i64 y0) := HY.out.cell 0
      have q1 : wr.cell? ⟨w1.heap.size, 1, none⟩ = some (.int .i64 y1) := HY.out.cell 1
      have q2 : wr.cell? ⟨w1.heap.size, 2, none⟩ = some (.int .i64 y2) := HY.out.cell 2
      have q3 : wr.cell? ⟨w1.heap.size, 3, none⟩ = some (.int .i64 y3) := HY.out.cell 3
      have q4 : wr.cell? ⟨w1.heap.size, 4, none⟩ = some (.int .u64 y4) := HY.out.cell 4
      cases B
      · have HR20 : Hid (R = false) := HR
        clear HR
        go_wp2
        go_ret
        exact ⟨by rw [HN.out, HR20.out]; rfl, HB.out⟩
      · obtain ⟨D, hD⟩ : ∃ D, D = decide ((⟨op, a, b, n, imm⟩ : Ins) = ⟨y0, y1, y2, y3, y4⟩) := ⟨_, rfl⟩
        have heq : ∀ W, (binOp .neq 35 (.agg #[.int .i64 op, .int .i64 a, .int .i64 b, .int .i64 n, .int .u64 imm]) (.agg #[.int .i64 y0, .int .i64 y1, .int .i64 y2, .int .i64 y3, .int .u64 y4])).run Tryz.prog W = .ok (.bool (!D)) W := fun W => by rw [hD]; exact neq_ins2 ⟨op, a, b, n, imm⟩ ⟨y0, y1, y2, y3, y4⟩ W
        have HRD : Hid (R = D) := Lib.hid (by rw [HR.out, hD, Bool.true_and]; congr 1; exact propext ⟨fun h => h.symm, fun h => h.symm⟩)
        clear hD HR
        cases D
        all_goals
          go_wp2
          (try (go_quiet (fail); go_wp2))
          go_ret
          exact ⟨by rw [HN.out, HRD.out]; rfl, by first | exact HB.out | exact Go.Bus.below_drewN HB.out _⟩
theorem rright_any {x : Ins} (hx : x.Ok) (w : World) : Calls Tryz.prog 31 #[.agg (insC x).toArray] w fun e w' => e = .returned (.int .i64 (if rightB x then 0 else 20)) ∧ Below w.heap.size w w' := by
  cases hl : lettersOf x.op with
  | none => rw [right_none hl]; exact rright_none hx w hl
  | some ls => exact rright_some hx w ls hl
end codeW
end Go.Proofs.YtdjippdcgfcfgaaGreatDoor

namespace Go.Proofs.YtdjippdcgfcfgaaGreatDoor
open Go.RowKit Go.Bus Go.Bus.cellK Go.Bus.codeK
set_option linter.unusedVariables false
set_option linter.unusedSimpArgs false
namespace codeW
theorem or128b (k : Nat) : bits BinOp.or IntKind.u8 ((k : Int) % 128) 128 = ((k % 128 + 128 : Nat) : Int) := by
  have h := or128 (k % 128)
  rw [show (((k % 128 : Nat) : Int) % 256) = (k : Int) % 128 from by omega] at h
  rw [h]; congr 1; omega
theorem and127n {u : Nat} (h : u < 18446744073709551616) : bits BinOp.and IntKind.u64 (u : Int) 127 = ((u % 128 : Nat) : Int) := by
  have h1 := bits_and_u64_nat u 127 h (by decide)
  rw [show ((127 : Nat) : Int) = 127 from rfl] at h1
  rw [h1, show (127 : Nat) = 2 ^ 7 - 1 from rfl, Nat.and_two_pow_sub_one_eq_mod]
theorem u_ten {u k : Nat} (h : u * 128 ^ k < 18446744073709551616) (hk : k = 10) : u = 0 := by
  subst hk
  have : (128 : Nat) ^ 10 = 1180591620717411303424 := by decide
  rw [this] at h; omega
theorem uk1 {u k : Nat} (h : u * 128 ^ k < 18446744073709551616) : u / 128 * 128 ^ (k + 1) < 18446744073709551616 := by
  have h1 : u / 128 * 128 ^ (k + 1) ≤ u * 128 ^ k := by
    rw [Nat.pow_succ, Nat.mul_comm (128 ^ k) 128, ← Nat.mul_assoc]
    exact Nat.mul_le_mul_right _ (by omega)
  omega
theorem u64k {u k : Nat} (h : u * 128 ^ k < 18446744073709551616) : u < 18446744073709551616 := Nat.lt_of_le_of_lt (Nat.le_mul_of_pos_right u (Nat.pow_pos (by decide))) h
set_option maxRecDepth 100000 in
set_option maxHeartbeats 2000000 in
theorem rsev_any (m : Nat) (hm : m < 18446744073709551616) (w : World) : Calls Tryz.prog 64 #[.int .u64 (m : Nat)] w fun e w' => ∃ v, e = .returned v ∧ w'.ownsRow w.heap.size 5 1 v (sev m).length ((sev m).map byteV) ∧ Below w.heap.size w w' := by
  obtain ⟨i0, hi, hz0, hz1, hz2⟩ := info_parts Tryz.infoB
  obtain ⟨T, hT⟩ : ∃ T, T = sev m := ⟨_, rfl⟩
  rw [← hT]
  have HT := Lib.hid hT
  clear hT
  go_enter Tryz.func64, Tryz.ntmps64
  go_wp2
  go_loopw [0, 3, 4] (fun v l i wr => ∃ (k u : Nat) (bs : List Int), k ≤ 10 ∧ v = .int .u64 (u : Nat) ∧ i = .int .i64 (k : Nat) ∧ Hid (u * 128 ^ k < 18446744073709551616) ∧ bs.length = k ∧ Hid (wr.ownsRow w.heap.size 5 1 l k (bs.map byteV)) ∧ Hid (bs ++ (if k = 0 ∨ 0 < u then sev u else []) = T) ∧ Hid (Below w.heap.size w wr)) (fun _ _ i _ => 10 - (intOf i).toNat)
  case atStart => exact ⟨0, m, [], Nat.zero_le _, rfl, rfl, Lib.hid (by simpa using hm), rfl, Lib.hid (World.ownsRow_nil _ _ _ _), Lib.hid (by rw [if_pos (.inl rfl), HT.out]; rfl), Lib.hid (Below.refl _ _)⟩
  case round =>
    obtain ⟨k, u, bs, hk, rfl, rfl, HU, hbl, HO, HE, HB⟩ := hrel
    have HBL := Lib.hid hbl
    clear hbl
    have hu64 := u64k HU.out
    have hsz := HB.out.size
    by_cases hgo : k = 0 ∨ 0 < u
    · have hk10 : k < 10 := by
        rcases Nat.lt_or_ge k 10 with h | h
        · exact h
        · have := u_ten HU.out (by omega); omega
      have d1 : decide ((k : Int) < 10) = true := by simp; omega
      have d2 : (((k : Int) == 0) || decide (0 < (u : Int))) = true := by
        rcases hgo with h | h
        · simp [h]
        · have : decide (0 < (u : Int)) = true := by simp; omega
          rw [this, Bool.or_true]
      have HG : Hid (bs ++ sev u = T) := Lib.hid (by rw [← HE.out, if_pos hgo])
      have HU1 := Lib.hid (uk1 HU.out)
      have hkk : k = 0 ∨ (k ≠ 0 ∧ 0 < u) := by omega
      clear hgo HE HU
      have hA := and127n hu64
      by_cases hlt : u < 128
      · have HX : Hid (bits BinOp.and IntKind.u64 (u : Int) 127 % 256 = (u : Int)) := Lib.hid (by rw [hA]; omega)
        have HN : Hid ((bs ++ [(u : Int)]) ++ (if k + 1 = 0 ∨ 0 < u / 128 then sev (u / 128) else []) = T) := Lib.hid (by rw [if_neg (by omega), List.append_nil, ← HG.out, sev_lt hlt])
        clear hA
        rcases hkk with h0 | ⟨h0, h1⟩
        · subst h0
          have d4 : decide (0 < (u : Int) / 128) = false := by simp; omega
          go_wp2_with (at_builtin; refine wpList_append_own _ rfl _ _ 23 (by rfl) w.heap.size 5 i0 (.int .u8 0) 1 1 Tryz.underlying23 hi hz0 hz1 hz2 (by rfl) (by decide) _ 0 (bs.map byteV) (by rfl) (by exact HO.out.alloc _) ⟨wr.heap.size, 0, none⟩ 1 1 [.int .u8 (bits BinOp.and IntKind.u64 (u : Int) 127 % 256)] (by rfl) (by rfl) (by exact one_new _ _ _) (by intro u hu; simp at hu; subst hu; rfl) (by unfold maxLen; omega) (by omega) (by simp; omega) ?_; intro v1 w1 ho1 hg1 _; rw [HX.out] at ho1; have HO1 := Lib.hid ho1; have HB1 : Hid (Below w.heap.size w w1) := Lib.hid (Below.grown (HB.out.alloc (by omega) _) hg1 (by simp; omega) fun r hr => (HO.out.lt r hr).1); clear ho1 hg1)
          go_roundw
          case rel => exact ⟨0 + 1, u / 128, bs ++ [(u : Int)], by omega, by first | rfl | go_num | (simp; done), by first | rfl | go_num, HU1, by rw [List.length_append, HBL.out]; rfl, Lib.hid (by have := HO1.out; simpa [byteV] using this), HN, HB1⟩
          case measure => simp [intOf]; first | done | omega
        · have d3 : ((k : Int) == 0) = false := by simp; omega
          have d5 : decide (0 < (u : Int)) = true := by simp; omega
          clear d2
          have d4 : decide (0 < (u : Int) / 128) = false := by simp; omega
          go_wp2_with (at_builtin; refine wpList_append_own _ rfl _ _ 23 (by rfl) w.heap.size 5 i0 (.int .u8 0) 1 1 Tryz.underlying23 hi hz0 hz1 hz2 (by rfl) (by decide) _ k (bs.map byteV) (by rfl) (by exact HO.out.alloc _) ⟨wr.heap.size, 0, none⟩ 1 1 [.int .u8 (bits BinOp.and IntKind.u64 (u : Int) 127 % 256)] (by rfl) (by rfl) (by exact one_new _ _ _) (by intro u hu; simp at hu; subst hu; rfl) (by unfold maxLen; omega) (by omega) (by simp; omega) ?_; intro v1 w1 ho1 hg1 _; rw [HX.out] at ho1; have HO1 := Lib.hid ho1; have HB1 : Hid (Below w.heap.size w w1) := Lib.hid (Below.grown (HB.out.alloc (by omega) _) hg1 (by simp; omega) fun r hr => (HO.out.lt r hr).1); clear ho1 hg1)
          go_roundw
          case rel => exact ⟨k + 1, u / 128, bs ++ [(u : Int)], by omega, by first | rfl | go_num | (simp; done), by first | rfl | go_num, HU1, by rw [List.length_append, HBL.out]; rfl, Lib.hid (by have := HO1.out; simpa [byteV] using this), HN, HB1⟩
          case measure => simp [intOf]; first | done | omega
      · have HX : Hid (bits BinOp.or IntKind.u8 (bits BinOp.and IntKind.u64 (u : Int) 127 % 256) 128 = ((u % 128 + 128 : Nat) : Int)) := Lib.hid (by rw [hA, show (((u % 128 : Nat) : Int) % 256) = (u : Int) % 128 from by omega]; exact or128b u)
        have HN : Hid ((bs ++ [((u % 128 + 128 : Nat) : Int)]) ++ (if k + 1 = 0 ∨ 0 < u / 128 then sev (u / 128) else []) = T) := Lib.hid (by rw [if_pos (.inr (by omega)), List.append_assoc, ← HG.out, sev_ge hlt]; rfl)
        clear hA
        rcases hkk with h0 | ⟨h0, h1⟩
        · subst h0
          have d4 : decide (0 < (u : Int) / 128) = true := by simp; omega
          go_wp2_with (at_builtin; refine wpList_append_own _ rfl _ _ 23 (by rfl) w.heap.size 5 i0 (.int .u8 0) 1 1 Tryz.underlying23 hi hz0 hz1 hz2 (by rfl) (by decide) _ 0 (bs.map byteV) (by rfl) (by exact HO.out.alloc _) ⟨wr.heap.size, 0, none⟩ 1 1 [.int .u8 (bits BinOp.or IntKind.u8 (bits BinOp.and IntKind.u64 (u : Int) 127 % 256) 128)] (by rfl) (by rfl) (by exact one_new _ _ _) (by intro u hu; simp at hu; subst hu; rfl) (by unfold maxLen; omega) (by omega) (by simp; omega) ?_; intro v1 w1 ho1 hg1 _; rw [HX.out] at ho1; have HO1 := Lib.hid ho1; have HB1 : Hid (Below w.heap.size w w1) := Lib.hid (Below.grown (HB.out.alloc (by omega) _) hg1 (by simp; omega) fun r hr => (HO.out.lt r hr).1); clear ho1 hg1)
          go_roundw
          case rel => exact ⟨0 + 1, u / 128, bs ++ [((u % 128 + 128 : Nat) : Int)], by omega, by first | rfl | go_num | (simp; done), by first | rfl | go_num, HU1, by rw [List.length_append, HBL.out]; rfl, Lib.hid (by have := HO1.out; simpa [byteV] using this), HN, HB1⟩
          case measure => simp [intOf]; first | done | omega
        · have d3 : ((k : Int) == 0) = false := by simp; omega
          have d5 : decide (0 < (u : Int)) = true := by simp; omega
          clear d2
          have d4 : decide (0 < (u : Int) / 128) = true := by simp; omega
          go_wp2_with (at_builtin; refine wpList_append_own _ rfl _ _ 23 (by rfl) w.heap.size 5 i0 (.int .u8 0) 1 1 Tryz.underlying23 hi hz0 hz1 hz2 (by rfl) (by decide) _ k (bs.map byteV) (by rfl) (by exact HO.out.alloc _) ⟨wr.heap.size, 0, none⟩ 1 1 [.int .u8 (bits BinOp.or IntKind.u8 (bits BinOp.and IntKind.u64 (u : Int) 127 % 256) 128)] (by rfl) (by rfl) (by exact one_new _ _ _) (by intro u hu; simp at hu; subst hu; rfl) (by unfold maxLen; omega) (by omega) (by simp; omega) ?_; intro v1 w1 ho1 hg1 _; rw [HX.out] at ho1; have HO1 := Lib.hid ho1; have HB1 : Hid (Below w.heap.size w w1) := Lib.hid (Below.grown (HB.out.alloc (by omega) _) hg1 (by simp; omega) fun r hr => (HO.out.lt r hr).1); clear ho1 hg1)
          go_roundw
          case rel => exact ⟨k + 1, u / 128, bs ++ [((u % 128 + 128 : Nat) : Int)], by omega, by first | rfl | go_num | (simp; done), by first | rfl | go_num, HU1, by rw [List.length_append, HBL.out]; rfl, Lib.hid (by have := HO1.out; simpa [byteV] using this), HN, HB1⟩
          case measure => simp [intOf]; first | done | omega
    · obtain rfl : u = 0 := by omega
      have hk0 : k ≠ 0 := by omega
      have HT2 : Hid (bs = T) := Lib.hid (by rw [← HE.out, if_neg hgo, List.append_nil])
      have d3 : ((k : Int) == 0) = false := by simp; omega
      clear hgo HE HU
      rcases Nat.lt_or_ge k 10 with hk2 | hk2
      · have d1 : decide ((k : Int) < 10) = true := by simp; omega
        go_wp2
        go_ret
        exact ⟨_, rfl, by rw [← HT2.out, HBL.out]; exact HO.out, HB.out⟩
      · have d1 : decide ((k : Int) < 10) = false := by simp; omega
        go_wp2
        go_ret
        exact ⟨_, rfl, by rw [← HT2.out, HBL.out]; exact HO.out, HB.out⟩
end codeW
end Go.Proofs.YtdjippdcgfcfgaaGreatDoor

namespace Go.Proofs.YtdjippdcgfcfgaaGreatDoor
open Go.RowKit Go.Bus Go.Bus.cellK Go.Bus.codeK
set_option linter.unusedVariables false
set_option linter.unusedSimpArgs false
namespace codeW
theorem rsev_int (v : Int) (m : Nat) (hv : v = m) (hm : m < 18446744073709551616) (w : World) : Calls Tryz.prog 64 #[.int .u64 v] w fun e w' => ∃ g c, e = .returned (.slice (some ⟨g, 0, none⟩) (sev m).length c) ∧ w'.ownsRow w.heap.size 5 1 (.slice (some ⟨g, 0, none⟩) (sev m).length c) (sev m).length ((sev m).map byteV) ∧ Below w.heap.size w w' := by
  subst hv
  refine (rsev_any m hm w).mono ?_
  rintro e w' ⟨v, rfl, ho, hb⟩
  obtain ⟨g, c, rfl, _, _⟩ := own_form ho (by have := sev_pos m; omega)
  exact ⟨g, c, rfl, ho, hb⟩
theorem enc_take (op : Int) (fs : List Fk) (x : Ins) {k : Nat} (h : k < fs.length) : op :: (fs.take (k + 1)).flatMap (wrF · x) = (op :: (fs.take k).flatMap (wrF · x)) ++ wrF fs[k] x := by
  rw [List.take_succ_eq_append_getElem h, List.flatMap_append]; simp
set_option maxRecDepth 100000 in
set_option maxHeartbeats 4000000 in
theorem rbytes_any {x : Ins} (hx : x.Ok) (hr : rightB x = true) (w : World) : Calls Tryz.prog 32 #[.agg (insC x).toArray] w fun e w' => ∃ v, e = .returned v ∧ w'.ownsRow w.heap.size 5 1 v (encI x).length ((encI x).map byteV) ∧ Below w.heap.size w w' := by
  obtain ⟨i0, hi, hz0, hz1, hz2⟩ := info_parts Tryz.infoB
  obtain ⟨fs0, hfs0, hok0, _⟩ := right_some hr
  cases hl : lettersOf x.op with
  | none => rw [letters_none hl] at hfs0; cases hfs0
  | some ls =>
  have hfs := letters_fields hl
  rw [hfs] at hfs0
  obtain rfl := Option.some.inj hfs0
  have hlen : ls.length ≤ 4 := by have := fields_len hfs; simpa using this
  obtain ⟨E, hE⟩ : ∃ E, E = encI x := ⟨_, rfl⟩
  rw [← hE]
  have HE : Hid (E = x.op :: (ls.map Le.fk).flatMap (wrF · x)) := Lib.hid (by rw [hE]; unfold encI bodyI; rw [hfs]; rfl)
  have hop : 0 ≤ x.op ∧ x.op < 20 := by obtain ⟨k, hk, hk2, _⟩ := fields_cases hfs; omega
  have HOK := Lib.hid hok0
  have HIM := Lib.hid hx.imm
  have HLEN : Hid (∀ k, (x.op :: ((ls.map Le.fk).take k).flatMap (wrF · x)).length ≤ 41) := Lib.hid (fun k => by
    have h1 := flat_len x hx ((ls.map Le.fk).take k) (fun f hf => hok0 f (List.mem_of_mem_take hf))
    rw [List.length_cons]
    have h2 : ((ls.map Le.fk).take k).length ≤ 4 := by rw [List.length_take, List.length_map]; omega
    omega)
  have hf : fldTxt x.op = textOf ls := by unfold fldTxt; rw [hl]
  have HF := Lib.hid (fun (W : World) => rfields_any x.op W)
  rw [hf] at HF
  have hsz := textOf_size ls
  have HGET := Lib.hid (textOf_get ls)
  obtain ⟨S, hS⟩ : ∃ S, S = textOf ls := ⟨_, rfl⟩
  rw [← hS] at HF hsz HGET
  have HSZ := Lib.hid hsz
  obtain ⟨op, a, b, n, imm⟩ := x
  obtain ⟨hop0, hop1⟩ := hop
  simp only at hop0 hop1
  have hwo : IntKind.u8.wrap op = op := by rw [IntKind.wrap_u8]; omega
  have HWO := Lib.hid hwo
  clear hwo hl hf hx hr hfs hfs0 hsz hS hE hok0
  obtain ⟨fs, hfs⟩ : ∃ fs, fs = ls.map Le.fk := ⟨_, rfl⟩
  rw [← hfs] at HE HOK HLEN
  have HFE := Lib.hid hfs
  have hfl : fs.length = ls.length := by rw [hfs]; simp
  have HFL := Lib.hid hfl
  clear hfs hfl
  unfold insC
  go_enter Tryz.func32, Tryz.ntmps32
  go_wp2_with (go_at_call 62; refine (HF.out _).mono ?_; rintro e w1 ⟨rfl, hb⟩; have hx1 := ((Has.new w 35 #[.int .i64 op, .int .i64 a, .int .i64 b, .int .i64 n, .int .u64 imm]).alloc (.cells #[.int .u8 op] 5)).below hb (by simp; omega); have zx : w.heap.size < w1.heap.size := hx1.lt; have ho1 : w1.ownsRow w.heap.size 5 1 (.slice (some ⟨w.heap.size + 1, 0, none⟩) 1 1) 1 [.int .u8 op] := (by have h9 := own_kept (own_of_has (base := w.heap.size) (size := 1) (n := 1) (cs := [.int .u8 op]) (Has.new1 w (.cells #[.int .i64 op, .int .i64 a, .int .i64 b, .int .i64 n, .int .u64 imm] 35) 5 #[.int .u8 op]) rfl (by omega) (by simp [maxLen])) hb; exact h9); have HX1 := Lib.hid hx1; have HO1 := Lib.hid ho1; have HB1 : Hid (Below w.heap.size w w1) := Lib.hid ((((Below.refl _ _).alloc (Nat.le_refl _) _).alloc (by simp) _).trans (hb.mono (by simp; omega))); clear hb hx1 ho1)
  go_loopw [3, 5] (fun l i wr => ∃ (k m : Nat), k ≤ ls.length ∧ i = .int .i64 k ∧ m ≤ 41 ∧ Hid (m = (op :: (fs.take k).flatMap (wrF · ⟨op, a, b, n, imm⟩)).length) ∧ Hid (wr.ownsRow w.heap.size 5 1 l m ((op :: (fs.take k).flatMap (wrF · ⟨op, a, b, n, imm⟩)).map byteV)) ∧ Hid (Has wr w.heap.size 35 #[.int .i64 op, .int .i64 a, .int .i64 b, .int .i64 n, .int .u64 imm]) ∧ Hid (Below w.heap.size w wr)) (fun _ i _ => ls.length - (intOf i).toNat)
  case atStart => exact ⟨0, 1, Nat.zero_le _, rfl, by omega, Lib.hid (by simp), Lib.hid (by have := HO1.out; simpa [byteV] using this), HX1, HB1⟩
  case round =>
    obtain ⟨k, m, hk, rfl, hm, HM, HO, HX, HB⟩ := hrel
    clear HX1 HO1 HB1
    have g0 : wr.cell? ⟨w.heap.size, 0, none⟩ = some (.int .i64 op) := HX.out.cell 0
    have g1 : wr.cell? ⟨w.heap.size, 1, none⟩ = some (.int .i64 a) := HX.out.cell 1
    have g2 : wr.cell? ⟨w.heap.size, 2, none⟩ = some (.int .i64 b) := HX.out.cell 2
    have g3 : wr.cell? ⟨w.heap.size, 3, none⟩ = some (.int .i64 n) := HX.out.cell 3
    have g4 : wr.cell? ⟨w.heap.size, 4, none⟩ = some (.int .u64 imm) := HX.out.cell 4
    have zX : w.heap.size < wr.heap.size := HX.out.lt
    by_cases hlt : k < ls.length
    · have hltS : k < S.size := by rw [HSZ.out]; exact hlt
      have hltF : k < fs.length := by rw [HFL.out]; exact hlt
      have hget := HGET.out k hltS hlt
      have hfk : fs[k] = (ls[k]).fk := by simp only [HFE.out, List.getElem_map]
      have HTK : Hid (op :: (fs.take (k + 1)).flatMap (wrF · ⟨op, a, b, n, imm⟩) = (op :: (fs.take k).flatMap (wrF · ⟨op, a, b, n, imm⟩)) ++ wrF (ls[k]).fk ⟨op, a, b, n, imm⟩) := Lib.hid (by rw [enc_take op fs _ hltF, hfk])
      have HLK := Lib.hid (HLEN.out (k + 1))
      have hok := HOK.out fs[k] (List.getElem_mem hltF)
      rw [hfk] at hok
      generalize hT0 : (op :: (fs.take k).flatMap (wrF · ⟨op, a, b, n, imm⟩)) = T0 at *
      generalize hT1 : (op :: (fs.take (k + 1)).flatMap (wrF · ⟨op, a, b, n, imm⟩)) = T1 at *
      have HT1 := Lib.hid hT1
      clear hT0 hT1
      cases hle : ls[k] <;> rw [hle] at HTK hok hget <;> clear hle hfk
      case a =>
        have hcc : ((S[k]'hltS).toNat : Int) = 97 := by rw [hget]; rfl
        clear hget
        have hbd : 0 ≤ a ∧ a ≤ 255 := by
          have h9 : (decide (_ ≤ a) && decide (a ≤ _)) = true := hok
          simp at h9; omega
        obtain ⟨hbd0, hbd1⟩ := hbd
        clear hok
        go_wp2_with (at_builtin; refine wpList_append_own _ rfl _ _ 23 (by rfl) w.heap.size 5 i0 (.int .u8 0) 1 1 Tryz.underlying23 hi hz0 hz1 hz2 (by rfl) (by decide) _ m (T0.map byteV) (by rfl) (by exact HO.out.alloc _) ⟨wr.heap.size, 0, none⟩ 1 1 [.int .u8 (a)] (by rfl) (by rfl) (by exact one_new _ _ _) (by intro u hu; simp at hu; subst hu; rfl) (by unfold maxLen; omega) (by omega) (by simp; omega) ?_; intro v1 w1 ho1 hg1 _; have HO1 := Lib.hid ho1; have HB1 : Hid (Below w.heap.size w w1) := Lib.hid (Below.grown (HB.out.alloc (by omega) _) hg1 (by simp; omega) fun r hr => (HO.out.lt r hr).1); have HX1 := Lib.hid ((HX.out.alloc _).grown hg1 (fun e => own_has_ne HO.out HX.out (by decide) e.symm)); clear ho1 hg1)
        go_roundw
        case rel => exact ⟨k + 1, m + 1, by omega, by go_num, by have h1 := HLK.out; have h2 := congrArg List.length HTK.out; rw [List.length_append, ← HM.out, show (wrF (Le.a).fk ⟨op, a, b, n, imm⟩).length = 1 from rfl] at h2; omega, Lib.hid (by rw [HT1.out, HTK.out, List.length_append, ← HM.out]; rfl), Lib.hid (by rw [HT1.out, HTK.out, List.map_append]; exact HO1.out), HX1, HB1⟩
        case measure => simp [intOf]; omega
      case b =>
        have hcc : ((S[k]'hltS).toNat : Int) = 98 := by rw [hget]; rfl
        clear hget
        have hbd : 0 ≤ b ∧ b ≤ 255 := by
          have h9 : (decide (_ ≤ b) && decide (b ≤ _)) = true := hok
          simp at h9; omega
        obtain ⟨hbd0, hbd1⟩ := hbd
        clear hok
        go_wp2_with (at_builtin; refine wpList_append_own _ rfl _ _ 23 (by rfl) w.heap.size 5 i0 (.int .u8 0) 1 1 Tryz.underlying23 hi hz0 hz1 hz2 (by rfl) (by decide) _ m (T0.map byteV) (by rfl) (by exact HO.out.alloc _) ⟨wr.heap.size, 0, none⟩ 1 1 [.int .u8 (b)] (by rfl) (by rfl) (by exact one_new _ _ _) (by intro u hu; simp at hu; subst hu; rfl) (by unfold maxLen; omega) (by omega) (by simp; omega) ?_; intro v1 w1 ho1 hg1 _; have HO1 := Lib.hid ho1; have HB1 : Hid (Below w.heap.size w w1) := Lib.hid (Below.grown (HB.out.alloc (by omega) _) hg1 (by simp; omega) fun r hr => (HO.out.lt r hr).1); have HX1 := Lib.hid ((HX.out.alloc _).grown hg1 (fun e => own_has_ne HO.out HX.out (by decide) e.symm)); clear ho1 hg1)
        go_roundw
        case rel => exact ⟨k + 1, m + 1, by omega, by go_num, by have h1 := HLK.out; have h2 := congrArg List.length HTK.out; rw [List.length_append, ← HM.out, show (wrF (Le.b).fk ⟨op, a, b, n, imm⟩).length = 1 from rfl] at h2; omega, Lib.hid (by rw [HT1.out, HTK.out, List.length_append, ← HM.out]; rfl), Lib.hid (by rw [HT1.out, HTK.out, List.map_append]; exact HO1.out), HX1, HB1⟩
        case measure => simp [intOf]; omega
      case k =>
        have hcc : ((S[k]'hltS).toNat : Int) = 107 := by rw [hget]; rfl
        clear hget
        have hbd : 0 ≤ b ∧ b ≤ 255 := by
          have h9 : (decide (_ ≤ b) && decide (b ≤ _)) = true := hok
          simp at h9; omega
        obtain ⟨hbd0, hbd1⟩ := hbd
        clear hok
        go_wp2_with (at_builtin; refine wpList_append_own _ rfl _ _ 23 (by rfl) w.heap.size 5 i0 (.int .u8 0) 1 1 Tryz.underlying23 hi hz0 hz1 hz2 (by rfl) (by decide) _ m (T0.map byteV) (by rfl) (by exact HO.out.alloc _) ⟨wr.heap.size, 0, none⟩ 1 1 [.int .u8 (b)] (by rfl) (by rfl) (by exact one_new _ _ _) (by intro u hu; simp at hu; subst hu; rfl) (by unfold maxLen; omega) (by omega) (by simp; omega) ?_; intro v1 w1 ho1 hg1 _; have HO1 := Lib.hid ho1; have HB1 : Hid (Below w.heap.size w w1) := Lib.hid (Below.grown (HB.out.alloc (by omega) _) hg1 (by simp; omega) fun r hr => (HO.out.lt r hr).1); have HX1 := Lib.hid ((HX.out.alloc _).grown hg1 (fun e => own_has_ne HO.out HX.out (by decide) e.symm)); clear ho1 hg1)
        go_roundw
        case rel => exact ⟨k + 1, m + 1, by omega, by go_num, by have h1 := HLK.out; have h2 := congrArg List.length HTK.out; rw [List.length_append, ← HM.out, show (wrF (Le.k).fk ⟨op, a, b, n, imm⟩).length = 1 from rfl] at h2; omega, Lib.hid (by rw [HT1.out, HTK.out, List.length_append, ← HM.out]; rfl), Lib.hid (by rw [HT1.out, HTK.out, List.map_append]; exact HO1.out), HX1, HB1⟩
        case measure => simp [intOf]; omega
      case n =>
        have hcc : ((S[k]'hltS).toNat : Int) = 110 := by rw [hget]; rfl
        clear hget
        have hbd : 0 ≤ n ∧ n ≤ 255 := by
          have h9 : (decide (1 ≤ n) && decide (n ≤ 8) && decide (b + n ≤ 8)) = true := hok
          simp at h9; omega
        obtain ⟨hbd0, hbd1⟩ := hbd
        clear hok
        go_wp2_with (at_builtin; refine wpList_append_own _ rfl _ _ 23 (by rfl) w.heap.size 5 i0 (.int .u8 0) 1 1 Tryz.underlying23 hi hz0 hz1 hz2 (by rfl) (by decide) _ m (T0.map byteV) (by rfl) (by exact HO.out.alloc _) ⟨wr.heap.size, 0, none⟩ 1 1 [.int .u8 (n)] (by rfl) (by rfl) (by exact one_new _ _ _) (by intro u hu; simp at hu; subst hu; rfl) (by unfold maxLen; omega) (by omega) (by simp; omega) ?_; intro v1 w1 ho1 hg1 _; have HO1 := Lib.hid ho1; have HB1 : Hid (Below w.heap.size w w1) := Lib.hid (Below.grown (HB.out.alloc (by omega) _) hg1 (by simp; omega) fun r hr => (HO.out.lt r hr).1); have HX1 := Lib.hid ((HX.out.alloc _).grown hg1 (fun e => own_has_ne HO.out HX.out (by decide) e.symm)); clear ho1 hg1)
        go_roundw
        case rel => exact ⟨k + 1, m + 1, by omega, by go_num, by have h1 := HLK.out; have h2 := congrArg List.length HTK.out; rw [List.length_append, ← HM.out, show (wrF (Le.n).fk ⟨op, a, b, n, imm⟩).length = 1 from rfl] at h2; omega, Lib.hid (by rw [HT1.out, HTK.out, List.length_append, ← HM.out]; rfl), Lib.hid (by rw [HT1.out, HTK.out, List.map_append]; exact HO1.out), HX1, HB1⟩
        case measure => simp [intOf]; omega
      case s =>
        have hcc : ((S[k]'hltS).toNat : Int) = 115 := by rw [hget]; rfl
        clear hget
        have hbd : 0 ≤ b ∧ b ≤ 255 := by
          have h9 : (decide (_ ≤ b) && decide (b ≤ _)) = true := hok
          simp at h9; omega
        obtain ⟨hbd0, hbd1⟩ := hbd
        clear hok
        go_wp2_with (at_builtin; refine wpList_append_own _ rfl _ _ 23 (by rfl) w.heap.size 5 i0 (.int .u8 0) 1 1 Tryz.underlying23 hi hz0 hz1 hz2 (by rfl) (by decide) _ m (T0.map byteV) (by rfl) (by exact HO.out.alloc _) ⟨wr.heap.size, 0, none⟩ 1 1 [.int .u8 (b)] (by rfl) (by rfl) (by exact one_new _ _ _) (by intro u hu; simp at hu; subst hu; rfl) (by unfold maxLen; omega) (by omega) (by simp; omega) ?_; intro v1 w1 ho1 hg1 _; have HO1 := Lib.hid ho1; have HB1 : Hid (Below w.heap.size w w1) := Lib.hid (Below.grown (HB.out.alloc (by omega) _) hg1 (by simp; omega) fun r hr => (HO.out.lt r hr).1); have HX1 := Lib.hid ((HX.out.alloc _).grown hg1 (fun e => own_has_ne HO.out HX.out (by decide) e.symm)); clear ho1 hg1)
        go_roundw
        case rel => exact ⟨k + 1, m + 1, by omega, by go_num, by have h1 := HLK.out; have h2 := congrArg List.length HTK.out; rw [List.length_append, ← HM.out, show (wrF (Le.s).fk ⟨op, a, b, n, imm⟩).length = 1 from rfl] at h2; omega, Lib.hid (by rw [HT1.out, HTK.out, List.length_append, ← HM.out]; rfl), Lib.hid (by rw [HT1.out, HTK.out, List.map_append]; exact HO1.out), HX1, HB1⟩
        case measure => simp [intOf]; omega
      case h =>
        have hcc : ((S[k]'hltS).toNat : Int) = 104 := by rw [hget]; rfl
        clear hget
        have hbd : 0 ≤ n ∧ n ≤ 255 := by
          have h9 : (decide (_ ≤ n) && decide (n ≤ _)) = true := hok
          simp at h9; omega
        obtain ⟨hbd0, hbd1⟩ := hbd
        clear hok
        go_wp2_with (at_builtin; refine wpList_append_own _ rfl _ _ 23 (by rfl) w.heap.size 5 i0 (.int .u8 0) 1 1 Tryz.underlying23 hi hz0 hz1 hz2 (by rfl) (by decide) _ m (T0.map byteV) (by rfl) (by exact HO.out.alloc _) ⟨wr.heap.size, 0, none⟩ 1 1 [.int .u8 (n)] (by rfl) (by rfl) (by exact one_new _ _ _) (by intro u hu; simp at hu; subst hu; rfl) (by unfold maxLen; omega) (by omega) (by simp; omega) ?_; intro v1 w1 ho1 hg1 _; have HO1 := Lib.hid ho1; have HB1 : Hid (Below w.heap.size w w1) := Lib.hid (Below.grown (HB.out.alloc (by omega) _) hg1 (by simp; omega) fun r hr => (HO.out.lt r hr).1); have HX1 := Lib.hid ((HX.out.alloc _).grown hg1 (fun e => own_has_ne HO.out HX.out (by decide) e.symm)); clear ho1 hg1)
        go_roundw
        case rel => exact ⟨k + 1, m + 1, by omega, by go_num, by have h1 := HLK.out; have h2 := congrArg List.length HTK.out; rw [List.length_append, ← HM.out, show (wrF (Le.h).fk ⟨op, a, b, n, imm⟩).length = 1 from rfl] at h2; omega, Lib.hid (by rw [HT1.out, HTK.out, List.length_append, ← HM.out]; rfl), Lib.hid (by rw [HT1.out, HTK.out, List.map_append]; exact HO1.out), HX1, HB1⟩
        case measure => simp [intOf]; omega
      case w =>
        have hcc : ((S[k]'hltS).toNat : Int) = 119 := by rw [hget]; rfl
        clear hget
        have hbd : 0 ≤ n ∧ n ≤ 255 := by
          have h9 : (decide (_ ≤ n) && decide (n ≤ _)) = true := hok
          simp at h9; omega
        obtain ⟨hbd0, hbd1⟩ := hbd
        clear hok
        go_wp2_with (at_builtin; refine wpList_append_own _ rfl _ _ 23 (by rfl) w.heap.size 5 i0 (.int .u8 0) 1 1 Tryz.underlying23 hi hz0 hz1 hz2 (by rfl) (by decide) _ m (T0.map byteV) (by rfl) (by exact HO.out.alloc _) ⟨wr.heap.size, 0, none⟩ 1 1 [.int .u8 (n)] (by rfl) (by rfl) (by exact one_new _ _ _) (by intro u hu; simp at hu; subst hu; rfl) (by unfold maxLen; omega) (by omega) (by simp; omega) ?_; intro v1 w1 ho1 hg1 _; have HO1 := Lib.hid ho1; have HB1 : Hid (Below w.heap.size w w1) := Lib.hid (Below.grown (HB.out.alloc (by omega) _) hg1 (by simp; omega) fun r hr => (HO.out.lt r hr).1); have HX1 := Lib.hid ((HX.out.alloc _).grown hg1 (fun e => own_has_ne HO.out HX.out (by decide) e.symm)); clear ho1 hg1)
        go_roundw
        case rel => exact ⟨k + 1, m + 1, by omega, by go_num, by have h1 := HLK.out; have h2 := congrArg List.length HTK.out; rw [List.length_append, ← HM.out, show (wrF (Le.w).fk ⟨op, a, b, n, imm⟩).length = 1 from rfl] at h2; omega, Lib.hid (by rw [HT1.out, HTK.out, List.length_append, ← HM.out]; rfl), Lib.hid (by rw [HT1.out, HTK.out, List.map_append]; exact HO1.out), HX1, HB1⟩
        case measure => simp [intOf]; omega
      case j =>
        have hcc : ((S[k]'hltS).toNat : Int) = 106 := by rw [hget]; rfl
        clear hget
        obtain ⟨q, hq⟩ : ∃ q : Nat, q = n.toNat := ⟨_, rfl⟩
        have hbd : 0 ≤ n ∧ n ≤ 16384 := by
          have h9 : (decide (0 ≤ n) && decide (n ≤ 16384)) = true := hok
          simp at h9; omega
        have hq1 : n = (q : Int) := by omega
        have HQ := Lib.hid hq1
        have hq2 : q < 18446744073709551616 := by omega
        have HQW : Hid (wrF .skip ⟨op, a, b, n, imm⟩ = sev q) := Lib.hid (by simp only [wrF]; rw [hq])
        have hsp : 1 ≤ (sev q).length := sev_pos q
        have hsl : m + (sev q).length ≤ 41 := by have h1 := HLK.out; have h2 := congrArg List.length HTK.out; rw [List.length_append, ← HM.out] at h2; have h3 := congrArg List.length HQW.out; simp only [Le.fk] at h2; omega
        clear hq hok
        have HSV := Lib.hid (fun (v : Int) (hv : v = (q : Int)) (W : World) => rsev_int v q hv hq2 W)
        clear hq1 hbd
        go_wp2_with (first | (go_at_call 64; refine (HSV.out _ (by have := HQ.out; first | exact this | (rw [IntKind.wrap_u64]; omega)) _).mono ?_; rintro e w2 ⟨g2', c2, rfl, ho2, hb2⟩; have HS2 := Lib.hid ho2; have HO2 := Lib.hid (own_kept HO.out hb2); have HX2 := Lib.hid (HX.out.below hb2 HX.out.lt); have HB2 := Lib.hid (HB.out.trans (hb2.mono (Nat.le_of_lt zX))); have zX2 : w.heap.size < w2.heap.size := HX2.out.lt; clear ho2 hb2) | (at_builtin; refine wpList_append_own _ rfl _ _ 23 (by rfl) w.heap.size 5 i0 (.int .u8 0) 1 1 Tryz.underlying23 hi hz0 hz1 hz2 (by rfl) (by decide) _ m (T0.map byteV) (by rfl) (by exact HO2.out) ⟨g2', 0, none⟩ (sev q).length _ ((sev q).map byteV) (by rfl) (by simp) (by exact HS2.out.cells rfl) (by intro u hu; obtain ⟨z, _, rfl⟩ := List.mem_map.1 hu; rfl) (by unfold maxLen; omega) (by omega) (Nat.le_of_lt zX2) ?_; intro v1 w1 ho1 hg1 _; have HO1 := Lib.hid ho1; have HB1 : Hid (Below w.heap.size w w1) := Lib.hid (Below.grown HB2.out hg1 (Nat.le_of_lt zX2) fun r hr => (HO2.out.lt r hr).1); have HX1 := Lib.hid (HX2.out.grown hg1 (fun e => own_has_ne HO2.out HX2.out (by decide) e.symm)); clear ho1 hg1))
        go_roundw
        case rel => exact ⟨k + 1, m + (sev q).length, by omega, by go_num, hsl, Lib.hid (by rw [HT1.out, HTK.out, List.length_append, ← HM.out]; simp only [Le.fk]; rw [HQW.out]), Lib.hid (by rw [HT1.out, HTK.out, List.map_append]; simp only [Le.fk]; rw [HQW.out]; exact HO1.out), HX1, HB1⟩
        case measure => simp [intOf]; omega
      case i =>
        have hcc : ((S[k]'hltS).toNat : Int) = 105 := by rw [hget]; rfl
        clear hget
        obtain ⟨q, hq⟩ : ∃ q : Nat, q = imm.toNat := ⟨_, rfl⟩
        have hbd := HIM.out
        have hq1 : imm = (q : Int) := by omega
        have HQ := Lib.hid hq1
        have hq2 : q < 18446744073709551616 := by omega
        have HQW : Hid (wrF .number ⟨op, a, b, n, imm⟩ = sev q) := Lib.hid (by simp only [wrF]; rw [hq])
        have hsp : 1 ≤ (sev q).length := sev_pos q
        have hsl : m + (sev q).length ≤ 41 := by have h1 := HLK.out; have h2 := congrArg List.length HTK.out; rw [List.length_append, ← HM.out] at h2; have h3 := congrArg List.length HQW.out; simp only [Le.fk] at h2; omega
        clear hq hok
        have HSV := Lib.hid (fun (v : Int) (hv : v = (q : Int)) (W : World) => rsev_int v q hv hq2 W)
        clear hq1 hbd
        go_wp2_with (first | (go_at_call 64; refine (HSV.out _ (by have := HQ.out; first | exact this | (rw [IntKind.wrap_u64]; omega)) _).mono ?_; rintro e w2 ⟨g2', c2, rfl, ho2, hb2⟩; have HS2 := Lib.hid ho2; have HO2 := Lib.hid (own_kept HO.out hb2); have HX2 := Lib.hid (HX.out.below hb2 HX.out.lt); have HB2 := Lib.hid (HB.out.trans (hb2.mono (Nat.le_of_lt zX))); have zX2 : w.heap.size < w2.heap.size := HX2.out.lt; clear ho2 hb2) | (at_builtin; refine wpList_append_own _ rfl _ _ 23 (by rfl) w.heap.size 5 i0 (.int .u8 0) 1 1 Tryz.underlying23 hi hz0 hz1 hz2 (by rfl) (by decide) _ m (T0.map byteV) (by rfl) (by exact HO2.out) ⟨g2', 0, none⟩ (sev q).length _ ((sev q).map byteV) (by rfl) (by simp) (by exact HS2.out.cells rfl) (by intro u hu; obtain ⟨z, _, rfl⟩ := List.mem_map.1 hu; rfl) (by unfold maxLen; omega) (by omega) (Nat.le_of_lt zX2) ?_; intro v1 w1 ho1 hg1 _; have HO1 := Lib.hid ho1; have HB1 : Hid (Below w.heap.size w w1) := Lib.hid (Below.grown HB2.out hg1 (Nat.le_of_lt zX2) fun r hr => (HO2.out.lt r hr).1); have HX1 := Lib.hid (HX2.out.grown hg1 (fun e => own_has_ne HO2.out HX2.out (by decide) e.symm)); clear ho1 hg1))
        go_roundw
        case rel => exact ⟨k + 1, m + (sev q).length, by omega, by go_num, hsl, Lib.hid (by rw [HT1.out, HTK.out, List.length_append, ← HM.out]; simp only [Le.fk]; rw [HQW.out]), Lib.hid (by rw [HT1.out, HTK.out, List.map_append]; simp only [Le.fk]; rw [HQW.out]; exact HO1.out), HX1, HB1⟩
        case measure => simp [intOf]; omega
      case g =>
        have hcc : ((S[k]'hltS).toNat : Int) = 103 := by rw [hget]; rfl
        clear hget
        obtain ⟨q, hq⟩ : ∃ q : Nat, q = imm.toNat := ⟨_, rfl⟩
        have hbd := HIM.out
        have hq1 : imm = (q : Int) := by omega
        have HQ := Lib.hid hq1
        have hq2 : q < 18446744073709551616 := by omega
        have HQW : Hid (wrF .sign ⟨op, a, b, n, imm⟩ = sev q) := Lib.hid (by simp only [wrF]; rw [hq])
        have hsp : 1 ≤ (sev q).length := sev_pos q
        have hsl : m + (sev q).length ≤ 41 := by have h1 := HLK.out; have h2 := congrArg List.length HTK.out; rw [List.length_append, ← HM.out] at h2; have h3 := congrArg List.length HQW.out; simp only [Le.fk] at h2; omega
        clear hq hok
        have HSV := Lib.hid (fun (v : Int) (hv : v = (q : Int)) (W : World) => rsev_int v q hv hq2 W)
        clear hq1 hbd
        go_wp2_with (first | (go_at_call 64; refine (HSV.out _ (by have := HQ.out; first | exact this | (rw [IntKind.wrap_u64]; omega)) _).mono ?_; rintro e w2 ⟨g2', c2, rfl, ho2, hb2⟩; have HS2 := Lib.hid ho2; have HO2 := Lib.hid (own_kept HO.out hb2); have HX2 := Lib.hid (HX.out.below hb2 HX.out.lt); have HB2 := Lib.hid (HB.out.trans (hb2.mono (Nat.le_of_lt zX))); have zX2 : w.heap.size < w2.heap.size := HX2.out.lt; clear ho2 hb2) | (at_builtin; refine wpList_append_own _ rfl _ _ 23 (by rfl) w.heap.size 5 i0 (.int .u8 0) 1 1 Tryz.underlying23 hi hz0 hz1 hz2 (by rfl) (by decide) _ m (T0.map byteV) (by rfl) (by exact HO2.out) ⟨g2', 0, none⟩ (sev q).length _ ((sev q).map byteV) (by rfl) (by simp) (by exact HS2.out.cells rfl) (by intro u hu; obtain ⟨z, _, rfl⟩ := List.mem_map.1 hu; rfl) (by unfold maxLen; omega) (by omega) (Nat.le_of_lt zX2) ?_; intro v1 w1 ho1 hg1 _; have HO1 := Lib.hid ho1; have HB1 : Hid (Below w.heap.size w w1) := Lib.hid (Below.grown HB2.out hg1 (Nat.le_of_lt zX2) fun r hr => (HO2.out.lt r hr).1); have HX1 := Lib.hid (HX2.out.grown hg1 (fun e => own_has_ne HO2.out HX2.out (by decide) e.symm)); clear ho1 hg1))
        go_roundw
        case rel => exact ⟨k + 1, m + (sev q).length, by omega, by go_num, hsl, Lib.hid (by rw [HT1.out, HTK.out, List.length_append, ← HM.out]; simp only [Le.fk]; rw [HQW.out]), Lib.hid (by rw [HT1.out, HTK.out, List.map_append]; simp only [Le.fk]; rw [HQW.out]; exact HO1.out), HX1, HB1⟩
        case measure => simp [intOf]; omega
    · obtain rfl : k = ls.length := by omega
      have hft : fs.take ls.length = fs := List.take_of_length_le (by rw [HFL.out]; exact Nat.le_refl _)
      rw [hft] at HM HO
      have hdec : decide ((ls.length : Int) < (S.size : Int)) = false := by rw [HSZ.out]; simp
      have hdec2 : decide (ls.length < S.size) = false := by rw [HSZ.out]; simp
      have hdec3 : S.size ≤ ls.length := by rw [HSZ.out]; exact Nat.le_refl _
      clear hft
      go_wp2
      go_ret
      exact ⟨_, rfl, by rw [HE.out, ← HM.out]; exact HO.out, HB.out⟩
end codeW
end Go.Proofs.YtdjippdcgfcfgaaGreatDoor
