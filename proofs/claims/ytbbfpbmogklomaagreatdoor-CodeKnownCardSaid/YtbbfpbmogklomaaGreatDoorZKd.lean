/- Texts of this claim, one behind the other. No condition but those that each states. -/
import Derived.Test.YtbbfpbmogklomaaGreatDoorZKc
import Derived.Lib.Split
import Derived.Lib.SplitLaws
import Derived.Lib.Atoi
import Derived.Lib.Strings

namespace Go.Bus.codeK
open Go.Lib Go.Bus.hexK
set_option linter.unusedVariables false
theorem index_blank {a r : List UInt8} (h : (32 : UInt8) ∉ a) : index (a ++ 32 :: r) [32] = a.length := by
  refine index_first (by simp) ?_ ?_
  · unfold occAt; simp
  · intro j hj
    cases ho : occAt (a ++ 32 :: r) [32] j with
    | false => rfl
    | true =>
      have h1 := occAt_head (c := 32) (t := []) rfl ho
      rw [List.getElem?_append_left hj] at h1
      exact absurd (List.mem_of_getElem? h1) h
theorem index_noBlank {a : List UInt8} (h : (32 : UInt8) ∉ a) : index a [32] = -1 := by
  refine index_none ?_
  intro j hj
  cases ho : occAt a [32] j with
  | false => rfl
  | true => exact absurd (List.mem_of_getElem? (occAt_head (c := 32) (t := []) rfl ho)) h
theorem split_join : ∀ (l : List (List UInt8)) (a : List UInt8), (32 : UInt8) ∉ a → (∀ x ∈ l, (32 : UInt8) ∉ x) → splitK [32] 0 (count (a ++ l.flatMap (32 :: ·)) [32]) (a ++ l.flatMap (32 :: ·)) = a :: l
  | [], a, ha, _ => by
    rw [List.flatMap_nil, List.append_nil, count_miss (index_noBlank ha)]; rfl
  | b :: l, a, ha, hl => by
    have ih := split_join l b (hl b (List.mem_cons_self ..)) (fun x hx => hl x (List.mem_cons_of_mem _ hx))
    rw [List.flatMap_cons, List.cons_append]
    have hi := index_blank (r := b ++ l.flatMap (32 :: ·)) ha
    have hd : (a ++ 32 :: (b ++ l.flatMap (32 :: ·))).drop (a.length + 1) = b ++ l.flatMap (32 :: ·) := by
      rw [List.drop_append]; simp
    rw [count_hit (by simp) hi, Nat.add_comm, splitK]
    have hm : ¬ (index (a ++ 32 :: (b ++ l.flatMap (32 :: ·))) [32] == -1) = true := by rw [hi]; simp
    rw [if_neg hm, hi]
    simp only [Int.toNat_natCast, Nat.add_zero, List.length_cons, List.length_nil, Nat.zero_add, List.take_left']
    rw [hd, ih]
def blankB : ByteArray := ⟨#[32]⟩
theorem splitB_join {a : List UInt8} {l : List (List UInt8)} (ha : (32 : UInt8) ∉ a) (hl : ∀ x ∈ l, (32 : UInt8) ∉ x) {s : ByteArray} (hs : s = ⟨(a ++ l.flatMap (32 :: ·)).toArray⟩) : splitB blankB 0 (countB s blankB) s = (a :: l).map fun t => ⟨t.toArray⟩ := by
  have h1 := splitB_data blankB 0 (countB s blankB) s
  have h2 : splitK blankB.data.toList 0 (countB s blankB) s.data.toList = a :: l := by
    subst hs
    exact split_join l a ha hl
  rw [h2] at h1
  rw [← h1, List.map_map]
  have h3 : ((fun t : List UInt8 => (⟨t.toArray⟩ : ByteArray)) ∘ fun x : ByteArray => x.data.toList) = id := by
    funext x; apply ByteArray.ext; simp
  rw [h3, List.map_id]
theorem digs_noBlank {b : Nat} (h2 : 2 ≤ b) (h16 : b ≤ 16) (n : Nat) : (32 : UInt8) ∉ digsB b n := by
  have key : ∀ d : Fin 16, hexd d.val ≠ 32 := by decide
  have key2 : ∀ d : Nat, d < 16 → hexd d ≠ 32 := fun d hd => key ⟨d, hd⟩
  induction n using Nat.strongRecOn with
  | ind n ih =>
    by_cases hn : n < b
    · rw [digsB_lt hn]; intro e
      exact key2 n (by omega) (List.mem_singleton.1 e).symm
    · rw [digsB_ge hn h2]
      intro e
      rcases List.mem_append.1 e with e | e
      · exact ih (n / b) (Nat.div_lt_self (by omega) (by omega)) e
      · exact key2 (n % b) (by have := Nat.mod_lt n (show 0 < b by omega); omega) (List.mem_singleton.1 e).symm
theorem itoa_noBlank (n : Int) : (32 : UInt8) ∉ itoa n := by
  unfold itoa
  split
  · intro e
    rcases List.mem_cons.1 e with e | e
    · exact absurd e (by decide)
    · rw [← digs10] at e; exact digs_noBlank (by decide) (by decide) _ e
  · rw [← digs10]; exact digs_noBlank (by decide) (by decide) _
theorem txt_noBlank {f : Fk} {x : Ins} (hs : ∀ h lo hi s, f = .small h lo hi s → (32 : UInt8) ∉ s.data.toList) : (32 : UInt8) ∉ txtF f x := by
  cases f with
  | small h lo hi s =>
    simp only [txtF, List.mem_append, not_or]
    exact ⟨hs h lo hi s rfl, itoa_noBlank _⟩
  | skip => exact itoa_noBlank _
  | bytes => exact itoa_noBlank _
  | number =>
    have h1 := digs_noBlank (b := 16) (by decide) (by decide) x.imm.toNat
    rw [digs16] at h1
    simp only [txtF, List.mem_append, not_or]
    exact ⟨by decide, h1⟩
  | sign => simp only [txtF]; split <;> decide
theorem fields_noBlank {op : Int} {fs : List Fk} (h : fieldsOf op = some fs) : ∀ f ∈ fs, ∀ k lo hi s, f = .small k lo hi s → (32 : UInt8) ∉ s.data.toList := by
  obtain ⟨k, hk, hk20, hf⟩ := fields_cases h
  intro f hm g lo hi s e
  have key : ∀ k : Nat, k < 20 → ∀ fs, fieldsN k = some fs → ∀ f ∈ fs, ∀ g lo hi s, f = .small g lo hi s → s = rS ∨ s = eS := by
    intro k hk fs hfs f hm g lo hi s e
    have hcs : k = 0 ∨ k = 1 ∨ k = 2 ∨ k = 3 ∨ k = 4 ∨ k = 5 ∨ k = 6 ∨ k = 7 ∨ k = 8 ∨ k = 9 ∨ k = 10 ∨ k = 11 ∨ k = 12 ∨ k = 13 ∨ k = 14 ∨ k = 15 ∨ k = 16 ∨ k = 17 ∨ k = 18 ∨ k = 19 := by omega
    rcases hcs with rfl | rfl | rfl | rfl | rfl | rfl | rfl | rfl | rfl | rfl | rfl | rfl | rfl | rfl | rfl | rfl | rfl | rfl | rfl | rfl <;> (
      simp only [fieldsN, Option.some.injEq] at hfs
      subst hfs
      simp only [List.mem_cons, List.not_mem_nil, or_false, reg, other, slot, start, shift, width] at hm
      all_goals first
        | exact hm.elim
        | (rcases hm with rfl | rfl | rfl | rfl <;> cases e <;> simp)
        | (rcases hm with rfl | rfl | rfl <;> cases e <;> simp)
        | (rcases hm with rfl | rfl <;> cases e <;> simp)
        | (subst hm; cases e <;> simp)
        | (subst hm; cases e))
  have h2 : fieldsN k = some fs := by
    unfold fieldsOf at h
    rw [if_pos (by omega), hk] at h
    exact h
  rcases key k hk20 fs h2 f hm g lo hi s e with rfl | rfl <;> decide
theorem name_noBlank {k : Nat} (h : k < 20) : (32 : UInt8) ∉ nameN k := by
  have key : ∀ k : Fin 20, (32 : UInt8) ∉ nameN k.val := by decide
  exact key ⟨k, h⟩
theorem name_inj {i k : Nat} (hi : i < 20) (hk : k < 20) (h : nameN i = nameN k) : i = k := by
  have key : ∀ i k : Fin 20, nameN i.val = nameN k.val → i.val = k.val := by decide +kernel
  exact key ⟨i, hi⟩ ⟨k, hk⟩ h
/-- A right instruction's line, cut at blanks. -/
theorem line_split {op : Int} {x : Ins} {fs : List Fk} (h : fieldsOf op = some fs) (hx : x.op = op) : splitB blankB 0 (countB ⟨(lineI x).toArray⟩ blankB) ⟨(lineI x).toArray⟩ = (nameN op.toNat :: fs.map (txtF · x)).map fun t => ⟨t.toArray⟩ := by
  obtain ⟨k, hk, hk20, _⟩ := fields_cases h
  refine splitB_join (by rw [hk]; exact name_noBlank (by omega)) ?_ ?_
  · intro t ht
    obtain ⟨f, hf, rfl⟩ := List.mem_map.1 ht
    exact txt_noBlank (fields_noBlank h f hf)
  · unfold lineI lineF
    rw [hx, h, List.flatMap_map]
    rfl
theorem decFrom_append : ∀ (a b : List UInt8) (n : Nat), decFrom n (a ++ b) = (decFrom n a).bind fun m => decFrom m b
  | [], _, _ => rfl
  | c :: a, b, n => by
    rw [List.cons_append, decFrom, decFrom]
    cases digitVal c with
    | none => rfl
    | some d => exact decFrom_append a b _
theorem digit_hexd {d : Nat} (h : d < 10) : digitVal (hexd d) = some d := by
  have key : ∀ d : Fin 10, digitVal (hexd d.val) = some d.val := by decide
  exact key ⟨d, h⟩
theorem decFrom_digs (n : Nat) : decFrom 0 (digsB 10 n) = some n := by
  induction n using Nat.strongRecOn with
  | ind n ih =>
    by_cases hn : n < 10
    · rw [digsB_lt hn, decFrom, digit_hexd hn]; simp [decFrom]
    · rw [digsB_ge hn (by decide), decFrom_append, ih (n / 10) (Nat.div_lt_self (by omega) (by decide))]
      simp only [Option.bind_some]
      rw [decFrom, digit_hexd (Nat.mod_lt _ (by decide))]
      simp only [decFrom, Option.some.injEq]
      omega
theorem atoi_of_dec {l : List UInt8} {m : Nat} (h : decNat l = some m) : atoi l = some (m : Int) := by
  cases l with
  | nil => cases h
  | cons b r =>
    have hd : digitVal b ≠ none := by
      intro e
      unfold decNat at h
      simp [decFrom, e] at h
    have h45 : (b == 45) = false := by
      rw [beq_eq_false_iff_ne]; rintro rfl; exact hd (by decide)
    have h43 : (b == 43) = false := by
      rw [beq_eq_false_iff_ne]; rintro rfl; exact hd (by decide)
    show (if (b == 45) = true then _ else if (b == 43) = true then _ else _) = _
    rw [h45, h43, h]
    simp
theorem atoi_itoa {n : Int} (h : 0 ≤ n) : atoi (itoa n) = some n := by
  rw [itoa_pos h, ← digs10]
  have h1 : decNat (digsB 10 n.toNat) = some n.toNat := by
    unfold decNat
    have h0 := decFrom_digs n.toNat
    have h2 : (digsB 10 n.toNat).isEmpty = false := by
      by_cases hn : n.toNat < 10
      · rw [digsB_lt hn]; rfl
      · rw [digsB_ge hn (by decide)]; simp
    rw [h2]; exact h0
  rw [atoi_of_dec h1]
  congr 1; omega
theorem trim_own (s t : List UInt8) : trimPrefix (s ++ t) s = t ∧ hasPrefix (s ++ t) s = true := by
  have h : hasPrefix (s ++ t) s = true := by unfold hasPrefix; simp
  exact ⟨by unfold trimPrefix; rw [h]; simp, h⟩
end Go.Bus.codeK

namespace Go.Bus.codeK
open Go.Lib Go.Bus.hexK
set_option linter.unusedVariables false
theorem split_any : ∀ (n : Nat) (S : List UInt8), S.length ≤ n → ∃ a l, splitK [32] 0 (count S [32]) S = a :: l ∧ S = a ++ l.flatMap (32 :: ·) ∧ a.length ≤ S.length ∧ (∀ x ∈ l, x.length ≤ S.length) ∧ l.length ≤ S.length := by
  intro n
  induction n with
  | zero =>
    intro S hS
    obtain rfl := List.eq_nil_of_length_eq_zero (by omega : S.length = 0)
    exact ⟨[], [], by decide, rfl, Nat.le_refl _, (fun x hx => by cases hx), Nat.le_refl _⟩
  | succ n ih =>
    intro S hS
    rcases index_spec S [32] with ⟨hi, _⟩ | ⟨i, hi, hle, ho, _⟩
    · exact ⟨S, [], by rw [count_miss hi]; rfl, by simp, Nat.le_refl _, (fun x hx => by cases hx), Nat.zero_le _⟩
    · have h1 := occAt_head (c := 32) (t := []) rfl ho
      have hlt : i < S.length := by
        rcases Nat.lt_or_ge i S.length with h | h
        · exact h
        · rw [List.getElem?_eq_none h] at h1; cases h1
      have hS2 : S = S.take i ++ 32 :: S.drop (i + 1) := by
        have h2 : S.drop i = S[i] :: S.drop (i + 1) := List.drop_eq_getElem_cons hlt
        have h3 : S[i] = 32 := by rw [List.getElem?_eq_getElem hlt] at h1; exact Option.some.inj h1
        rw [h3] at h2
        rw [← h2, List.take_append_drop]
      obtain ⟨a, l, h4, h5, h6, h7, h8⟩ := ih (S.drop (i + 1)) (by rw [List.length_drop]; omega)
      rw [List.length_drop] at h6 h7 h8
      refine ⟨S.take i, a :: l, ?_, ?_, by rw [List.length_take]; omega, ?_, by rw [List.length_cons]; omega⟩
      · rw [count_hit (by simp) hi, Nat.add_comm, splitK]
        have hm : ¬ (index S [32] == -1) = true := by rw [hi]; simp
        rw [if_neg hm, hi]
        simp only [Int.toNat_natCast, Nat.add_zero, List.length_cons, List.length_nil, Nat.zero_add]
        rw [h4]
      · rw [List.flatMap_cons, List.cons_append, ← h5, ← hS2]
      · intro x hx
        rcases List.mem_cons.1 hx with rfl | hx
        · omega
        · have := h7 x hx; omega
theorem splitB_any {S a : List UInt8} {l : List (List UInt8)} (h : splitK [32] 0 (count S [32]) S = a :: l) : splitB ⟨#[32]⟩ 0 (countB ⟨S.toArray⟩ ⟨#[32]⟩) ⟨S.toArray⟩ = (a :: l).map fun t => ⟨t.toArray⟩ := by
  have h1 := splitB_data ⟨#[32]⟩ 0 (countB ⟨S.toArray⟩ ⟨#[32]⟩) ⟨S.toArray⟩
  have h2 : splitK (⟨#[32]⟩ : ByteArray).data.toList 0 (countB ⟨S.toArray⟩ ⟨#[32]⟩) (⟨S.toArray⟩ : ByteArray).data.toList = a :: l := h
  rw [h2] at h1
  rw [← h1, List.map_map]
  have h3 : ((fun t : List UInt8 => (⟨t.toArray⟩ : ByteArray)) ∘ fun x : ByteArray => x.data.toList) = id := by
    funext x; apply ByteArray.ext; simp
  rw [h3, List.map_id]
theorem fields_apart {op : Int} {fs : List Fk} (h : fieldsOf op = some fs) : (fs.map Fk.wh).Nodup := by
  obtain ⟨k, hk, hk20, hf⟩ := fields_cases h
  have h2 : fieldsN k = some fs := by
    unfold fieldsOf at h
    rw [if_pos (by omega), hk] at h
    exact h
  have hcs : k = 0 ∨ k = 1 ∨ k = 2 ∨ k = 3 ∨ k = 4 ∨ k = 5 ∨ k = 6 ∨ k = 7 ∨ k = 8 ∨ k = 9 ∨ k = 10 ∨ k = 11 ∨ k = 12 ∨ k = 13 ∨ k = 14 ∨ k = 15 ∨ k = 16 ∨ k = 17 ∨ k = 18 ∨ k = 19 := by omega
  rcases hcs with rfl | rfl | rfl | rfl | rfl | rfl | rfl | rfl | rfl | rfl | rfl | rfl | rfl | rfl | rfl | rfl | rfl | rfl | rfl | rfl <;> (
    simp only [fieldsN, Option.some.injEq] at h2
    subst h2
    simp [reg, other, slot, start, shift, width, Fk.wh])
theorem wh_ne {op : Int} {fs : List Fk} (h : fieldsOf op = some fs) {i j : Nat} (hi : i < fs.length) (hj : j < fs.length) (hij : i ≠ j) : fs[i].wh ≠ fs[j].wh := by
  intro e
  have hn := fields_apart h
  have key : ∀ a b : Nat, (ha : a < fs.length) → (hb : b < fs.length) → a < b → fs[a].wh = fs[b].wh → False := by
    intro a b ha hb hab e
    have h1 := List.pairwise_iff_getElem.1 hn a b (by simpa using ha) (by simpa using hb) hab
    simp only [List.getElem_map] at h1
    exact h1 e
  rcases Nat.lt_or_ge i j with hl | hl
  · exact key i j hi hj hl e
  · exact key j i hj hi (by omega) e.symm
theorem at_put (y : Ins) (h : Wh) (v : Int) : (y.put h v).at_ h = v := by cases h <;> rfl
theorem at_put_ne (y : Ins) {h k : Wh} (v : Int) (e : k ≠ h) : (y.put h v).at_ k = y.at_ k := by cases h <;> cases k <;> first | exact absurd rfl e | rfl
end Go.Bus.codeK

namespace Go.Bus.codeK
open Go.Lib
set_option linter.unusedVariables false
def cutW : List UInt8 → List (List UInt8)
  | [] => [[]]
  | c :: r => if c = 32 then [] :: cutW r else match cutW r with
    | [] => [[c]]
    | h :: t => (c :: h) :: t
/-- Bytes ahead of the first word. -/
def glue (p : List UInt8) : List (List UInt8) → List (List UInt8)
  | [] => [p]
  | h :: t => (p ++ h) :: t
theorem cutW_ne (S : List UInt8) : ∃ h t, cutW S = h :: t := by
  cases S with
  | nil => exact ⟨[], [], rfl⟩
  | cons c r =>
    unfold cutW
    split
    · exact ⟨_, _, rfl⟩
    · split <;> exact ⟨_, _, rfl⟩
theorem glue_nil (S : List UInt8) : glue [] (cutW S) = cutW S := by
  obtain ⟨h, t, e⟩ := cutW_ne S
  rw [e]; rfl
theorem glue_blank (p r : List UInt8) : glue p (cutW (32 :: r)) = p :: cutW r := by
  simp [cutW, glue]
theorem glue_other (p r : List UInt8) {c : UInt8} (h : c ≠ 32) : glue p (cutW (c :: r)) = glue (p ++ [c]) (cutW r) := by
  obtain ⟨x, t, e⟩ := cutW_ne r
  simp [cutW, h, e, glue]
theorem cutW_join : ∀ (a : List UInt8) (l : List (List UInt8)), (32 : UInt8) ∉ a → cutW (a ++ l.flatMap (32 :: ·)) = match l with
    | [] => [a]
    | b :: m => a :: cutW (b ++ m.flatMap (32 :: ·))
  | [], [], _ => rfl
  | [], b :: m, _ => by simp [cutW]
  | c :: a, l, h => by
    have h1 : c ≠ 32 := fun e => h (by rw [e]; exact List.mem_cons_self ..)
    have ih := cutW_join a l (fun e => h (List.mem_cons_of_mem _ e))
    rw [List.cons_append]
    have e : cutW (c :: (a ++ l.flatMap (32 :: ·))) = match cutW (a ++ l.flatMap (32 :: ·)) with
        | [] => [[c]]
        | h :: t => (c :: h) :: t := by rw [cutW, if_neg h1]
    rw [e, ih]
    cases l <;> rfl
theorem cutW_split : ∀ (n : Nat) (S : List UInt8), S.length ≤ n → splitK [32] 0 (count S [32]) S = cutW S := by
  intro n
  induction n with
  | zero =>
    intro S hS
    obtain rfl := List.eq_nil_of_length_eq_zero (by omega : S.length = 0)
    decide
  | succ n ih =>
    intro S hS
    rcases index_spec S [32] with ⟨hi, hno⟩ | ⟨i, hi, hle, ho, hno⟩
    · have hb : (32 : UInt8) ∉ S := by
        intro hm
        obtain ⟨j, hj, e⟩ := List.getElem_of_mem hm
        have h1 := hno j (by omega)
        unfold occAt at h1
        rw [List.drop_eq_getElem_cons hj, e] at h1
        simp at h1
      have h2 := cutW_join S [] hb
      simp only [List.flatMap_nil, List.append_nil] at h2
      rw [count_miss hi, h2]; rfl
    · have h1 := occAt_head (c := 32) (t := []) rfl ho
      have hlt : i < S.length := by
        rcases Nat.lt_or_ge i S.length with h | h
        · exact h
        · rw [List.getElem?_eq_none h] at h1; cases h1
      have h3 : S[i] = 32 := by rw [List.getElem?_eq_getElem hlt] at h1; exact Option.some.inj h1
      have hb : (32 : UInt8) ∉ S.take i := by
        intro hm
        obtain ⟨j, hj, e⟩ := List.getElem_of_mem hm
        rw [List.length_take] at hj
        have h4 := hno j (by omega)
        unfold occAt at h4
        have hj2 : j < S.length := by omega
        rw [List.getElem_take] at e
        rw [List.drop_eq_getElem_cons hj2, e] at h4
        simp at h4
      have hS2 : S = S.take i ++ ([S.drop (i + 1)] : List (List UInt8)).flatMap (32 :: ·) := by
        have h2 : S.drop i = S[i] :: S.drop (i + 1) := List.drop_eq_getElem_cons hlt
        rw [h3] at h2
        simp only [List.flatMap_cons, List.flatMap_nil, List.append_nil]
        rw [← h2, List.take_append_drop]
      have h5 := cutW_join (S.take i) [S.drop (i + 1)] hb
      rw [← hS2] at h5
      simp only [List.flatMap_nil, List.append_nil] at h5
      rw [h5, ← ih (S.drop (i + 1)) (by rw [List.length_drop]; omega), count_hit (by simp) hi, Nat.add_comm, splitK]
      have hm : ¬ (index S [32] == -1) = true := by rw [hi]; simp
      rw [if_neg hm, hi]
      simp only [Int.toNat_natCast, Nat.add_zero, List.length_cons, List.length_nil, Nat.zero_add]
end Go.Bus.codeK
