/- Texts of this claim, one behind the other. No condition but those that each states. -/
import Derived.Test.YtbopooanmpcepaaGreatDoorCodeTx
import Derived.Test.YtbopooanmpcepaaGreatDoorHexRd
import Derived.Lib.Split
import Derived.Lib.SplitLaws
import Derived.Lib.Atoi
import Derived.Lib.Strings
import Derived.Test.YtbopooanmpcepaaGreatDoorCodeTd
import Derived.Test.YtbopooanmpcepaaGreatDoorPu16
import Derived.Test.YtbopooanmpcepaaGreatDoorShelf2
import Derived.Lib.AtoiErrMem
import Derived.Deep.RegionWith
import Derived.Deep.RegionHeld3
import Derived.RegionTactic
import Derived.Test.YtbopooanmpcepaaGreatDoorCodePg
import Derived.Test.YtbopooanmpcepaaGreatDoorCodeEn
import Derived.Test.YtbopooanmpcepaaGreatDoorRes
import Derived.StillTailTactics
import Derived.Test.YtbopooanmpcepaaGreatDoorShelf3
import Derived.Deep.QuietTactic
import Derived.BigQuiet

namespace Go.Bus.codeK
open Go.Lib Go.Bus.hexK
set_option linter.unusedVariables false
theorem index_blank {a r : List UInt8} (h : (32 : UInt8) ∉ a) : index (a ++ 32 :: r) [32] = a.length := by
  refine index_first (by simp) ?_ ?_
  · unfold occAt; simp
  · intro j hj
    cases ho : occAt (a ++ 32 :: r) [32] j with
    | false => rfl
    | true =>
      have h1 := occAt_head (c := 32) (t := []) rfl ho
      rw [List.getElem?_append_left hj] at h1
      exact absurd (List.mem_of_getElem? h1) h
theorem index_noBlank {a : List UInt8} (h : (32 : UInt8) ∉ a) : index a [32] = -1 := by
  refine index_none ?_
  intro j hj
  cases ho : occAt a [32] j with
  | false => rfl
  | true => exact absurd (List.mem_of_getElem? (occAt_head (c := 32) (t := []) rfl ho)) h
theorem split_join : ∀ (l : List (List UInt8)) (a : List UInt8), (32 : UInt8) ∉ a → (∀ x ∈ l, (32 : UInt8) ∉ x) → splitK [32] 0 (count (a ++ l.flatMap (32 :: ·)) [32]) (a ++ l.flatMap (32 :: ·)) = a :: l
  | [], a, ha, _ => by
    rw [List.flatMap_nil, List.append_nil, count_miss (index_noBlank ha)]; rfl
  | b :: l, a, ha, hl => by
    have ih := split_join l b (hl b (List.mem_cons_self ..)) (fun x hx => hl x (List.mem_cons_of_mem _ hx))
    rw [List.flatMap_cons, List.cons_append]
    have hi := index_blank (r := b ++ l.flatMap (32 :: ·)) ha
    have hd : (a ++ 32 :: (b ++ l.flatMap (32 :: ·))).drop (a.length + 1) = b ++ l.flatMap (32 :: ·) := by
      rw [List.drop_append]; simp
    rw [count_hit (by simp) hi, Nat.add_comm, splitK]
    have hm : ¬ (index (a ++ 32 :: (b ++ l.flatMap (32 :: ·))) [32] == -1) = true := by rw [hi]; simp
    rw [if_neg hm, hi]
    simp only [Int.toNat_natCast, Nat.add_zero, List.length_cons, List.length_nil, Nat.zero_add, List.take_left']
    rw [hd, ih]
def blankB : ByteArray := ⟨#[32]⟩
theorem splitB_join {a : List UInt8} {l : List (List UInt8)} (ha : (32 : UInt8) ∉ a) (hl : ∀ x ∈ l, (32 : UInt8) ∉ x) {s : ByteArray} (hs : s = ⟨(a ++ l.flatMap (32 :: ·)).toArray⟩) : splitB blankB 0 (countB s blankB) s = (a :: l).map fun t => ⟨t.toArray⟩ := by
  have h1 := splitB_data blankB 0 (countB s blankB) s
  have h2 : splitK blankB.data.toList 0 (countB s blankB) s.data.toList = a :: l := by
    subst hs
    exact split_join l a ha hl
  rw [h2] at h1
  rw [← h1, List.map_map]
  have h3 : ((fun t : List UInt8 => (⟨t.toArray⟩ : ByteArray)) ∘ fun x : ByteArray => x.data.toList) = id := by
    funext x; apply ByteArray.ext; simp
  rw [h3, List.map_id]
theorem digs_noBlank {b : Nat} (h2 : 2 ≤ b) (h16 : b ≤ 16) (n : Nat) : (32 : UInt8) ∉ digsB b n := by
  have key : ∀ d : Fin 16, hexd d.val ≠ 32 := by decide
  have key2 : ∀ d : Nat, d < 16 → hexd d ≠ 32 := fun d hd => key ⟨d, hd⟩
  induction n using Nat.strongRecOn with
  | ind n ih =>
    by_cases hn : n < b
    · rw [digsB_lt hn]; intro e
      exact key2 n (by omega) (List.mem_singleton.1 e).symm
    · rw [digsB_ge hn h2]
      intro e
      rcases List.mem_append.1 e with e | e
      · exact ih (n / b) (Nat.div_lt_self (by omega) (by omega)) e
      · exact key2 (n % b) (by have := Nat.mod_lt n (show 0 < b by omega); omega) (List.mem_singleton.1 e).symm
theorem itoa_noBlank (n : Int) : (32 : UInt8) ∉ itoa n := by
  unfold itoa
  split
  · intro e
    rcases List.mem_cons.1 e with e | e
    · exact absurd e (by decide)
    · rw [← digs10] at e; exact digs_noBlank (by decide) (by decide) _ e
  · rw [← digs10]; exact digs_noBlank (by decide) (by decide) _
theorem txt_noBlank {f : Fk} {x : Ins} (hs : ∀ h lo hi s, f = .small h lo hi s → (32 : UInt8) ∉ s.data.toList) : (32 : UInt8) ∉ txtF f x := by
  cases f with
  | small h lo hi s =>
    simp only [txtF, List.mem_append, not_or]
    exact ⟨hs h lo hi s rfl, itoa_noBlank _⟩
  | skip => exact itoa_noBlank _
  | bytes => exact itoa_noBlank _
  | number =>
    have h1 := digs_noBlank (b := 16) (by decide) (by decide) x.imm.toNat
    rw [digs16] at h1
    simp only [txtF, List.mem_append, not_or]
    exact ⟨by decide, h1⟩
  | sign => simp only [txtF]; split <;> decide
theorem fields_noBlank {op : Int} {fs : List Fk} (h : fieldsOf op = some fs) : ∀ f ∈ fs, ∀ k lo hi s, f = .small k lo hi s → (32 : UInt8) ∉ s.data.toList := by
  obtain ⟨k, hk, hk20, hf⟩ := fields_cases h
  intro f hm g lo hi s e
  have key : ∀ k : Nat, k < 20 → ∀ fs, fieldsN k = some fs → ∀ f ∈ fs, ∀ g lo hi s, f = .small g lo hi s → s = rS ∨ s = eS := by
    intro k hk fs hfs f hm g lo hi s e
    have hcs : k = 0 ∨ k = 1 ∨ k = 2 ∨ k = 3 ∨ k = 4 ∨ k = 5 ∨ k = 6 ∨ k = 7 ∨ k = 8 ∨ k = 9 ∨ k = 10 ∨ k = 11 ∨ k = 12 ∨ k = 13 ∨ k = 14 ∨ k = 15 ∨ k = 16 ∨ k = 17 ∨ k = 18 ∨ k = 19 := by omega
    rcases hcs with rfl | rfl | rfl | rfl | rfl | rfl | rfl | rfl | rfl | rfl | rfl | rfl | rfl | rfl | rfl | rfl | rfl | rfl | rfl | rfl <;> (
      simp only [fieldsN, Option.some.injEq] at hfs
      subst hfs
      simp only [List.mem_cons, List.not_mem_nil, or_false, reg, other, slot, start, shift, width] at hm
      all_goals first
        | exact hm.elim
        | (rcases hm with rfl | rfl | rfl | rfl <;> cases e <;> simp)
        | (rcases hm with rfl | rfl | rfl <;> cases e <;> simp)
        | (rcases hm with rfl | rfl <;> cases e <;> simp)
        | (subst hm; cases e <;> simp)
        | (subst hm; cases e))
  have h2 : fieldsN k = some fs := by
    unfold fieldsOf at h
    rw [if_pos (by omega), hk] at h
    exact h
  rcases key k hk20 fs h2 f hm g lo hi s e with rfl | rfl <;> decide
theorem name_noBlank {k : Nat} (h : k < 20) : (32 : UInt8) ∉ nameN k := by
  have key : ∀ k : Fin 20, (32 : UInt8) ∉ nameN k.val := by decide
  exact key ⟨k, h⟩
theorem name_inj {i k : Nat} (hi : i < 20) (hk : k < 20) (h : nameN i = nameN k) : i = k := by
  have key : ∀ i k : Fin 20, nameN i.val = nameN k.val → i.val = k.val := by decide +kernel
  exact key ⟨i, hi⟩ ⟨k, hk⟩ h
/-- A right instruction's line, cut at blanks. -/
theorem line_split {op : Int} {x : Ins} {fs : List Fk} (h : fieldsOf op = some fs) (hx : x.op = op) : splitB blankB 0 (countB ⟨(lineI x).toArray⟩ blankB) ⟨(lineI x).toArray⟩ = (nameN op.toNat :: fs.map (txtF · x)).map fun t => ⟨t.toArray⟩ := by
  obtain ⟨k, hk, hk20, _⟩ := fields_cases h
  refine splitB_join (by rw [hk]; exact name_noBlank (by omega)) ?_ ?_
  · intro t ht
    obtain ⟨f, hf, rfl⟩ := List.mem_map.1 ht
    exact txt_noBlank (fields_noBlank h f hf)
  · unfold lineI lineF
    rw [hx, h, List.flatMap_map]
    rfl
theorem decFrom_append : ∀ (a b : List UInt8) (n : Nat), decFrom n (a ++ b) = (decFrom n a).bind fun m => decFrom m b
  | [], _, _ => rfl
  | c :: a, b, n => by
    rw [List.cons_append, decFrom, decFrom]
    cases digitVal c with
    | none => rfl
    | some d => exact decFrom_append a b _
theorem digit_hexd {d : Nat} (h : d < 10) : digitVal (hexd d) = some d := by
  have key : ∀ d : Fin 10, digitVal (hexd d.val) = some d.val := by decide
  exact key ⟨d, h⟩
theorem decFrom_digs (n : Nat) : decFrom 0 (digsB 10 n) = some n := by
  induction n using Nat.strongRecOn with
  | ind n ih =>
    by_cases hn : n < 10
    · rw [digsB_lt hn, decFrom, digit_hexd hn]; simp [decFrom]
    · rw [digsB_ge hn (by decide), decFrom_append, ih (n / 10) (Nat.div_lt_self (by omega) (by decide))]
      simp only [Option.bind_some]
      rw [decFrom, digit_hexd (Nat.mod_lt _ (by decide))]
      simp only [decFrom, Option.some.injEq]
      omega
theorem atoi_of_dec {l : List UInt8} {m : Nat} (h : decNat l = some m) : atoi l = some (m : Int) := by
  cases l with
  | nil => cases h
  | cons b r =>
    have hd : digitVal b ≠ none := by
      intro e
      unfold decNat at h
      simp [decFrom, e] at h
    have h45 : (b == 45) = false := by
      rw [beq_eq_false_iff_ne]; rintro rfl; exact hd (by decide)
    have h43 : (b == 43) = false := by
      rw [beq_eq_false_iff_ne]; rintro rfl; exact hd (by decide)
    show (if (b == 45) = true then _ else if (b == 43) = true then _ else _) = _
    rw [h45, h43, h]
    simp
theorem atoi_itoa {n : Int} (h : 0 ≤ n) : atoi (itoa n) = some n := by
  rw [itoa_pos h, ← digs10]
  have h1 : decNat (digsB 10 n.toNat) = some n.toNat := by
    unfold decNat
    have h0 := decFrom_digs n.toNat
    have h2 : (digsB 10 n.toNat).isEmpty = false := by
      by_cases hn : n.toNat < 10
      · rw [digsB_lt hn]; rfl
      · rw [digsB_ge hn (by decide)]; simp
    rw [h2]; exact h0
  rw [atoi_of_dec h1]
  congr 1; omega
theorem trim_own (s t : List UInt8) : trimPrefix (s ++ t) s = t ∧ hasPrefix (s ++ t) s = true := by
  have h : hasPrefix (s ++ t) s = true := by unfold hasPrefix; simp
  exact ⟨by unfold trimPrefix; rw [h]; simp, h⟩
end Go.Bus.codeK

namespace Go.Proofs.YtbopooanmpcepaaGreatDoor
open Go.RowKit Go.Bus Go.Bus.cellK Go.Bus.codeK Go.Bus.hexK
set_option linter.unusedVariables false
set_option linter.unusedSimpArgs false
namespace codeW
theorem cut_own (p : ByteArray) (t : List UInt8) (w : World) : Calls Tryz.prog 63 #[.string ⟨(p.data.toList ++ t).toArray⟩, .string p] w fun e w' => e = .returned (.tuple #[.string ⟨t.toArray⟩, .bool true]) ∧ w = w' := by
  refine (Tryz.strings_CutPrefix ⟨(p.data.toList ++ t).toArray⟩ p w).mono ?_
  rintro e w' ⟨rfl, rfl⟩
  have h := trim_own p.data.toList t
  exact ⟨by rw [show Lib.trimPrefix (ByteArray.mk (p.data.toList ++ t).toArray).data.toList p.data.toList = t from h.1, show Lib.hasPrefix (ByteArray.mk (p.data.toList ++ t).toArray).data.toList p.data.toList = true from h.2], rfl⟩
theorem atoi_own {v : Int} (h0 : 0 ≤ v) (h1 : v ≤ 16384) (w : World) : Calls Tryz.prog 64 #[.string ⟨(Lib.itoa v).toArray⟩] w fun e w' => e = .returned (.tuple #[.int .i64 v, .nilIface]) ∧ Below w.heap.size w w' := by
  have hl : (Lib.itoa v).length ≤ 5 := by rw [itoa_pos h0]; exact dec_len (by omega) (by decide)
  refine (Tryz.strconv_Atoi ⟨(Lib.itoa v).toArray⟩ v (by show (Lib.itoa v).toArray.size ≤ 18; simp; omega) (by simpa using atoi_itoa h0) w).mono ?_
  rintro e w' ⟨rfl, t, rfl⟩
  exact ⟨rfl, Lib.bytesWorld_below _ _ _⟩
set_option maxRecDepth 100000 in
set_option maxHeartbeats 1000000 in
theorem pu_own {v : Nat} (hv : v < 18446744073709551616) (w : World) : Calls Tryz.prog 73 #[.string ⟨(hexs v).toArray⟩, .int .i64 16, .int .i64 64] w fun e w' => e = .returned (.tuple #[.int .u64 (v : Nat), .nilIface]) ∧ Below w.heap.size w w' := by
  have hne : hexs v ≠ [] := fun e => by have := hexs_pos v; rw [e] at this; simp at this
  have hl : (hexs v).length ≤ 16 := hexs_len (k := 16) (by rw [show (16 : Nat) ^ 16 = 18446744073709551616 from by decide]; exact hv) (by decide)
  have HP := Lib.hid (fun (W : World) => (hexW.ipu16_any (hexs v) hne (by omega) W).mono (R' := fun e w' => e = .returned (.tuple #[.int .u64 (v : Nat), .nilIface]) ∧ Below W.heap.size W w') (fun e w' h => by
    unfold hexW.PuPost at h
    rw [hexRd_hexs v hv] at h
    exact h))
  obtain ⟨T, hT⟩ : ∃ T : ByteArray, T = ⟨(hexs v).toArray⟩ := ⟨_, rfl⟩
  rw [← hT] at HP ⊢
  clear hne hl hT hv
  go_enter Tryz.func73, Tryz.ntmps73
  go_wp2_with (go_at_call 92; refine (HP.out _).mono ?_; rintro e w1 ⟨rfl, hb⟩; have HB := Lib.hid hb; clear hb)
  go_ret2
  exact ⟨rfl, HB.out⟩
set_option maxRecDepth 100000 in
set_option maxHeartbeats 1000000 in
theorem paSmall_w (fn : FuncId) (o : Nat) (s S T : ByteArray) (b0 b3 g : Nat) (cs : Array Value) (z v : Int) (h0 : 0 ≤ v) (h1 : v ≤ 16384) (w : World)
    (hcf : ∀ xs w, (callFunc fn xs).run Tryz.prog w = .ok (.enter fn xs) w)
    (hC : ∀ W, Calls Tryz.prog fn #[.pointer (some ⟨g, 0, none⟩)] W fun e w' => e = .returned (.pointer (some ⟨g, o, none⟩)) ∧ W = w')
    (hCut : ∀ W, Calls Tryz.prog 63 #[.string S, .string s] W fun e w' => e = .returned (.tuple #[.string T, .bool true]) ∧ W = w')
    (hAt : ∀ W, Calls Tryz.prog 64 #[.string T] W fun e w' => e = .returned (.tuple #[.int .i64 v, .nilIface]) ∧ Below W.heap.size W w')
    (hIt : ∀ W, Only g w W → Calls Tryz.prog 61 #[.int .i64 v] W fun e w' => e = .returned (.string T) ∧ Below W.heap.size W w')
    (hnot : ¬ 9223372036854775807 < s.size + T.size) (heq : ((s ++ T).toList == S.toList) = true)
    (c0 : w.cell? ⟨b0, 0, none⟩ = some (.func (.func fn) #[] #[])) (c3 : w.cell? ⟨b3, 0, none⟩ = some (.string s)) (z0 : b0 < w.heap.size) (z3 : b3 < w.heap.size) (hn3 : b3 ≠ g)
    (hg : Has w g 24 cs) (ho : cs[o]? = some (.int .i64 z)) :
    Calls Tryz.prog 62 #[ptr g, .string S, ptr b3, ptr b0] w fun e w' => e = .returned (.bool true) ∧ Only g w w' ∧ Has w' g 24 (cs.setIfInBounds o (.int .i64 v)) := by
  have HC := Lib.hid hC
  have HCut := Lib.hid hCut
  have HAt := Lib.hid hAt
  have HIt := Lib.hid hIt
  have HG := Lib.hid hg
  have HO := Lib.hid ho
  have HN := Lib.hid hn3
  have zg := hg.lt
  clear hC hCut hAt hIt hg ho hn3
  go_enter Tryz.func62, Tryz.ntmps62
  go_wp2_with (first
    | (go_at_call 63; refine (HCut.out _).mono ?_; rintro e w1 ⟨rfl, rfl⟩)
    | (go_at_call 64; refine (HAt.out _).mono ?_; rintro e w2 ⟨rfl, hb⟩; have c02 : w2.cell? ⟨b0, 0, none⟩ = some (.func (.func fn) #[] #[]) := (hb.cell (p := ⟨b0, 0, none⟩) z0).trans c0; have c32 : w2.cell? ⟨b3, 0, none⟩ = some (.string s) := (hb.cell (p := ⟨b3, 0, none⟩) z3).trans c3; have hg2 := HG.out.below hb zg; have hz2 : w.heap.size ≤ w2.heap.size := hb.size; have zg2 : g < w2.heap.size := hg2.lt; have z32 : b3 < w2.heap.size := Nat.lt_of_lt_of_le z3 hz2; have co2 : w2.cell? ⟨g, o, none⟩ = some (.int .i64 z) := (hg2.cell o).trans HO.out; have fo2 : w2.frozen? ⟨g, o, none⟩ = false := hg2.frozen o; have HG2 := Lib.hid hg2; have HB2 := Lib.hid hb; clear hb hg2)
    | (refine (HC.out _).mono ?_; rintro e w4 ⟨rfl, rfl⟩))
  obtain ⟨W3, hW3⟩ : ∃ W3, W3 = w2.setCell ⟨g, o, none⟩ (.int .i64 v) := ⟨_, rfl⟩
  rw [← hW3]
  have hO3 : Only g w W3 := by rw [hW3]; exact (Only.of_below HB2.out (Nat.le_of_lt zg)).set o _
  have hG3 : Has W3 g 24 (cs.setIfInBounds o (.int .i64 v)) := by rw [hW3]; exact HG2.out.set o _
  have c33 : W3.cell? ⟨b3, 0, none⟩ = some (.string s) := by rw [hW3, World.cell?_setCell_other _ _ _ _ (fun e => HN.out (by injection e with e1 _ _; exact e1.symm))]; exact c32
  have z33 : b3 < W3.heap.size := Nat.lt_of_lt_of_le z3 hO3.size
  have zg3 : g < W3.heap.size := hG3.lt
  have HO3 := Lib.hid hO3
  have HG3 := Lib.hid hG3
  clear hW3 hO3 hG3 c02 c32 co2 fo2 c0 c3
  go_region_held3 (fun W => W.cell? ⟨b3, 0, none⟩ = some (.string s) ∧ Below W3.heap.size W3 W)
    (first | exact ⟨by go_simp, Below.drew (Below.refl _ _)⟩ | exact ⟨by assumption, by assumption⟩)
    (first | (go_at_call 61; refine (HIt.out _ (HO3.out.trans (Only.of_below (‹_ ∧ Below W3.heap.size W3 _›).2 (Nat.le_of_lt zg3)))).mono ?_; rintro e w5 ⟨rfl, hb⟩; (try go_split_ands); have hB : Below W3.heap.size W3 w5 := Below.trans ‹Below W3.heap.size W3 _› (hb.mono (Below.size ‹Below W3.heap.size W3 _›)); have k3 : w5.cell? ⟨b3, 0, none⟩ = some (.string s) := (hB.cell (p := ⟨b3, 0, none⟩) z33).trans c33))
  all_goals
    go_wp2
    go_ret
    exact ⟨rfl, HO3.out.trans (Only.of_below (by assumption) (Nat.le_of_lt zg3)), HG3.out.below (by assumption) zg3⟩
/-- What reading a field back comes to. -/
def PaPost (w : World) (g : Nat) (y : Ins) (e : Ending) (w' : World) : Prop := e = .returned (.bool true) ∧ Only g w w' ∧ Has w' g 24 (insC y).toArray
set_option maxRecDepth 100000 in
theorem whF_call (h : Wh) : ∀ xs w, (callFunc (whF h) xs).run Tryz.prog w = .ok (.enter (whF h) xs) w := by
  cases h <;> exact fun _ _ => by kernel_rfl
theorem whF_any (h : Wh) (hI : h ≠ .I) (g : Nat) (W : World) : Calls Tryz.prog (whF h) #[.pointer (some ⟨g, 0, none⟩)] W fun e w' => e = .returned (.pointer (some ⟨g, whO h, none⟩)) ∧ W = w' := by
  cases h with
  | A => exact (fieldA_any g 0 W).mono fun e w' h => ⟨by rw [h.1]; rfl, h.2⟩
  | B => exact (fieldB_any g 0 W).mono fun e w' h => ⟨by rw [h.1]; rfl, h.2⟩
  | N => exact (fieldN_any g 0 W).mono fun e w' h => ⟨by rw [h.1]; rfl, h.2⟩
  | I => exact absurd rfl hI
theorem paSmall_any (h : Wh) (hI : h ≠ .I) (s : ByteArray) (hs : s.size ≤ 1) (b0 b1 b2 b3 g : Nat) (lo hi : Int) (F : Foot) (y : Ins) (v : Int) (h0 : 0 ≤ v) (h1 : v ≤ 16384) (w : World) (hT : ∀ W, Only g w W → Tabs W) (hB : Boxes w F h lo hi s b0 b1 b2 b3) (hF : ¬ F g)
    (hg : Has w g 24 (insC y).toArray) :
    Calls Tryz.prog 62 #[ptr g, .string ⟨(s.data.toList ++ Lib.itoa v).toArray⟩, ptr b3, ptr b0] w (PaPost w g (y.put h v)) := by
  have hl : (Lib.itoa v).length ≤ 5 := by rw [itoa_pos h0]; exact dec_len (by omega) (by decide)
  have hts : (⟨(Lib.itoa v).toArray⟩ : ByteArray).size = (Lib.itoa v).length := by show (Lib.itoa v).toArray.size = _; simp
  have hval : ∃ z, (insC y).toArray[whO h]? = some (.int .i64 z) := by
    cases h with
    | A => exact ⟨_, rfl⟩
    | B => exact ⟨_, rfl⟩
    | N => exact ⟨_, rfl⟩
    | I => exact absurd rfl hI
  obtain ⟨z, hz⟩ := hval
  refine (paSmall_w (whF h) (whO h) s _ ⟨(Lib.itoa v).toArray⟩ b0 b3 g (insC y).toArray z v h0 h1 w (whF_call h) (whF_any h hI g) (cut_own s (Lib.itoa v)) (atoi_own h0 h1) (fun W hW => itoa_any v (by omega) (by omega) W (hT W hW)) (by rw [hts]; omega) (by rw [strTxt]; simp) (hB.h0.cell 0) (hB.h3.cell 0) hB.h0.lt hB.h3.lt (fun e => hF (e ▸ hB.f3)) hg hz).mono ?_
  rintro e w' ⟨rfl, hO, hH⟩
  refine ⟨rfl, hO, ?_⟩
  have e2 : (insC y).toArray.setIfInBounds (whO h) (.int .i64 v) = (insC (y.put h v)).toArray := by
    cases h with
    | A => rfl
    | B => rfl
    | N => rfl
    | I => exact absurd rfl hI
  rw [← e2]; exact hH
set_option maxRecDepth 100000 in
set_option maxHeartbeats 1000000 in
theorem paNum_any {q : Nat} (hq : q < 18446744073709551616) (g : Nat) (y : Ins) (w : World) (hT : ∀ W, Only g w W → Tabs W) (hg : Has w g 24 (insC y).toArray) :
    Calls Tryz.prog 72 #[ptr g, .string ⟨([48, 120] ++ hexs q).toArray⟩] w (PaPost w g (y.put .I q)) := by
  have HF := Lib.hid (fun (W : World) (hb : Only g w W) => hexW.fmt16_any q hq W (hT W hb).tz)
  have HC := Lib.hid (fun (W : World) => cut_own ⟨#[48, 120]⟩ (hexs q) W)
  have HP := Lib.hid (fun (W : World) => pu_own hq W)
  have heq : ((⟨(hexs q).toArray⟩ : ByteArray).toList == (⟨(hexs q).toArray⟩ : ByteArray).toList) = true := by simp
  have HG := Lib.hid hg
  have zg := hg.lt
  obtain ⟨T, hT2⟩ : ∃ T : ByteArray, T = ⟨(hexs q).toArray⟩ := ⟨_, rfl⟩
  rw [← hT2] at HF HC HP heq
  obtain ⟨S, hS2⟩ : ∃ S : ByteArray, S = ⟨([48, 120] ++ hexs q).toArray⟩ := ⟨_, rfl⟩
  rw [show (⟨((⟨#[48, 120]⟩ : ByteArray).data.toList ++ hexs q).toArray⟩ : ByteArray) = S from hS2.symm] at HC
  rw [← hS2]
  obtain ⟨op, a, b, n, imm⟩ := y
  unfold insC at HG
  clear hT hg hT2 hS2 hq
  go_enter Tryz.func72, Tryz.ntmps72
  go_wp2_with (first
    | (go_at_call 63; refine (HC.out _).mono ?_; rintro e w1 ⟨rfl, rfl⟩)
    | (go_at_call 73; refine (HP.out _).mono ?_; rintro e w2 ⟨rfl, hb⟩; have hg2 := HG.out.below hb zg; have zg2 : g < w2.heap.size := hg2.lt; have co2 : w2.cell? ⟨g, 4, none⟩ = some (.int .u64 imm) := hg2.cell 4; have fo2 : w2.frozen? ⟨g, 4, none⟩ = false := hg2.frozen 4; have HG2 := Lib.hid hg2; have HB2 := Lib.hid hb; clear hb hg2)
    | (go_at_call 71; refine (HF.out _ (by exact (Only.of_below HB2.out (Nat.le_of_lt zg)).set 4 _)).mono ?_; rintro e w5 ⟨rfl, hb⟩; have HB5 := Lib.hid hb; clear hb))
  go_ret
  have hO3 := (Only.of_below HB2.out (Nat.le_of_lt zg)).set 4 (.int .u64 (q : Nat))
  have hG3 := HG2.out.set 4 (.int .u64 (q : Nat))
  exact ⟨rfl, hO3.trans (Only.of_below HB5.out (Nat.le_of_lt hG3.lt)), hG3.below HB5.out hG3.lt⟩
set_option maxRecDepth 100000 in
set_option maxHeartbeats 1000000 in
theorem paSign_any (g : Nat) (y : Ins) (im : Int) (w : World) (hi : im = 0 ∨ im = 1) (hy : y.imm = 0) (hg : Has w g 24 (insC y).toArray) :
    Calls Tryz.prog 96 #[ptr g, .string ⟨(if im = 1 then signedT else unsignedT).toArray⟩] w (PaPost w g (y.put .I im)) := by
  have HG := Lib.hid hg
  have zg := hg.lt
  have co2 : w.cell? ⟨g, 4, none⟩ = some (.int .u64 y.imm) := hg.cell 4
  have fo2 : w.frozen? ⟨g, 4, none⟩ = false := hg.frozen 4
  clear hg
  obtain ⟨op, a, b, n, imm⟩ := y
  obtain rfl : imm = 0 := hy
  have hO0 := Lib.hid (Only.refl (Nat.le_of_lt zg) : Only g w w)
  rcases hi with rfl | rfl
  · show Calls Tryz.prog 96 #[ptr g, .string ⟨#[117, 110, 115, 105, 103, 110, 101, 100]⟩] w _
    go_enter Tryz.func96, Tryz.ntmps96
    go_wp2
    go_ret
    exact ⟨rfl, hO0.out, HG.out⟩
  · show Calls Tryz.prog 96 #[ptr g, .string ⟨#[115, 105, 103, 110, 101, 100]⟩] w _
    go_enter Tryz.func96, Tryz.ntmps96
    go_wp2
    go_ret
    exact ⟨rfl, hO0.out.set 4 _, HG.out.set 4 _⟩
theorem cPa_clos (f : Fk) (b3 b0 : Nat) : ∃ fn cap, cPa f b3 b0 = clos fn cap := by cases f <;> exact ⟨_, _, rfl⟩
theorem pa_does {f : Fk} {cs : List Value} {F : Foot} {x y : Ins} {w : World} {g : Nat} (hE : FieldE w F cs f) (hf : f.ok) (ho : okF f x = true) (hx : x.Ok) (hF : ¬ F g) (hT : ∀ W, Only g w W → Tabs W) (hy : f = .sign → y.imm = 0) (hg : Has w g 24 (insC y).toArray) :
    ∃ c0 c1 c2 c3 c4, cs = [c0, c1, c2, c3, c4] ∧ Does Tryz.prog c4 #[ptr g, .string ⟨(txtF f x).toArray⟩] w (PaPost w g (y.put f.wh (x.at_ f.wh))) := by
  obtain ⟨b0, b1, b2, b3, rfl, hB⟩ := hE
  refine ⟨_, _, _, _, _, rfl, ?_⟩
  cases f with
  | small h lo hi s =>
    simp only [okF, Bool.and_eq_true, decide_eq_true_eq] at ho
    obtain ⟨hI, hlo, hhi, hs⟩ := hf
    exact callFunc_of _ (fun _ _ => by kernel_rfl) _ _ _ _ (paSmall_any h hI s hs b0 b1 b2 b3 g lo hi F y (x.at_ h) (by omega) (by omega) w hT (hB _ _ _ _ rfl) hF hg)
  | skip =>
    simp only [okF, Bool.and_eq_true, decide_eq_true_eq] at ho
    exact callFunc_of _ (fun _ _ => by kernel_rfl) _ _ _ _ (paSmall_any .N (by decide) eS (by decide) b0 b1 b2 b3 g 0 16384 F y x.n ho.1 ho.2 w hT (hB _ _ _ _ rfl) hF hg)
  | bytes =>
    simp only [okF, Bool.and_eq_true, decide_eq_true_eq] at ho
    exact callFunc_of _ (fun _ _ => by kernel_rfl) _ _ _ _ (paSmall_any .N (by decide) eS (by decide) b0 b1 b2 b3 g 1 8 F y x.n (by omega) (by omega) w hT (hB _ _ _ _ rfl) hF hg)
  | number =>
    have h1 := hx.imm
    obtain ⟨q, hq⟩ : ∃ q : Nat, x.imm = (q : Int) := ⟨x.imm.toNat, by omega⟩
    have h2 := paNum_any (q := q) (by omega) g y w hT hg
    have e1 : txtF .number x = [48, 120] ++ hexs q := by simp only [txtF]; rw [hq]; rfl
    have e2 : y.put (Fk.number).wh (x.at_ (Fk.number).wh) = y.put .I (q : Int) := by show y.put .I x.imm = _; rw [hq]
    rw [e1, e2]
    exact callFunc_of _ (fun _ _ => by kernel_rfl) _ _ _ _ h2
  | sign =>
    have h1 := hx.imm
    simp only [okF, decide_eq_true_eq] at ho
    exact callFunc_of _ (fun _ _ => by kernel_rfl) _ _ _ _ (paSign_any g y x.imm w (by omega) (hy rfl) hg)
theorem pa_do {f : Fk} {c0 c1 c2 c3 c4 : Value} {F : Foot} {x y : Ins} {w : World} {g : Nat} (hE : FieldE w F [c0, c1, c2, c3, c4] f) (hf : f.ok) (ho : okF f x = true) (hx : x.Ok) (hF : ¬ F g) (hT : ∀ W, Only g w W → Tabs W) (hy : f = .sign → y.imm = 0) (hg : Has w g 24 (insC y).toArray) :
    Do c4 #[ptr g, .string ⟨(txtF f x).toArray⟩] w (PaPost w g (y.put f.wh (x.at_ f.wh))) := by
  obtain ⟨d0, d1, d2, d3, d4, hcs, hD⟩ := pa_does hE hf ho hx hF hT hy hg
  cases hcs
  obtain ⟨b0, b1, b2, b3, hc, _⟩ := hE
  obtain ⟨fn, cap, h⟩ := cPa_clos f b3 b0
  have hc4 : c4 = cPa f b3 b0 := by injection hc with _ hc; injection hc with _ hc; injection hc with _ hc; injection hc with _ hc; injection hc
  exact do_of (hc4.trans h) hD
end codeW
end Go.Proofs.YtbopooanmpcepaaGreatDoor

namespace Go.Bus.codeK
set_option linter.unusedVariables false
theorem setAll_take {fs : List Fk} (x y : Ins) {k : Nat} (h : k < fs.length) : setAll (fs.take (k + 1)) x y = (setAll (fs.take k) x y).put fs[k].wh (x.at_ fs[k].wh) := by
  unfold setAll
  rw [List.take_succ_eq_append_getElem h, List.foldl_append]; rfl
theorem sign_last {op : Int} {fs : List Fk} (x : Ins) (h : fieldsOf op = some fs) {j : Nat} (hj : j < fs.length) (hs : fs[j] = .sign) : (setAll (fs.take j) x (zero op)).imm = 0 := by
  obtain ⟨k, hk, hk20, _⟩ := fields_cases h
  have h2 : fieldsN k = some fs := by
    unfold fieldsOf at h
    rw [if_pos (by omega), hk] at h
    exact h
  have hcs : k = 0 ∨ k = 1 ∨ k = 2 ∨ k = 3 ∨ k = 4 ∨ k = 5 ∨ k = 6 ∨ k = 7 ∨ k = 8 ∨ k = 9 ∨ k = 10 ∨ k = 11 ∨ k = 12 ∨ k = 13 ∨ k = 14 ∨ k = 15 ∨ k = 16 ∨ k = 17 ∨ k = 18 ∨ k = 19 := by omega
  rcases hcs with rfl | rfl | rfl | rfl | rfl | rfl | rfl | rfl | rfl | rfl | rfl | rfl | rfl | rfl | rfl | rfl | rfl | rfl | rfl | rfl <;> (
    simp only [fieldsN, Option.some.injEq] at h2
    subst h2
    simp only [List.length_cons, List.length_nil] at hj
    rcases (by omega : j = 0 ∨ j = 1 ∨ j = 2 ∨ j = 3) with rfl | rfl | rfl | rfl <;> first | omega | rfl | (cases hs; done))
end Go.Bus.codeK
namespace Go.Proofs.YtbopooanmpcepaaGreatDoor
open Go.RowKit Go.Bus Go.Bus.cellK Go.Bus.codeK Go.Bus.hexK
set_option linter.unusedVariables false
set_option linter.unusedSimpArgs false
namespace codeW
/-- A variable of the library's, which strings.Split reads, holds some int. -/
def Mx (w : World) : Prop := ∃ m : Int, w.cell? ⟨3, 0, none⟩ = some (.int .i64 m)
theorem Mx.at_below {w w' : World} (h : Mx w) (hb : Below w.heap.size w w') : Mx w' := by
  obtain ⟨m, hm⟩ := h
  exact ⟨m, (hb.cell (p := ⟨3, 0, none⟩) (World.block_lt_of_cell? w _ hm)).trans hm⟩
theorem split_line {x : Ins} {fs : List Fk} (hf : fieldsOf x.op = some fs) (hl : (lineI x).length ≤ 132) (w : World) (hM : Mx w) : Calls Tryz.prog 24 #[.string ⟨(lineI x).toArray⟩, .string ⟨#[32]⟩] w fun e w' => e = .returned (.slice (some ⟨w.heap.size, 0, none⟩) (fs.length + 1) (fs.length + 1)) ∧ w'.cell? ⟨w.heap.size, 0, none⟩ = some (.string ⟨(nameN x.op.toNat).toArray⟩) ∧ (∀ j (h : j < fs.length), w'.cell? ⟨w.heap.size, j + 1, none⟩ = some (.string ⟨(txtF fs[j] x).toArray⟩)) ∧ w.heap.size < w'.heap.size ∧ Below w.heap.size w w' := by
  obtain ⟨m, hm⟩ := hM
  have hc := Any.strings_Split { Tryz.laysM146 with } Tryz.laysM146.i9 ⟨(lineI x).toArray⟩ ⟨#[32]⟩ m w (by show (lineI x).toArray.size < _; simp; omega) hm (by decide)
  have hsp := line_split hf rfl
  have hln := Lib.splitB_all ⟨#[32]⟩ (by decide) 0 _ ⟨(lineI x).toArray⟩ rfl
  unfold blankB at hsp
  rw [hsp] at hc hln
  refine Calls.mono (show Calls Tryz.prog 24 #[.string ⟨(lineI x).toArray⟩, .string ⟨#[32]⟩] w _ from hc) ?_
  rintro e w' ⟨rfl, rfl⟩
  rw [← hln]
  rw [List.length_map, List.length_cons, List.length_map]
  refine ⟨rfl, ?_, fun j hj => ?_, by simp, (Below.refl _ _).alloc (Nat.le_refl _) _⟩
  · rw [(Has.new w _ _).cell 0]; rfl
  · rw [(Has.new w _ _).cell (j + 1)]; simp [hj]
set_option maxRecDepth 100000 in
set_option maxHeartbeats 1000000 in
set_option pp.maxSteps 100000 in
theorem parse_good {x : Ins} (w : World) (hx : x.Ok) (hr : rightB x = true) (hl : (lineI x).length ≤ 132) (hT : Tabs w) (hS : Sp w) (hM : Mx w) : Calls Tryz.prog 10 #[.string ⟨(lineI x).toArray⟩] w fun e w' => e = .returned (.tuple #[.agg (insC x).toArray, .nilIface]) ∧ Below w.heap.size w w' := by
  have HRT := Lib.hid (fun (W : World) (mv : Value) (hM : MadeE W (Old W.heap.size) mv) => (show Calls Tryz.prog 15 #[mv, .agg #[.int .i64 x.op, .int .i64 x.a, .int .i64 x.b, .int .i64 x.n, .int .u64 x.imm]] W _ from (right_any W hM hx).mono (R' := fun e w' => e = .returned (.bool true) ∧ Below W.heap.size W w') (fun e w' h => ⟨h.1.trans (by rw [hr]), h.2⟩)))
  obtain ⟨fs, hfs, hok, hset⟩ := right_some hr
  have HFS := Lib.hid hfs
  have HT := Lib.hid hT
  have HS := Lib.hid hS
  have HX := Lib.hid hx
  have HOK := Lib.hid hok
  have HSET := Lib.hid hset
  have hfl := fields_len hfs
  have HFO := Lib.hid (fields_ok hfs)
  have HSP := Lib.hid (fun (W : World) (hb : Below w.heap.size w W) => split_line hfs hl W (hM.at_below hb))
  obtain ⟨k, hk, hk20, _⟩ := fields_cases hfs
  obtain ⟨S, hS2⟩ : ∃ S : ByteArray, S = ⟨(lineI x).toArray⟩ := ⟨_, rfl⟩
  rw [← hS2] at HSP ⊢
  have HTX := Lib.hid (fun j (h : j < fs.length) => (⟨txtF fs[j] x, rfl⟩ : ∃ t, t = txtF fs[j] x))
  have HXE : Hid (∃ x2, x2 = x) := Lib.hid ⟨x, rfl⟩
  have hk20i : (k : Int) < 20 := by omega
  have HKO := Lib.hid (show x.op.toNat = k by omega)
  rw [HKO.out] at HSP
  clear hx hr hfs hok hset hT hS hM hl hS2
  go_enter Tryz.func10, Tryz.ntmps10
  go_wp2_with (first
    | (go_at_call 24; refine (HSP.out _ ((Below.refl _ _).alloc (Nat.le_refl _) _)).mono ?_; rintro e w1 ⟨rfl, hw0, hwj, hz1, hb1⟩; have hj1 : Has w1 w.heap.size 24 #[.int .i64 0, .int .i64 0, .int .i64 0, .int .i64 0, .int .u64 0] := (Has.new w _ _).below hb1 (by simp); have HJ1 := Lib.hid hj1; have HW0 := Lib.hid hw0; have HWJ := Lib.hid hwj; have HB1 : Hid (Below w.heap.size w w1) := Lib.hid (((Below.refl _ _).alloc (Nat.le_refl _) _).trans (hb1.mono (by simp))); clear hb1 hj1 hw0 hwj)
    | (go_at_call 17; refine (fields_any _ (HS.out.at_below HB1.out)).mono ?_; rintro e w2 ⟨rfl, hcl, hz2, hb2⟩; have HCL := Lib.hid hcl; have HB2 := Lib.hid hb2; clear hcl hb2))
  obtain ⟨T0, hT0⟩ : ∃ T0 : ByteArray, T0 = ⟨(nameN k).toArray⟩ := ⟨_, rfl⟩
  have HT0 := Lib.hid hT0
  have hzw : w.heap.size + 1 < w1.heap.size := by simpa using hz1
  have w00 : w2.cell? ⟨w.heap.size + 1, 0, none⟩ = some (.string T0) := (HB2.out.cell (p := ⟨w.heap.size + 1, 0, none⟩) hzw).trans (by have := HW0.out; rw [← hT0] at this; simpa using this)
  have HW2 : Hid (∀ j (h : j < fs.length), w2.cell? ⟨w.heap.size + 1, j + 1, none⟩ = some (.string ⟨(txtF fs[j] x).toArray⟩)) := Lib.hid (fun j h => (HB2.out.cell (p := ⟨w.heap.size + 1, j + 1, none⟩) hzw).trans (by have := HWJ.out j h; simpa using this))
  have hzw2 : w.heap.size + 1 < w2.heap.size := Nat.lt_of_lt_of_le hzw HB2.out.size
  have hzj2 : w.heap.size < w2.heap.size := Nat.lt_trans (Nat.lt_succ_self _) hzw2
  have HBW : Hid (Below w.heap.size w w2) := Lib.hid (HB1.out.trans (HB2.out.mono (by omega)))
  have HJ2 : Hid (Has w2 w.heap.size 24 #[.int .i64 0, .int .i64 0, .int .i64 0, .int .i64 0, .int .u64 0]) := Lib.hid (HJ1.out.below HB2.out (by omega))
  have hd0 : decide ((0 : Nat) < fs.length + 1) = true := by simp
  clear hT0 hz1
  go_loop [17] (fun i => ∃ j : Nat, j ≤ k ∧ i = .int .i64 (j : Nat)) (fun i => 20 - (intOf i).toNat)
  case atStart => exact ⟨0, Nat.zero_le _, rfl⟩
  case round =>
    obtain ⟨j, hj, rfl⟩ := hrel
    have hj20 : (j : Int) < 20 := by omega
    have hj20n : j < 20 := by omega
    obtain ⟨N, hN⟩ : ∃ N : ByteArray, N = ⟨(nameN j).toArray⟩ := ⟨_, rfl⟩
    have n5 : w2.cell? ⟨w1.heap.size, j, none⟩ = some (.string N) := by rw [hN]; exact HCL.out j hj20n
    by_cases hjk : j = k
    · have hee : (N.toList == T0.toList) = true := by rw [hN, HT0.out, hjk]; simp
      clear hN
      subst hjk
      go_wp2_with (first
        | (go_at_call 14; refine (made_any _).mono ?_; rintro e w3 ⟨mv, rfl, hM, hB⟩; have HM := Lib.hid (hM.keep (F' := Old w3.heap.size) (fun b hb => hb.2) (fun _ _ => rfl)); have HB3 := Lib.hid hB; clear hM hB)
        | (go_at_call 16; refine (of_yes _ HM.out (by have := HFS.out; rw [hk] at this; exact this)).mono ?_; rintro e w4 ⟨v4, rfl, hS4, hB4, hO4⟩; obtain ⟨A4, cap4, rfl, hc4, hm4⟩ := hS4.form; have HM4 := Lib.hid (HM.out.old hB4); have HS4 := Lib.hid hS4; have HB4 := Lib.hid (HB3.out.trans (hB4.mono HB3.out.size)); clear hS4 hB4 hO4 hm4))
      have hz4 : w2.heap.size ≤ w4.heap.size := HB4.out.size
      have hzw4 : w.heap.size + 1 < w4.heap.size := Nat.lt_of_lt_of_le hzw2 hz4
      have HW4 : Hid (∀ i (h : i < fs.length), w4.cell? ⟨w.heap.size + 1, i + 1, none⟩ = some (.string ⟨(txtF fs[i] x).toArray⟩)) := Lib.hid (fun i h => (HB4.out.cell (p := ⟨w.heap.size + 1, i + 1, none⟩) hzw2).trans (HW2.out i h))
      have HJ4 := Lib.hid (HJ2.out.below HB4.out hzj2)
      have HBW4 : Hid (Below w.heap.size w w4) := Lib.hid (HBW.out.trans (HB4.out.mono (by omega)))
      have hdl : ((fs.length : Int) == fs.length) = true := by simp
      clear n5 hee w00 hj hj20 hj20n hk20i
      go_loopw [46] (fun iv wr => ∃ i : Nat, i ≤ fs.length ∧ iv = .int .i64 (i : Nat) ∧ Hid (Below w4.heap.size w4 wr) ∧ Hid (Has wr w4.heap.size 24 (insC (setAll (fs.take i) x (zero x.op))).toArray)) (fun iv _ => fs.length - (intOf iv).toNat)
      case atStart => exact ⟨0, Nat.zero_le _, rfl, Lib.hid ((Below.refl _ _).alloc (Nat.le_refl _) _), Lib.hid (by rw [hk]; exact Has.new w4 _ _)⟩
      case round =>
        obtain ⟨i, hi, rfl, HBr, HGr⟩ := hrel
        have zg : w4.heap.size < wr.heap.size := HGr.out.lt
        have HBw := Lib.hid (HBW4.out.trans (HBr.out.mono (by omega)))
        by_cases hlt : i < fs.length
        · obtain ⟨fb, foff, c0, c1, c2, c3, c4, rfl, hbG, hE, g0, g1, g2, g3, g4⟩ := slk_get (HS4.out.below FieldE_mono HBr.out) hlt
          obtain ⟨f, hfk⟩ : ∃ f, f = fs[i] := ⟨_, rfl⟩
          rw [← hfk] at hE
          have hfok : f.ok := HFO.out f (by rw [hfk]; exact List.getElem_mem hlt)
          have hfo : okF f x = true := HOK.out f (by rw [hfk]; exact List.getElem_mem hlt)
          obtain ⟨fn0, cap0, fn1, cap1, fn2, cap2, fn3, cap3, fn4, cap4', rfl, rfl, rfl, rfl, rfl, hcf3, hcf4⟩ := tx_shape hE
          have zb : fb < wr.heap.size := Nat.lt_of_lt_of_le hbG HBr.out.size
          obtain ⟨T, hTe⟩ : ∃ T : ByteArray, T = ⟨(txtF f x).toArray⟩ := ⟨_, rfl⟩
          have hHW : wr.cell? ⟨w.heap.size + 1, i + 1, none⟩ = some (.string T) := (HBr.out.cell (p := ⟨w.heap.size + 1, i + 1, none⟩) hzw4).trans (by rw [hTe, hfk]; exact HW4.out i hlt)
          have zwr : w.heap.size + 1 < wr.heap.size := by omega
          have hsum : IntKind.i64.wrap ((i : Int) + 1) = (i : Int) + 1 := IntWalk.i64_in _ ⟨by omega, by omega⟩
          have htn : ((i : Int) + 1).toNat = i + 1 := by omega
          have hlt0 : (0 : Int) ≤ (i : Int) + 1 := by omega
          have hlt1 : (i : Int) + 1 < fs.length + 1 := by omega
          have hlt1n : i + 1 < fs.length + 1 := by omega
          have HSA := Lib.hid (setAll_take (fs := fs) x (zero x.op) hlt)
          rw [← hfk] at HSA
          have HHY : Hid (f = .sign → (setAll (fs.take i) x (zero x.op)).imm = 0) := Lib.hid (fun e => sign_last x HFS.out hlt (hfk.symm.trans e))
          generalize setAll (fs.take i) x (zero x.op) = y at *
          have HFE := Lib.hid hE
          have HFK := Lib.hid hfok
          have HFOK := Lib.hid hfo
          have HTE := Lib.hid hTe
          clear hE hfok hfo hTe hfk hbG
          go_wp2_with fail
          obtain ⟨W5, hW5⟩ : ∃ W5, W5 = wr.alloc (.cells #[.func (.func fn0) #[] cap0, .func (.func fn1) #[] cap1, .func (.func fn2) #[] cap2, .func (.func fn3) #[] cap3, .func (.func fn4) #[] cap4'] 57) := ⟨_, rfl⟩
          rw [← hW5]
          have hB5 : Below wr.heap.size wr W5 := by rw [hW5]; exact (Below.refl _ _).alloc (Nat.le_refl _) _
          have k4 : W5.cell? ⟨wr.heap.size, 4, none⟩ = some (.func (.func fn4) #[] cap4') := by rw [hW5]; exact (Has.new wr _ _).cell 4
          have kT : W5.cell? ⟨w.heap.size + 1, i + 1, none⟩ = some (.string T) := (hB5.cell (p := ⟨w.heap.size + 1, i + 1, none⟩) zwr).trans hHW
          have z5 : wr.heap.size < W5.heap.size := by rw [hW5]; simp
          have zw5 : w.heap.size + 1 < W5.heap.size := by omega
          have hG5 : Has W5 w4.heap.size 24 (insC y).toArray := HGr.out.below hB5 zg
          have HC := Lib.hid (Do.calls (pa_do (x := x) (y := y) (w := W5.drew) (g := w4.heap.size) (HFE.out.below ((hB5.drew).mono HBr.out.size)) HFK.out HFOK.out HX.out (Nat.lt_irrefl _) (fun W hW => HT.out.at_below (HBw.out.trans (((hB5.drew).mono (by omega)).trans ((hW.below).mono (by omega))))) HHY.out hG5.drew))
          rw [← HTE.out] at HC
          clear hW5
          go_still_tail 7, (by kernel_rfl)
          change wpList _ _ _ _ _ W5.drew
          go_wp2_with (refine HC.out.mono ?_; rintro e w6 ⟨rfl, hO6, hH6⟩; have HO6 := Lib.hid hO6; have HH6 := Lib.hid hH6; clear hO6 hH6)
          go_roundw
          case rel => exact ⟨i + 1, by omega, by go_num, Lib.hid (HBr.out.trans (((hB5.drew).mono (Nat.le_of_lt zg)).trans HO6.out.below)), Lib.hid (by rw [HSA.out]; exact HH6.out)⟩
          case measure => simp [intOf]; omega
        · obtain rfl : i = fs.length := by omega
          have hft : fs.take fs.length = fs := List.take_of_length_le (Nat.le_refl _)
          have hGx : Has wr w4.heap.size 24 (insC x).toArray := by have := HGr.out; rw [hft, HSET.out] at this; exact this
          have x0 : wr.cell? ⟨w4.heap.size, 0, none⟩ = some (.int .i64 x.op) := hGx.cell 0
          have x1 : wr.cell? ⟨w4.heap.size, 1, none⟩ = some (.int .i64 x.a) := hGx.cell 1
          have x2 : wr.cell? ⟨w4.heap.size, 2, none⟩ = some (.int .i64 x.b) := hGx.cell 2
          have x3 : wr.cell? ⟨w4.heap.size, 3, none⟩ = some (.int .i64 x.n) := hGx.cell 3
          have x4 : wr.cell? ⟨w4.heap.size, 4, none⟩ = some (.int .u64 x.imm) := hGx.cell 4
          have HGX := Lib.hid hGx
          have HMr := Lib.hid (HM4.out.old HBr.out)
          have HJr := Lib.hid (HJ4.out.below HBr.out (by omega))
          clear hGx hft hk
          go_wp2_with (go_at_call 15; refine (HRT.out _ _ HMr.out).mono ?_; rintro e w6 ⟨rfl, hB6⟩; have hg6 := HGX.out.below hB6 zg; have hj6 := HJr.out.below hB6 (by omega); have y0 : w6.cell? ⟨w4.heap.size, 0, none⟩ = some (.int .i64 x.op) := hg6.cell 0; have y1 : w6.cell? ⟨w4.heap.size, 1, none⟩ = some (.int .i64 x.a) := hg6.cell 1; have y2 : w6.cell? ⟨w4.heap.size, 2, none⟩ = some (.int .i64 x.b) := hg6.cell 2; have y3 : w6.cell? ⟨w4.heap.size, 3, none⟩ = some (.int .i64 x.n) := hg6.cell 3; have y4 : w6.cell? ⟨w4.heap.size, 4, none⟩ = some (.int .u64 x.imm) := hg6.cell 4; have p0 : w6.cell? ⟨w.heap.size, 0, none⟩ = some (.int .i64 0) := hj6.cell 0; have p1 : w6.cell? ⟨w.heap.size, 1, none⟩ = some (.int .i64 0) := hj6.cell 1; have p2 : w6.cell? ⟨w.heap.size, 2, none⟩ = some (.int .i64 0) := hj6.cell 2; have p3 : w6.cell? ⟨w.heap.size, 3, none⟩ = some (.int .i64 0) := hj6.cell 3; have p4 : w6.cell? ⟨w.heap.size, 4, none⟩ = some (.int .u64 0) := hj6.cell 4; have q0 := hj6.frozen 0; have q1 := hj6.frozen 1; have q2 := hj6.frozen 2; have q3 := hj6.frozen 3; have q4 := hj6.frozen 4; have z6 : w.heap.size < w6.heap.size := hj6.lt; have zg6 : w4.heap.size < w6.heap.size := hg6.lt; have HJ6 := Lib.hid hj6; have HB6 : Hid (Below w.heap.size w w6) := Lib.hid (HBw.out.trans (hB6.mono HBw.out.size)); clear hB6 hg6 hj6)
          refine bodyPost_ret (results_block2 (g := w.heap.size) (T := 24) rfl rfl (by exact ((((HJ6.out.set 0 _).set 1 _).set 2 _).set 3 _).set 4 _) rfl Tryz.underlying24 rfl (by kernel_rfl)) rfl ?_
          exact ⟨rfl, by have := HB6.out; exact (by repeat' (first | (with_reducible assumption) | (with_reducible refine Below.setCell ?_ ?_ _) | (with_reducible refine Below.alloc ?_ ?_ _) | (with_reducible refine Below.drew ?_) | (with_reducible refine below_drewN ?_ _) | (with_reducible exact Below.refl _ _) | (show _ ≤ _; (try simp); (try omega); done) | exact Below.refl _ _ | assumption))⟩
    · have hee : (N.toList == T0.toList) = false := by
        rw [hN, HT0.out]
        have hne : nameN j ≠ nameN k := fun e => hjk (name_inj hj20n hk20 e)
        simpa using hne
      clear hN
      go_wp2
      go_round
      case rel => exact ⟨j + 1, by omega, by go_num⟩
      case measure => simp [intOf]; omega
end codeW
end Go.Proofs.YtbopooanmpcepaaGreatDoor

namespace Go.Proofs.YtbopooanmpcepaaGreatDoor
open Go.RowKit Go.Bus Go.Bus.cellK Go.Bus.codeK Go.Bus.hexK
set_option linter.unusedVariables false
set_option linter.unusedSimpArgs false
namespace codeW
/-- The library's two errors, as they are laid. -/
structure Errs (w : World) : Prop where
  syn : ∃ tp p, w.var? Tryz.prog "strconv.ErrSyntax" = some #[.iface tp p]
  rng : ∃ tp p, w.var? Tryz.prog "strconv.ErrRange" = some #[.iface tp p]
theorem gSyn : Tryz.prog.globalNamed "strconv.ErrSyntax" = some 4 := by kernel_rfl
theorem gRng : Tryz.prog.globalNamed "strconv.ErrRange" = some 5 := by kernel_rfl
theorem Errs.at_below {w w' : World} (h : Errs w) (hb : Below w.heap.size w w') : Errs w' := by
  obtain ⟨⟨t1, p1, h1⟩, ⟨t2, p2, h2⟩⟩ := h
  refine ⟨⟨t1, p1, var_below h1 hb fun g hg => ?_⟩, ⟨t2, p2, var_below h2 hb fun g hg => ?_⟩⟩
  · rw [gSyn] at hg; obtain rfl := Option.some.inj hg
    exact World.block_lt_of_cell? w ⟨4, 0, none⟩ (World.var?_cell gSyn h1 0)
  · rw [gRng] at hg; obtain rfl := Option.some.inj hg
    exact World.block_lt_of_cell? w ⟨5, 0, none⟩ (World.var?_cell gRng h2 0)
/-- An error: none, or one of the library's number errors. -/
def NumE (en : Bool) (E : Value) : Prop := (en = true → E = .nilIface) ∧ (en = false → ∃ p, E = .iface 166 p)
theorem atoi_gen (S : List UInt8) (hl : S.length ≤ 4194304) : ∃ (v : Int) (en : Bool), (-9223372036854775808 ≤ v ∧ v ≤ 9223372036854775807) ∧ ∀ W, Errs W → Calls Tryz.prog 64 #[.string ⟨S.toArray⟩] W fun e w' => ∃ E, e = .returned (.tuple #[.int .i64 v, E]) ∧ NumE en E ∧ Below W.heap.size W w' := by
  have hsz : (⟨S.toArray⟩ : ByteArray).size = S.length := by show S.toArray.size = _; simp
  have hdl : (⟨S.toArray⟩ : ByteArray).data.toList = S := by simp
  cases h : Lib.atoiAll S with
  | ok v =>
    refine ⟨v, true, Lib.atoiAll_bounds h, fun W _ => (Tryz.strconv_Atoi_ok ⟨S.toArray⟩ (by rw [hsz]; omega) v (by rw [hdl]; exact h) W).mono ?_⟩
    rintro e w' ⟨rfl, hw⟩
    refine ⟨_, rfl, ⟨fun _ => rfl, fun e => by cases e⟩, ?_⟩
    rcases hw with rfl | ⟨t, rfl⟩
    · exact Below.refl _ _
    · exact Lib.bytesWorld_below _ _ _
  | «syntax» =>
    refine ⟨0, false, by omega, fun W hE => ?_⟩
    obtain ⟨tp, p, hv⟩ := hE.syn
    refine (Tryz.strconv_Atoi_syntax_var ⟨S.toArray⟩ (by rw [hsz]; omega) (by rw [hdl]; exact h) tp p W hv).mono ?_
    rintro e w' ⟨N, rfl, _, _, hb⟩
    exact ⟨_, rfl, ⟨(fun e => by cases e), fun _ => ⟨_, rfl⟩⟩, hb⟩
  | range =>
    refine ⟨Lib.atoiSat S, false, Lib.atoiSat_bounds S, fun W hE => ?_⟩
    obtain ⟨tp, p, hv⟩ := hE.rng
    refine (Tryz.strconv_Atoi_range_var ⟨S.toArray⟩ (by rw [hsz]; omega) (by rw [hdl]; exact h) tp p W hv).mono ?_
    rw [hdl]
    rintro e w' ⟨N, rfl, _, _, hb⟩
    exact ⟨_, rfl, ⟨(fun e => by cases e), fun _ => ⟨_, rfl⟩⟩, hb⟩
theorem toError_gen (fn s : ByteArray) (k : Int) (hk : k = 1 ∨ k = 2) (hl : s.size ≤ 4194304) (W : World) (hE : Errs W) : Calls Tryz.prog 89 #[.string fn, .string s, .int .i64 16, .int .i64 64, .iface 163 (.int .i64 k)] W fun e w' => ∃ p, e = .returned (.iface 166 p) ∧ Below W.heap.size W w' := by
  rcases hk with rfl | rfl
  · obtain ⟨tp, p, hv⟩ := hE.rng
    refine (Tryz.strconv_toError_range fn s 16 64 (.iface tp p) W (by omega) (World.var?_cell gRng hv 0) (.inr ⟨tp, p, rfl⟩)).mono ?_
    rintro e w' ⟨N, rfl, _, _, hb⟩
    exact ⟨_, rfl, hb⟩
  · obtain ⟨tp, p, hv⟩ := hE.syn
    refine (Tryz.strconv_toError_syntax fn s 16 64 (.iface tp p) W (by omega) (World.var?_cell gSyn hv 0) (.inr ⟨tp, p, rfl⟩)).mono ?_
    rintro e w' ⟨N, rfl, _, _, hb⟩
    exact ⟨_, rfl, hb⟩
/-- What ParseUint answers: the number and no error, or some number and one. -/
def PuG (S : List UInt8) (w : World) (e : Ending) (w' : World) : Prop := ∃ (n : Int) (en : Bool) (E : Value), e = .returned (.tuple #[.int .u64 n, E]) ∧ NumE en E ∧ (en = true → 0 ≤ n ∧ n < 18446744073709551616) ∧ Below w.heap.size w w'
set_option maxRecDepth 100000 in
set_option maxHeartbeats 1000000 in
theorem ipu16_nil (W : World) : Calls Tryz.prog 92 #[.string ⟨([] : List UInt8).toArray⟩, .int .i64 16, .int .i64 64] W fun e w' => e = .returned (.tuple #[.int .u64 0, .iface 163 (.int .i64 2)]) ∧ Below W.heap.size W w' := by
  go_enter Tryz.func92, Tryz.ntmps92
  go_wp2
  go_ret2
  exact ⟨rfl, (by repeat' (first | (with_reducible assumption) | (with_reducible refine Below.setCell ?_ ?_ _) | (with_reducible refine Below.alloc ?_ ?_ _) | (with_reducible refine Below.drew ?_) | (with_reducible refine below_drewN ?_ _) | (with_reducible exact Below.refl _ _) | (show _ ≤ _; (try simp); (try omega); done) | exact Below.refl _ _ | assumption))⟩
theorem hexRd_lt : ∀ {l : List UInt8} {n v : Nat}, n < 18446744073709551616 → hexRd l n = some v → v < 18446744073709551616
  | [], n, v, hn, h => by simp only [hexRd, Option.some.injEq] at h; omega
  | c :: r, n, v, hn, h => by
    simp only [hexRd] at h
    cases hd : hexdig c with
    | none => rw [hd] at h; cases h
    | some d =>
      rw [hd] at h
      simp only [] at h
      have := hexdig_lt hd
      split at h
      · exact hexRd_lt (by omega) h
      · cases h
theorem ipu_gen (S : List UInt8) (hl : S.length ≤ 4194304) (W : World) : Calls Tryz.prog 92 #[.string ⟨S.toArray⟩, .int .i64 16, .int .i64 64] W fun e w' => ((∃ n : Nat, n < 18446744073709551616 ∧ e = .returned (.tuple #[.int .u64 n, .nilIface])) ∨ ∃ n k : Int, e = .returned (.tuple #[.int .u64 n, .iface 163 (.int .i64 k)]) ∧ (k = 1 ∨ k = 2)) ∧ Below W.heap.size W w' := by
  by_cases hs : S = []
  · subst hs
    exact (ipu16_nil W).mono fun e w' h => ⟨.inr ⟨0, 2, h.1, .inr rfl⟩, h.2⟩
  · refine (hexW.ipu16_any S hs (by omega) W).mono fun e w' h => ?_
    unfold hexW.PuPost at h
    refine ⟨?_, h.2⟩
    cases hx : hexRd S 0 with
    | some v => rw [hx] at h; exact .inl ⟨v, hexRd_lt (by decide) hx, h.1⟩
    | none => rw [hx] at h; exact .inr h.1
set_option maxRecDepth 100000 in
set_option maxHeartbeats 1000000 in
theorem pu_gen (S : List UInt8) (hl : S.length ≤ 4194304) (w : World) (hE : Errs w) : Calls Tryz.prog 73 #[.string ⟨S.toArray⟩, .int .i64 16, .int .i64 64] w (PuG S w) := by
  have HP := Lib.hid (fun (W : World) => ipu_gen S hl W)
  have hsz : (⟨S.toArray⟩ : ByteArray).size = S.length := by show S.toArray.size = _; simp
  have HT := Lib.hid (fun (fn : ByteArray) (k : Int) (hk : k = 1 ∨ k = 2) (W : World) (hb : Below w.heap.size w W) => toError_gen fn ⟨S.toArray⟩ k hk (by rw [hsz]; exact hl) W (hE.at_below hb))
  unfold PuG
  obtain ⟨T, hT⟩ : ∃ T : ByteArray, T = ⟨S.toArray⟩ := ⟨_, rfl⟩
  rw [← hT] at HP HT ⊢
  clear hl hT hsz hE
  go_enter Tryz.func73, Tryz.ntmps73
  go_wp2_with fail
  refine (HP.out _).mono ?_
  rintro e w1 ⟨h, hb⟩
  have HB := Lib.hid hb
  clear hb
  rcases h with ⟨n, hn, rfl⟩ | ⟨n, k, rfl, hk⟩
  · have HN := Lib.hid hn
    clear hn
    go_wp2
    go_ret2
    exact ⟨(n : Nat), true, _, rfl, ⟨fun _ => rfl, fun e => by cases e⟩, fun _ => ⟨by omega, by have := HN.out; omega⟩, HB.out⟩
  · have HK := Lib.hid hk
    clear hk
    go_wp2_with (go_at_call 89; refine (HT.out _ _ HK.out _ HB.out).mono ?_; rintro e w2 ⟨q, rfl, hb2⟩; have HB2 := Lib.hid hb2; clear hb2)
    go_ret2
    exact ⟨n, false, _, rfl, ⟨(fun e => by cases e), fun _ => ⟨_, rfl⟩⟩, (fun e => by cases e), HB.out.trans (HB2.out.mono HB.out.size)⟩
end codeW
end Go.Proofs.YtbopooanmpcepaaGreatDoor

namespace Go.Proofs.YtbopooanmpcepaaGreatDoor
open Go.RowKit Go.Bus Go.Bus.cellK Go.Bus.codeK Go.Bus.hexK
set_option linter.unusedVariables false
set_option linter.unusedSimpArgs false
namespace codeW
set_option maxRecDepth 100000 in
set_option maxHeartbeats 1000000 in
theorem paSmallG_w (fn : FuncId) (o : Nat) (s S T T2 : ByteArray) (okb en D : Bool) (b0 b3 g : Nat) (cs : Array Value) (z v : Int) (w : World)
    (hcf : ∀ xs w, (callFunc fn xs).run Tryz.prog w = .ok (.enter fn xs) w)
    (hC : ∀ W, Calls Tryz.prog fn #[.pointer (some ⟨g, 0, none⟩)] W fun e w' => e = .returned (.pointer (some ⟨g, o, none⟩)) ∧ W = w')
    (hCut : ∀ W, Calls Tryz.prog 63 #[.string S, .string s] W fun e w' => e = .returned (.tuple #[.string T, .bool okb]) ∧ W = w')
    (hAt : ∀ W, Below w.heap.size w W → Calls Tryz.prog 64 #[.string T] W fun e w' => ∃ E, e = .returned (.tuple #[.int .i64 v, E]) ∧ NumE en E ∧ Below W.heap.size W w')
    (hIt : ∀ W, Only g w W → Calls Tryz.prog 61 #[.int .i64 v] W fun e w' => e = .returned (.string T2) ∧ Below W.heap.size W w')
    (hnot : ¬ 9223372036854775807 < s.size + T2.size) (heq : ((s ++ T2).toList == S.toList) = D)
    (c0 : w.cell? ⟨b0, 0, none⟩ = some (.func (.func fn) #[] #[])) (c3 : w.cell? ⟨b3, 0, none⟩ = some (.string s)) (z0 : b0 < w.heap.size) (z3 : b3 < w.heap.size) (hn3 : b3 ≠ g)
    (hg : Has w g 24 cs) (ho : cs[o]? = some (.int .i64 z)) :
    Calls Tryz.prog 62 #[ptr g, .string S, ptr b3, ptr b0] w fun e w' => e = .returned (.bool (okb && en && D)) ∧ Only g w w' ∧ Has w' g 24 (cs.setIfInBounds o (.int .i64 v)) := by
  have HC := Lib.hid hC
  have HCut := Lib.hid hCut
  have HAt := Lib.hid hAt
  have HIt := Lib.hid hIt
  have HG := Lib.hid hg
  have HO := Lib.hid ho
  have HN := Lib.hid hn3
  have zg := hg.lt
  clear hC hCut hAt hIt hg ho hn3
  go_enter Tryz.func62, Tryz.ntmps62
  go_wp2_with (first
    | (go_at_call 63; refine (HCut.out _).mono ?_; rintro e w1 ⟨rfl, rfl⟩)
    | (go_at_call 64; refine (HAt.out _ (Below.refl _ _)).mono ?_; rintro e w2 ⟨E, rfl, hNE, hb⟩; have HNE := Lib.hid hNE; clear hNE; have c02 : w2.cell? ⟨b0, 0, none⟩ = some (.func (.func fn) #[] #[]) := (hb.cell (p := ⟨b0, 0, none⟩) z0).trans c0; have c32 : w2.cell? ⟨b3, 0, none⟩ = some (.string s) := (hb.cell (p := ⟨b3, 0, none⟩) z3).trans c3; have hg2 := HG.out.below hb zg; have hz2 : w.heap.size ≤ w2.heap.size := hb.size; have zg2 : g < w2.heap.size := hg2.lt; have z32 : b3 < w2.heap.size := Nat.lt_of_lt_of_le z3 hz2; have co2 : w2.cell? ⟨g, o, none⟩ = some (.int .i64 z) := (hg2.cell o).trans HO.out; have fo2 : w2.frozen? ⟨g, o, none⟩ = false := hg2.frozen o; have HG2 := Lib.hid hg2; have HB2 := Lib.hid hb; clear hb hg2)
    | (refine (HC.out _).mono ?_; rintro e w4 ⟨rfl, rfl⟩))
  obtain ⟨W3, hW3⟩ : ∃ W3, W3 = w2.setCell ⟨g, o, none⟩ (.int .i64 v) := ⟨_, rfl⟩
  rw [← hW3]
  have hO3 : Only g w W3 := by rw [hW3]; exact (Only.of_below HB2.out (Nat.le_of_lt zg)).set o _
  have hG3 : Has W3 g 24 (cs.setIfInBounds o (.int .i64 v)) := by rw [hW3]; exact HG2.out.set o _
  have c33 : W3.cell? ⟨b3, 0, none⟩ = some (.string s) := by rw [hW3, World.cell?_setCell_other _ _ _ _ (fun e => HN.out (by injection e with e1 _ _; exact e1.symm))]; exact c32
  have z33 : b3 < W3.heap.size := Nat.lt_of_lt_of_le z3 hO3.size
  have zg3 : g < W3.heap.size := hG3.lt
  have HO3 := Lib.hid hO3
  have HG3 := Lib.hid hG3
  clear hW3 hO3 hG3 c02 c32 co2 fo2 c0 c3
  cases en with
  | true =>
    obtain rfl := HNE.out.1 rfl
    cases okb with
    | true =>
      go_region_held3 (fun W => W.cell? ⟨b3, 0, none⟩ = some (.string s) ∧ Below W3.heap.size W3 W)
        (first | exact ⟨by go_simp, Below.drew (Below.refl _ _)⟩ | exact ⟨by assumption, by assumption⟩)
        (first | (go_at_call 61; refine (HIt.out _ (HO3.out.trans (Only.of_below (‹_ ∧ Below W3.heap.size W3 _›).2 (Nat.le_of_lt zg3)))).mono ?_; rintro e w5 ⟨rfl, hb⟩; (try go_split_ands); have hB : Below W3.heap.size W3 w5 := Below.trans ‹Below W3.heap.size W3 _› (hb.mono (Below.size ‹Below W3.heap.size W3 _›)); have k3 : w5.cell? ⟨b3, 0, none⟩ = some (.string s) := (hB.cell (p := ⟨b3, 0, none⟩) z33).trans c33))
      all_goals
        go_wp2
        go_ret
        exact ⟨rfl, HO3.out.trans (Only.of_below (by assumption) (Nat.le_of_lt zg3)), HG3.out.below (by assumption) zg3⟩
    | false =>
      go_quiet (fail)
      all_goals
        go_wp2
        go_ret
        exact ⟨rfl, HO3.out.drewN _, HG3.out⟩
  | false =>
    obtain ⟨q, rfl⟩ := HNE.out.2 rfl
    cases okb with
    | true =>
      go_quiet (fail)
      all_goals
        go_wp2
        go_ret
        exact ⟨rfl, HO3.out.drewN _, HG3.out⟩
    | false =>
      go_quiet (fail)
      all_goals
        go_wp2
        go_ret
        exact ⟨rfl, HO3.out.drewN _, HG3.out⟩
/-- The text of a field's number. -/
def ptx : Fk → Int → List UInt8
  | .small _ _ _ s, v => s.data.toList ++ Lib.itoa v
  | .skip, v => Lib.itoa v
  | .bytes, v => Lib.itoa v
  | .number, v => [48, 120] ++ hexs v.toNat
  | .sign, v => if v = 1 then signedT else unsignedT
theorem txt_ptx {f : Fk} (x : Ins) : txtF f x = ptx f (x.at_ f.wh) := by cases f <;> rfl
/-- A number that fits where it stands. -/
def wok (h : Wh) (v : Int) : Prop := match h with
  | .I => 0 ≤ v ∧ v < 18446744073709551616
  | _ => -9223372036854775808 ≤ v ∧ v ≤ 9223372036854775807
/-- What reading a field of any text comes to. -/
def PaG (f : Fk) (S : List UInt8) (w : World) (g : Nat) (y : Ins) (e : Ending) (w' : World) : Prop := ∃ (b : Bool) (v : Int), e = .returned (.bool b) ∧ Only g w w' ∧ Has w' g 24 (insC (y.put f.wh v)).toArray ∧ (b = true → wok f.wh v ∧ S = ptx f v)
theorem paSmallG_any (f : Fk) (h : Wh) (hfw : f.wh = h) (hI : h ≠ .I) (s : ByteArray) (hs : s.size ≤ 1) (hptx : ∀ v, ptx f v = s.data.toList ++ Lib.itoa v) (S : List UInt8) (hl : S.length ≤ 2097152) (b0 b1 b2 b3 g : Nat) (lo hi : Int) (F : Foot) (y : Ins) (w : World) (hT : ∀ W, Only g w W → Tabs W) (hE : Errs w) (hB : Boxes w F h lo hi s b0 b1 b2 b3) (hF : ¬ F g)
    (hg : Has w g 24 (insC y).toArray) :
    Calls Tryz.prog 62 #[ptr g, .string ⟨S.toArray⟩, ptr b3, ptr b0] w (PaG f S w g y) := by
  have hlp : (Lib.trimPrefix S s.data.toList).length ≤ S.length := by
    unfold Lib.trimPrefix
    split
    · rw [List.length_drop]; omega
    · exact Nat.le_refl _
  obtain ⟨v, en, hv, hA⟩ := atoi_gen (Lib.trimPrefix S s.data.toList) (by omega)
  have hln : (Lib.itoa v).length ≤ 20 := itoa_len hv.1 hv.2
  have hts : (⟨(Lib.itoa v).toArray⟩ : ByteArray).size = (Lib.itoa v).length := by show (Lib.itoa v).toArray.size = _; simp
  have hval : ∃ z, (insC y).toArray[whO h]? = some (.int .i64 z) := by
    cases h with
    | A => exact ⟨_, rfl⟩
    | B => exact ⟨_, rfl⟩
    | N => exact ⟨_, rfl⟩
    | I => exact absurd rfl hI
  obtain ⟨z, hz⟩ := hval
  refine (paSmallG_w (whF h) (whO h) s ⟨S.toArray⟩ ⟨(Lib.trimPrefix S s.data.toList).toArray⟩ ⟨(Lib.itoa v).toArray⟩ (Lib.hasPrefix S s.data.toList) en _ b0 b3 g (insC y).toArray z v w (whF_call h) (whF_any h hI g) (fun W => ?_) (fun W hb => hA W (hE.at_below hb)) (fun W hW => itoa_any v hv.1 hv.2 W (hT W hW)) (by rw [hts]; omega) rfl (hB.h0.cell 0) (hB.h3.cell 0) hB.h0.lt hB.h3.lt (fun e => hF (e ▸ hB.f3)) hg hz).mono ?_
  · refine (Tryz.strings_CutPrefix ⟨S.toArray⟩ s W).mono ?_
    rintro e w' ⟨rfl, rfl⟩
    exact ⟨rfl, rfl⟩
  · rintro e w' ⟨rfl, hO, hH⟩
    have e2 : (insC y).toArray.setIfInBounds (whO h) (.int .i64 v) = (insC (y.put h v)).toArray := by
      cases h with
      | A => rfl
      | B => rfl
      | N => rfl
      | I => exact absurd rfl hI
    refine ⟨_, v, rfl, hO, by rw [hfw, ← e2]; exact hH, fun hb => ⟨?_, ?_⟩⟩
    · rw [hfw]
      cases h with
      | A => exact hv
      | B => exact hv
      | N => exact hv
      | I => exact absurd rfl hI
    · rw [hptx]
      simp only [Bool.and_eq_true] at hb
      have h3 := hb.2
      rw [strTxt] at h3
      have h4 : s.data.toList ++ Lib.itoa v = S := by simpa using h3
      exact h4.symm
set_option maxRecDepth 100000 in
set_option maxHeartbeats 1000000 in
theorem paNumG_any (S : List UInt8) (hl : S.length ≤ 2097152) (g : Nat) (y : Ins) (w : World) (hT : ∀ W, Only g w W → Tabs W) (hE : Errs w) (hg : Has w g 24 (insC y).toArray) :
    Calls Tryz.prog 72 #[ptr g, .string ⟨S.toArray⟩] w (PaG .number S w g y) := by
  have hlp : (Lib.trimPrefix S [48, 120]).length ≤ S.length := by
    unfold Lib.trimPrefix
    split
    · rw [List.length_drop]; omega
    · exact Nat.le_refl _
  have HF := Lib.hid (fun (q : Nat) (hq : q < 18446744073709551616) (W : World) (hb : Only g w W) => hexW.fmt16_any q hq W (hT W hb).tz)
  have HC := Lib.hid (fun (W : World) => (Tryz.strings_CutPrefix ⟨S.toArray⟩ ⟨#[48, 120]⟩ W).mono (R' := fun e w' => e = .returned (.tuple #[.string ⟨(Lib.trimPrefix S [48, 120]).toArray⟩, .bool (Lib.hasPrefix S [48, 120])]) ∧ W = w') (fun e w' h => ⟨h.1, h.2.symm⟩))
  have HP := Lib.hid (fun (W : World) (hb : Below w.heap.size w W) => pu_gen (Lib.trimPrefix S [48, 120]) (by omega) W (hE.at_below hb))
  have HD : Hid (∀ q : Nat, (hexs q == (⟨(Lib.trimPrefix S [48, 120]).toArray⟩ : ByteArray).toList) = true → Lib.hasPrefix S [48, 120] = true → S = [48, 120] ++ hexs q) := Lib.hid (fun q h1 h2 => by
    have h3 : hexs q = Lib.trimPrefix S [48, 120] := by simpa using h1
    rw [h3]
    unfold Lib.trimPrefix
    rw [if_pos h2]
    unfold Lib.hasPrefix at h2
    obtain ⟨t, ht⟩ := List.isPrefixOf_iff_prefix.1 h2
    rw [← ht]; simp)
  obtain ⟨T, hT2⟩ : ∃ T : ByteArray, T = ⟨(Lib.trimPrefix S [48, 120]).toArray⟩ := ⟨_, rfl⟩
  obtain ⟨okb, hok⟩ : ∃ okb, okb = Lib.hasPrefix S [48, 120] := ⟨_, rfl⟩
  rw [← hT2, ← hok] at HC
  rw [← hT2] at HP HD
  rw [← hok] at HD
  obtain ⟨SB, hSB⟩ : ∃ SB : ByteArray, SB = ⟨S.toArray⟩ := ⟨_, rfl⟩
  rw [← hSB] at HC ⊢
  have HG := Lib.hid hg
  have zg := hg.lt
  obtain ⟨op, a, b, n0, imm⟩ := y
  unfold insC at HG
  clear hT hg hT2 hl hlp hok hSB hE
  go_enter Tryz.func72, Tryz.ntmps72
  go_wp2_with (go_at_call 63; refine (HC.out _).mono ?_; rintro e w1 ⟨rfl, rfl⟩)
  refine (HP.out _ (Below.refl _ _)).mono ?_
  rintro e w2 ⟨n, en, E, rfl, hNE, hr, hb⟩
  have hg2 := HG.out.below hb zg
  have zg2 : g < w2.heap.size := hg2.lt
  have co2 : w2.cell? ⟨g, 4, none⟩ = some (.int .u64 imm) := hg2.cell 4
  have fo2 : w2.frozen? ⟨g, 4, none⟩ = false := hg2.frozen 4
  have HG2 := Lib.hid hg2
  have HB2 := Lib.hid hb
  have HNE := Lib.hid hNE
  have HR := Lib.hid hr
  clear hb hg2 hNE hr
  have hO3 := Lib.hid ((Only.of_below HB2.out (Nat.le_of_lt zg)).set 4 (.int .u64 n))
  have hG3 := Lib.hid (HG2.out.set 4 (.int .u64 n))
  cases okb with
  | true =>
    cases en with
    | true =>
      obtain rfl := HNE.out.1 rfl
      obtain ⟨q, rfl⟩ : ∃ q : Nat, n = (q : Int) := ⟨n.toNat, by have := HR.out rfl; omega⟩
      have hq : q < 18446744073709551616 := by have := HR.out rfl; omega
      have HQ := Lib.hid hq
      clear hq
      obtain ⟨D, hD⟩ : ∃ D, (hexs q == T.toList) = D := ⟨_, rfl⟩
      go_wp2_with (go_at_call 71; refine (HF.out q HQ.out _ (by exact hO3.out)).mono ?_; rintro e w5 ⟨rfl, hb⟩; have HB5 := Lib.hid hb; clear hb)
      go_ret
      exact ⟨D, (q : Nat), rfl, hO3.out.trans (Only.of_below HB5.out (Nat.le_of_lt hG3.out.lt)), hG3.out.below HB5.out hG3.out.lt, fun h => ⟨⟨by omega, by have := HQ.out; omega⟩, HD.out q (hD.trans h) (by simp)⟩⟩
    | false =>
      obtain ⟨p, rfl⟩ := HNE.out.2 rfl
      go_wp2
      go_ret
      exact ⟨false, n, rfl, hO3.out, hG3.out, fun h => by cases h⟩
  | false =>
    go_wp2
    go_ret
    exact ⟨false, n, rfl, hO3.out, hG3.out, fun h => by cases h⟩
set_option maxRecDepth 100000 in
set_option maxHeartbeats 1000000 in
theorem paSignG_any (S : List UInt8) (g : Nat) (y : Ins) (w : World) (hy : y.imm = 0) (hg : Has w g 24 (insC y).toArray) :
    Calls Tryz.prog 96 #[ptr g, .string ⟨S.toArray⟩] w (PaG .sign S w g y) := by
  have HG := Lib.hid hg
  have zg := hg.lt
  have co2 : w.cell? ⟨g, 4, none⟩ = some (.int .u64 y.imm) := hg.cell 4
  have fo2 : w.frozen? ⟨g, 4, none⟩ = false := hg.frozen 4
  clear hg
  obtain ⟨op, a, b, n, imm⟩ := y
  obtain rfl : imm = 0 := hy
  have hO0 := Lib.hid (Only.refl (Nat.le_of_lt zg) : Only g w w)
  obtain ⟨SB, hSB⟩ : ∃ SB : ByteArray, SB = ⟨S.toArray⟩ := ⟨_, rfl⟩
  rw [← hSB]
  by_cases h1 : S = signedT
  · have d1 : (SB.toList == [115, 105, 103, 110, 101, 100]) = true := by rw [hSB, h1]; simp [signedT]
    have H1 := Lib.hid h1
    clear hSB h1
    go_enter Tryz.func96, Tryz.ntmps96
    go_wp2
    go_ret
    exact ⟨true, 1, rfl, hO0.out.set 4 _, HG.out.set 4 _, fun _ => ⟨⟨by decide, by decide⟩, H1.out⟩⟩
  · have d1 : (SB.toList == [115, 105, 103, 110, 101, 100]) = false := by
      rw [hSB]
      have : ¬ S = [115, 105, 103, 110, 101, 100] := h1
      simpa using this
    obtain ⟨D, hD⟩ : ∃ D, (SB.toList == [117, 110, 115, 105, 103, 110, 101, 100]) = D := ⟨_, rfl⟩
    have H2 : Hid (D = true → S = unsignedT) := Lib.hid (fun h => by
      rw [← hD, hSB] at h
      have h2 : S = [117, 110, 115, 105, 103, 110, 101, 100] := by simpa using h
      exact h2)
    clear hSB h1
    go_enter Tryz.func96, Tryz.ntmps96
    go_wp2
    go_ret
    exact ⟨D, 0, rfl, hO0.out, HG.out, fun h => ⟨⟨by decide, by decide⟩, H2.out h⟩⟩
theorem pag_does {f : Fk} {cs : List Value} {F : Foot} {S : List UInt8} {y : Ins} {w : World} {g : Nat} (hE : FieldE w F cs f) (hf : f.ok) (hl : S.length ≤ 2097152) (hF : ¬ F g) (hT : ∀ W, Only g w W → Tabs W) (hR : Errs w) (hy : f = .sign → y.imm = 0) (hg : Has w g 24 (insC y).toArray) :
    ∃ c0 c1 c2 c3 c4, cs = [c0, c1, c2, c3, c4] ∧ Does Tryz.prog c4 #[ptr g, .string ⟨S.toArray⟩] w (PaG f S w g y) := by
  obtain ⟨b0, b1, b2, b3, rfl, hB⟩ := hE
  refine ⟨_, _, _, _, _, rfl, ?_⟩
  cases f with
  | small h lo hi s =>
    obtain ⟨hI, hlo, hhi, hs⟩ := hf
    exact callFunc_of _ (fun _ _ => by kernel_rfl) _ _ _ _ (paSmallG_any (.small h lo hi s) h rfl hI s hs (fun _ => rfl) S hl b0 b1 b2 b3 g lo hi F y w hT hR (hB _ _ _ _ rfl) hF hg)
  | skip => exact callFunc_of _ (fun _ _ => by kernel_rfl) _ _ _ _ (paSmallG_any .skip .N rfl (by decide) eS (by decide) (fun _ => rfl) S hl b0 b1 b2 b3 g 0 16384 F y w hT hR (hB _ _ _ _ rfl) hF hg)
  | bytes => exact callFunc_of _ (fun _ _ => by kernel_rfl) _ _ _ _ (paSmallG_any .bytes .N rfl (by decide) eS (by decide) (fun _ => rfl) S hl b0 b1 b2 b3 g 1 8 F y w hT hR (hB _ _ _ _ rfl) hF hg)
  | number => exact callFunc_of _ (fun _ _ => by kernel_rfl) _ _ _ _ (paNumG_any S hl g y w hT hR hg)
  | sign => exact callFunc_of _ (fun _ _ => by kernel_rfl) _ _ _ _ (paSignG_any S g y w (hy rfl) hg)
theorem pag_do {f : Fk} {c0 c1 c2 c3 c4 : Value} {F : Foot} {S : List UInt8} {y : Ins} {w : World} {g : Nat} (hE : FieldE w F [c0, c1, c2, c3, c4] f) (hf : f.ok) (hl : S.length ≤ 2097152) (hF : ¬ F g) (hT : ∀ W, Only g w W → Tabs W) (hR : Errs w) (hy : f = .sign → y.imm = 0) (hg : Has w g 24 (insC y).toArray) :
    Do c4 #[ptr g, .string ⟨S.toArray⟩] w (PaG f S w g y) := by
  obtain ⟨d0, d1, d2, d3, d4, hcs, hD⟩ := pag_does hE hf hl hF hT hR hy hg
  cases hcs
  obtain ⟨b0, b1, b2, b3, hc, _⟩ := hE
  obtain ⟨fn, cap, h⟩ := cPa_clos f b3 b0
  have hc4 : c4 = cPa f b3 b0 := by injection hc with _ hc; injection hc with _ hc; injection hc with _ hc; injection hc with _ hc; injection hc
  exact do_of (hc4.trans h) hD
end codeW
end Go.Proofs.YtbopooanmpcepaaGreatDoor

namespace Go.Bus.codeK
open Go.Lib Go.Bus.hexK
set_option linter.unusedVariables false
theorem split_any : ∀ (n : Nat) (S : List UInt8), S.length ≤ n → ∃ a l, splitK [32] 0 (count S [32]) S = a :: l ∧ S = a ++ l.flatMap (32 :: ·) ∧ a.length ≤ S.length ∧ (∀ x ∈ l, x.length ≤ S.length) ∧ l.length ≤ S.length := by
  intro n
  induction n with
  | zero =>
    intro S hS
    obtain rfl := List.eq_nil_of_length_eq_zero (by omega : S.length = 0)
    exact ⟨[], [], by decide, rfl, Nat.le_refl _, (fun x hx => by cases hx), Nat.le_refl _⟩
  | succ n ih =>
    intro S hS
    rcases index_spec S [32] with ⟨hi, _⟩ | ⟨i, hi, hle, ho, _⟩
    · exact ⟨S, [], by rw [count_miss hi]; rfl, by simp, Nat.le_refl _, (fun x hx => by cases hx), Nat.zero_le _⟩
    · have h1 := occAt_head (c := 32) (t := []) rfl ho
      have hlt : i < S.length := by
        rcases Nat.lt_or_ge i S.length with h | h
        · exact h
        · rw [List.getElem?_eq_none h] at h1; cases h1
      have hS2 : S = S.take i ++ 32 :: S.drop (i + 1) := by
        have h2 : S.drop i = S[i] :: S.drop (i + 1) := List.drop_eq_getElem_cons hlt
        have h3 : S[i] = 32 := by rw [List.getElem?_eq_getElem hlt] at h1; exact Option.some.inj h1
        rw [h3] at h2
        rw [← h2, List.take_append_drop]
      obtain ⟨a, l, h4, h5, h6, h7, h8⟩ := ih (S.drop (i + 1)) (by rw [List.length_drop]; omega)
      rw [List.length_drop] at h6 h7 h8
      refine ⟨S.take i, a :: l, ?_, ?_, by rw [List.length_take]; omega, ?_, by rw [List.length_cons]; omega⟩
      · rw [count_hit (by simp) hi, Nat.add_comm, splitK]
        have hm : ¬ (index S [32] == -1) = true := by rw [hi]; simp
        rw [if_neg hm, hi]
        simp only [Int.toNat_natCast, Nat.add_zero, List.length_cons, List.length_nil, Nat.zero_add]
        rw [h4]
      · rw [List.flatMap_cons, List.cons_append, ← h5, ← hS2]
      · intro x hx
        rcases List.mem_cons.1 hx with rfl | hx
        · omega
        · have := h7 x hx; omega
theorem splitB_any {S a : List UInt8} {l : List (List UInt8)} (h : splitK [32] 0 (count S [32]) S = a :: l) : splitB ⟨#[32]⟩ 0 (countB ⟨S.toArray⟩ ⟨#[32]⟩) ⟨S.toArray⟩ = (a :: l).map fun t => ⟨t.toArray⟩ := by
  have h1 := splitB_data ⟨#[32]⟩ 0 (countB ⟨S.toArray⟩ ⟨#[32]⟩) ⟨S.toArray⟩
  have h2 : splitK (⟨#[32]⟩ : ByteArray).data.toList 0 (countB ⟨S.toArray⟩ ⟨#[32]⟩) (⟨S.toArray⟩ : ByteArray).data.toList = a :: l := h
  rw [h2] at h1
  rw [← h1, List.map_map]
  have h3 : ((fun t : List UInt8 => (⟨t.toArray⟩ : ByteArray)) ∘ fun x : ByteArray => x.data.toList) = id := by
    funext x; apply ByteArray.ext; simp
  rw [h3, List.map_id]
theorem fields_apart {op : Int} {fs : List Fk} (h : fieldsOf op = some fs) : (fs.map Fk.wh).Nodup := by
  obtain ⟨k, hk, hk20, hf⟩ := fields_cases h
  have h2 : fieldsN k = some fs := by
    unfold fieldsOf at h
    rw [if_pos (by omega), hk] at h
    exact h
  have hcs : k = 0 ∨ k = 1 ∨ k = 2 ∨ k = 3 ∨ k = 4 ∨ k = 5 ∨ k = 6 ∨ k = 7 ∨ k = 8 ∨ k = 9 ∨ k = 10 ∨ k = 11 ∨ k = 12 ∨ k = 13 ∨ k = 14 ∨ k = 15 ∨ k = 16 ∨ k = 17 ∨ k = 18 ∨ k = 19 := by omega
  rcases hcs with rfl | rfl | rfl | rfl | rfl | rfl | rfl | rfl | rfl | rfl | rfl | rfl | rfl | rfl | rfl | rfl | rfl | rfl | rfl | rfl <;> (
    simp only [fieldsN, Option.some.injEq] at h2
    subst h2
    simp [reg, other, slot, start, shift, width, Fk.wh])
theorem wh_ne {op : Int} {fs : List Fk} (h : fieldsOf op = some fs) {i j : Nat} (hi : i < fs.length) (hj : j < fs.length) (hij : i ≠ j) : fs[i].wh ≠ fs[j].wh := by
  intro e
  have hn := fields_apart h
  have key : ∀ a b : Nat, (ha : a < fs.length) → (hb : b < fs.length) → a < b → fs[a].wh = fs[b].wh → False := by
    intro a b ha hb hab e
    have h1 := List.pairwise_iff_getElem.1 hn a b (by simpa using ha) (by simpa using hb) hab
    simp only [List.getElem_map] at h1
    exact h1 e
  rcases Nat.lt_or_ge i j with hl | hl
  · exact key i j hi hj hl e
  · exact key j i hj hi (by omega) e.symm
theorem at_put (y : Ins) (h : Wh) (v : Int) : (y.put h v).at_ h = v := by cases h <;> rfl
theorem at_put_ne (y : Ins) {h k : Wh} (v : Int) (e : k ≠ h) : (y.put h v).at_ k = y.at_ k := by cases h <;> cases k <;> first | exact absurd rfl e | rfl
end Go.Bus.codeK

namespace Go.Proofs.YtbopooanmpcepaaGreatDoor
open Go.RowKit Go.Bus Go.Bus.cellK Go.Bus.codeK Go.Bus.hexK
set_option linter.unusedVariables false
set_option linter.unusedSimpArgs false
namespace codeW
def zeroV : Value := .agg #[.int .i64 0, .int .i64 0, .int .i64 0, .int .i64 0, .int .u64 0]
/-- Which error a text bears that is no line. -/
def noOf (a : List UInt8) (no : Int) : Prop := (no = 4 ∧ ∃ k, k < 20 ∧ a = nameN k) ∨ (no = 20 ∧ ∀ k, k < 20 → a ≠ nameN k)
def ParG (S : List UInt8) (w : World) (e : Ending) (w' : World) : Prop := Below w.heap.size w w' ∧ ((∃ y : Ins, y.Ok ∧ rightB y = true ∧ lineI y = S ∧ e = .returned (.tuple #[.agg (insC y).toArray, .nilIface])) ∨ ∃ no : Int, e = .returned (.tuple #[zeroV, .iface 46 (.int .i64 no)]) ∧ ∃ a l, Lib.splitK [32] 0 (Lib.count S [32]) S = a :: l ∧ noOf a no)
theorem ParG.bad {S a : List UInt8} {l : List (List UInt8)} {w w' : World} {no : Int} (hB : Below w.heap.size w w') (hs : Lib.splitK [32] 0 (Lib.count S [32]) S = a :: l) (hn : noOf a no) : ParG S w (.returned (.tuple #[.agg #[.int .i64 0, .int .i64 0, .int .i64 0, .int .i64 0, .int .u64 0], .iface 46 (.int .i64 no)])) w' := ⟨hB, .inr ⟨no, rfl, a, l, hs, hn⟩⟩
theorem split_gen {S a : List UInt8} {l : List (List UInt8)} (hs : Lib.splitK [32] 0 (Lib.count S [32]) S = a :: l) (hl : S.length ≤ 2097152) (w : World) (hM : Mx w) : Calls Tryz.prog 24 #[.string ⟨S.toArray⟩, .string ⟨#[32]⟩] w fun e w' => e = .returned (.slice (some ⟨w.heap.size, 0, none⟩) (l.length + 1) (l.length + 1)) ∧ w'.cell? ⟨w.heap.size, 0, none⟩ = some (.string ⟨a.toArray⟩) ∧ (∀ j (h : j < l.length), w'.cell? ⟨w.heap.size, j + 1, none⟩ = some (.string ⟨l[j].toArray⟩)) ∧ w.heap.size < w'.heap.size ∧ Below w.heap.size w w' := by
  obtain ⟨m, hm⟩ := hM
  have hc := Any.strings_Split { Tryz.laysM146 with } Tryz.laysM146.i9 ⟨S.toArray⟩ ⟨#[32]⟩ m w (by show S.toArray.size < _; simp; omega) hm (by decide)
  have hsp := splitB_any hs
  have hln := Lib.splitB_all ⟨#[32]⟩ (by decide) 0 _ ⟨S.toArray⟩ rfl
  rw [hsp] at hc hln
  refine Calls.mono (show Calls Tryz.prog 24 #[.string ⟨S.toArray⟩, .string ⟨#[32]⟩] w _ from hc) ?_
  rintro e w' ⟨rfl, rfl⟩
  rw [← hln]
  rw [List.length_map, List.length_cons]
  refine ⟨rfl, ?_, fun j hj => ?_, by simp, (Below.refl _ _).alloc (Nat.le_refl _) _⟩
  · rw [(Has.new w _ _).cell 0]; rfl
  · rw [(Has.new w _ _).cell (j + 1)]; simp [hj]
theorem fieldsOf_some {j : Nat} (h : j < 20) : ∃ fs, fieldsOf (j : Int) = some fs := by
  have key : ∀ j : Fin 20, (fieldsN j.val).isSome = true := by decide
  have h1 := key ⟨j, h⟩
  have h2 : fieldsOf (j : Int) = fieldsN j := by unfold fieldsOf; rw [if_pos (by omega)]; rfl
  rw [h2]
  exact Option.isSome_iff_exists.1 h1
theorem put_ok {y : Ins} (hy : y.Ok) {h : Wh} {v : Int} (hv : wok h v) : (y.put h v).Ok := by
  cases h with
  | A => exact ⟨hy.op, hv, hy.b, hy.n, hy.imm⟩
  | B => exact ⟨hy.op, hy.a, hv, hy.n, hy.imm⟩
  | N => exact ⟨hy.op, hy.a, hy.b, hv, hy.imm⟩
  | I => exact ⟨hy.op, hy.a, hy.b, hy.n, hv⟩
theorem put_op (y : Ins) (h : Wh) (v : Int) : (y.put h v).op = y.op := by cases h <;> rfl
/-- The fields read so far. -/
def Got1 (fs : List Fk) (l : List (List UInt8)) (i : Nat) (k : Int) (y : Ins) : Prop := y.op = k ∧ y.Ok ∧ (∀ j (h : j < fs.length) (h2 : j < l.length), j < i → l[j] = txtF fs[j] y) ∧ ((∀ j (h : j < fs.length), j < i → fs[j].wh ≠ .I) → y.imm = 0)
theorem Got1.start {fs : List Fk} {l : List (List UInt8)} {k : Nat} (hk : k < 20) : Got1 fs l 0 k (zero k) :=
  ⟨rfl, ⟨⟨by show (-9223372036854775808 : Int) ≤ (k : Int); omega, by show (k : Int) ≤ 9223372036854775807; omega⟩, (by show (-9223372036854775808 : Int) ≤ 0 ∧ (0 : Int) ≤ 9223372036854775807; decide), (by show (-9223372036854775808 : Int) ≤ 0 ∧ (0 : Int) ≤ 9223372036854775807; decide), (by show (-9223372036854775808 : Int) ≤ 0 ∧ (0 : Int) ≤ 9223372036854775807; decide), (by show (0 : Int) ≤ 0 ∧ (0 : Int) < 18446744073709551616; decide)⟩, fun j _ _ h => absurd h (Nat.not_lt_zero _), fun _ => rfl⟩
theorem Got1.step {op k : Int} {fs : List Fk} {l : List (List UInt8)} {i : Nat} {y : Ins} (hf : fieldsOf op = some fs) (h : Got1 fs l i k y) (hi : i < fs.length) (hi2 : i < l.length) {v : Int} (hv : wok fs[i].wh v) (hS : l[i] = ptx fs[i] v) : Got1 fs l (i + 1) k (y.put fs[i].wh v) := by
  obtain ⟨h1, h2, h3, h4⟩ := h
  refine ⟨by rw [put_op]; exact h1, put_ok h2 hv, fun j hj hj2 hji => ?_, fun hno => ?_⟩
  · rw [txt_ptx]
    by_cases e : j = i
    · subst e; rw [at_put]; exact hS
    · rw [at_put_ne _ _ (wh_ne hf hj hi e), ← txt_ptx]; exact h3 j hj hj2 (by omega)
  · have h5 := h4 (fun j hj hji => hno j hj (by omega))
    have h6 := hno i hi (by omega)
    revert h6
    generalize fs[i].wh = u
    intro h6
    cases u with
    | A => exact h5
    | B => exact h5
    | N => exact h5
    | I => exact absurd rfl h6
theorem Got1.sign {op k : Int} {fs : List Fk} {l : List (List UInt8)} {i : Nat} {y : Ins} (hf : fieldsOf op = some fs) (h : Got1 fs l i k y) (hi : i < fs.length) (hs : fs[i] = .sign) : y.imm = 0 :=
  h.2.2.2 fun j hj hji e => wh_ne hf hj hi (by omega) (by rw [e, hs]; rfl)
theorem Got1.line {S a : List UInt8} {l : List (List UInt8)} {fs : List Fk} {k : Nat} {y : Ins} (hS : S = a ++ l.flatMap (32 :: ·)) (ha : a = nameN k) (hf : fieldsOf (k : Int) = some fs) (hl : l.length = fs.length) (h : Got1 fs l fs.length (k : Int) y) : lineI y = S := by
  obtain ⟨h1, _, h3, _⟩ := h
  have e : l = fs.map (txtF · y) := by
    apply List.ext_getElem (by simp [hl])
    intro j hj hj2
    rw [h3 j (by simpa using hj2) hj (by simpa using hj2)]
    simp
  unfold lineI lineF
  rw [h1, hf, hS, ha, e, List.flatMap_map]
  rfl
set_option maxRecDepth 100000 in
set_option maxHeartbeats 1000000 in
theorem parse_gen {S : List UInt8} (w : World) (hl : S.length ≤ 2097152) (hT : Tabs w) (hS : Sp w) (hM : Mx w) (hE : Errs w) : Calls Tryz.prog 10 #[.string ⟨S.toArray⟩] w (ParG S w) := by
  obtain ⟨a, l, hsp, hjoin, hal, hll, hlen⟩ := split_any _ S (Nat.le_refl _)
  have HSP := Lib.hid hsp
  have HJN := Lib.hid hjoin
  have HT := Lib.hid hT
  have HS := Lib.hid hS
  have HER := Lib.hid hE
  have HLL : Hid (∀ x ∈ l, x.length ≤ 2097152) := Lib.hid (fun x hx => Nat.le_trans (hll x hx) hl)
  have HSPL := Lib.hid (fun (W : World) (hb : Below w.heap.size w W) => split_gen hsp hl W (hM.at_below hb))
  obtain ⟨SB, hSB⟩ : ∃ SB : ByteArray, SB = ⟨S.toArray⟩ := ⟨_, rfl⟩
  rw [← hSB] at HSPL ⊢
  have hlen2 : l.length ≤ 2097152 := Nat.le_trans hlen hl
  clear hT hS hM hE hl hSB hsp hjoin hal hll hlen
  go_enter Tryz.func10, Tryz.ntmps10
  go_wp2_with (first
    | (go_at_call 24; refine (HSPL.out _ ((Below.refl _ _).alloc (Nat.le_refl _) _)).mono ?_; rintro e w1 ⟨rfl, hw0, hwj, hz1, hb1⟩; have hj1 : Has w1 w.heap.size 24 #[.int .i64 0, .int .i64 0, .int .i64 0, .int .i64 0, .int .u64 0] := (Has.new w _ _).below hb1 (by simp); have HJ1 := Lib.hid hj1; have HW0 := Lib.hid hw0; have HWJ := Lib.hid hwj; have HB1 : Hid (Below w.heap.size w w1) := Lib.hid (((Below.refl _ _).alloc (Nat.le_refl _) _).trans (hb1.mono (by simp))); clear hb1 hj1 hw0 hwj)
    | (go_at_call 17; refine (fields_any _ (HS.out.at_below HB1.out)).mono ?_; rintro e w2 ⟨rfl, hcl, hz2, hb2⟩; have HCL := Lib.hid hcl; have HB2 := Lib.hid hb2; clear hcl hb2))
  obtain ⟨T0, hT0⟩ : ∃ T0 : ByteArray, T0 = ⟨a.toArray⟩ := ⟨_, rfl⟩
  have HT0 := Lib.hid hT0
  have hzw : w.heap.size + 1 < w1.heap.size := by simpa using hz1
  have w00 : w2.cell? ⟨w.heap.size + 1, 0, none⟩ = some (.string T0) := (HB2.out.cell (p := ⟨w.heap.size + 1, 0, none⟩) hzw).trans (by have := HW0.out; rw [← hT0] at this; simpa using this)
  have HW2 : Hid (∀ j (h : j < l.length), w2.cell? ⟨w.heap.size + 1, j + 1, none⟩ = some (.string ⟨l[j].toArray⟩)) := Lib.hid (fun j h => (HB2.out.cell (p := ⟨w.heap.size + 1, j + 1, none⟩) hzw).trans (by have := HWJ.out j h; simpa using this))
  have hzw2 : w.heap.size + 1 < w2.heap.size := Nat.lt_of_lt_of_le hzw HB2.out.size
  have hzj2 : w.heap.size < w2.heap.size := Nat.lt_trans (Nat.lt_succ_self _) hzw2
  have HBW : Hid (Below w.heap.size w w2) := Lib.hid (HB1.out.trans (HB2.out.mono (by omega)))
  have HJ2 : Hid (Has w2 w.heap.size 24 #[.int .i64 0, .int .i64 0, .int .i64 0, .int .i64 0, .int .u64 0]) := Lib.hid (HJ1.out.below HB2.out (by omega))
  have hd0 : decide ((0 : Nat) < l.length + 1) = true := by simp
  clear hT0 hz1
  go_loop [17] (fun i => ∃ j : Nat, j ≤ 20 ∧ i = .int .i64 (j : Nat) ∧ Hid (∀ k, k < j → a ≠ nameN k)) (fun i => 20 - (intOf i).toNat)
  case atStart => exact ⟨0, Nat.zero_le _, rfl, Lib.hid (fun k h => absurd h (Nat.not_lt_zero _))⟩
  case round =>
    obtain ⟨j, hj, rfl, HNO⟩ := hrel
    by_cases hj20n : j < 20
    · have hj20 : (j : Int) < 20 := by omega
      obtain ⟨N, hN⟩ : ∃ N : ByteArray, N = ⟨(nameN j).toArray⟩ := ⟨_, rfl⟩
      have n5 : w2.cell? ⟨w1.heap.size, j, none⟩ = some (.string N) := by rw [hN]; exact HCL.out j hj20n
      by_cases hjk : a = nameN j
      · have hee : (N.toList == T0.toList) = true := by rw [hN, HT0.out, hjk]; simp
        have HA := Lib.hid hjk
        have HNN : Hid (noOf a 4) := Lib.hid (.inl ⟨rfl, j, hj20n, hjk⟩)
        obtain ⟨fs, hfs⟩ : ∃ fs, fieldsOf (j : Int) = some fs := fieldsOf_some hj20n
        have HFS := Lib.hid hfs
        have hfl := fields_len hfs
        have HFO := Lib.hid (fields_ok hfs)
        have HJ20 := Lib.hid hj20n
        clear hN hjk hfs
        by_cases hlf : l.length = fs.length
        · have HLF := Lib.hid hlf
          have hdl : ((l.length : Int) == fs.length) = true := by simp; omega
          have hdn : ((l.length : Int) != fs.length) = false := by simp; omega
          clear hlf
          go_wp2_with (first
            | (go_at_call 14; refine (made_any _).mono ?_; rintro e w3 ⟨mv, rfl, hM, hB⟩; have HM := Lib.hid (hM.keep (F' := Old w3.heap.size) (fun b hb => hb.2) (fun _ _ => rfl)); have HB3 := Lib.hid hB; clear hM hB)
            | (go_at_call 16; refine (of_yes _ HM.out HFS.out).mono ?_; rintro e w4 ⟨v4, rfl, hS4, hB4, hO4⟩; obtain ⟨A4, cap4, rfl, hc4, hm4⟩ := hS4.form; have HM4 := Lib.hid (HM.out.old hB4); have HS4 := Lib.hid hS4; have HB4 := Lib.hid (HB3.out.trans (hB4.mono HB3.out.size)); clear hS4 hB4 hO4 hm4))
          have hz4 : w2.heap.size ≤ w4.heap.size := HB4.out.size
          have hzw4 : w.heap.size + 1 < w4.heap.size := Nat.lt_of_lt_of_le hzw2 hz4
          have HW4 : Hid (∀ i (h : i < l.length), w4.cell? ⟨w.heap.size + 1, i + 1, none⟩ = some (.string ⟨l[i].toArray⟩)) := Lib.hid (fun i h => (HB4.out.cell (p := ⟨w.heap.size + 1, i + 1, none⟩) hzw2).trans (HW2.out i h))
          have HJ4 := Lib.hid (HJ2.out.below HB4.out hzj2)
          have HBW4 : Hid (Below w.heap.size w w4) := Lib.hid (HBW.out.trans (HB4.out.mono (by omega)))
          clear n5 hee w00 hj hj20 hj20n
          go_loopw [46] (fun iv wr => ∃ (i : Nat) (y : Ins), i ≤ fs.length ∧ iv = .int .i64 (i : Nat) ∧ Hid (Below w4.heap.size w4 wr) ∧ Hid (Has wr w4.heap.size 24 (insC y).toArray) ∧ Hid (Got1 fs l i (j : Int) y)) (fun iv _ => fs.length - (intOf iv).toNat)
          case atStart => exact ⟨0, zero (j : Int), Nat.zero_le _, rfl, Lib.hid ((Below.refl _ _).alloc (Nat.le_refl _) _), Lib.hid (Has.new w4 _ _), Lib.hid (Got1.start HJ20.out)⟩
          case round =>
            obtain ⟨i, y, hi, rfl, HBr, HGr, HGT⟩ := hrel
            have zg : w4.heap.size < wr.heap.size := HGr.out.lt
            have HBw := Lib.hid (HBW4.out.trans (HBr.out.mono (by omega)))
            by_cases hlt : i < fs.length
            · obtain ⟨fb, foff, c0, c1, c2, c3, c4, rfl, hbG, hE, g0, g1, g2, g3, g4⟩ := slk_get (HS4.out.below FieldE_mono HBr.out) hlt
              have hltl : i < l.length := by have := HLF.out; omega
              obtain ⟨f, hfk⟩ : ∃ f, f = fs[i] := ⟨_, rfl⟩
              rw [← hfk] at hE
              have hfok : f.ok := HFO.out f (by rw [hfk]; exact List.getElem_mem hlt)
              obtain ⟨fn0, cap0, fn1, cap1, fn2, cap2, fn3, cap3, fn4, cap4', rfl, rfl, rfl, rfl, rfl, hcf3, hcf4⟩ := tx_shape hE
              have zb : fb < wr.heap.size := Nat.lt_of_lt_of_le hbG HBr.out.size
              obtain ⟨T, hTe⟩ : ∃ T : ByteArray, T = ⟨l[i].toArray⟩ := ⟨_, rfl⟩
              have hHW : wr.cell? ⟨w.heap.size + 1, i + 1, none⟩ = some (.string T) := (HBr.out.cell (p := ⟨w.heap.size + 1, i + 1, none⟩) hzw4).trans (by rw [hTe]; exact HW4.out i hltl)
              have zwr : w.heap.size + 1 < wr.heap.size := by omega
              have hsum : IntKind.i64.wrap ((i : Int) + 1) = (i : Int) + 1 := IntWalk.i64_in _ ⟨by omega, by omega⟩
              have htn : ((i : Int) + 1).toNat = i + 1 := by omega
              have hlt0 : (0 : Int) ≤ (i : Int) + 1 := by omega
              have hlt1 : (i : Int) + 1 < l.length + 1 := by omega
              have hlt1n : i + 1 < l.length + 1 := by omega
              have HST : Hid (∀ v : Int, wok f.wh v → l[i] = ptx f v → Got1 fs l (i + 1) (j : Int) (y.put f.wh v)) := Lib.hid (fun v hv hS => by rw [hfk] at hv hS ⊢; exact HGT.out.step HFS.out hlt hltl hv hS)
              have HHY : Hid (f = .sign → y.imm = 0) := Lib.hid (fun e => HGT.out.sign HFS.out hlt (hfk.symm.trans e))
              have HFE := Lib.hid hE
              have HFK := Lib.hid hfok
              have HTE := Lib.hid hTe
              clear hE hfok hTe hfk hbG
              go_wp2_with fail
              obtain ⟨W5, hW5⟩ : ∃ W5, W5 = wr.alloc (.cells #[.func (.func fn0) #[] cap0, .func (.func fn1) #[] cap1, .func (.func fn2) #[] cap2, .func (.func fn3) #[] cap3, .func (.func fn4) #[] cap4'] 57) := ⟨_, rfl⟩
              rw [← hW5]
              have hB5 : Below wr.heap.size wr W5 := by rw [hW5]; exact (Below.refl _ _).alloc (Nat.le_refl _) _
              have k4 : W5.cell? ⟨wr.heap.size, 4, none⟩ = some (.func (.func fn4) #[] cap4') := by rw [hW5]; exact (Has.new wr _ _).cell 4
              have kT : W5.cell? ⟨w.heap.size + 1, i + 1, none⟩ = some (.string T) := (hB5.cell (p := ⟨w.heap.size + 1, i + 1, none⟩) zwr).trans hHW
              have z5 : wr.heap.size < W5.heap.size := by rw [hW5]; simp
              have zw5 : w.heap.size + 1 < W5.heap.size := by omega
              have hG5 : Has W5 w4.heap.size 24 (insC y).toArray := HGr.out.below hB5 zg
              have HC := Lib.hid (Do.calls (pag_do (S := l[i]) (y := y) (w := W5.drew) (g := w4.heap.size) (HFE.out.below ((hB5.drew).mono HBr.out.size)) HFK.out (HLL.out _ (List.getElem_mem hltl)) (Nat.lt_irrefl _) (fun W hW => HT.out.at_below (HBw.out.trans (((hB5.drew).mono (by omega)).trans ((hW.below).mono (by omega))))) (HER.out.at_below (HBw.out.trans ((hB5.drew).mono (by omega)))) HHY.out hG5.drew))
              rw [← HTE.out] at HC
              clear hW5
              go_still_tail 7, (by kernel_rfl)
              change wpList _ _ _ _ _ W5.drew
              go_wp2_with fail
              refine HC.out.mono ?_
              rintro e w6 ⟨b, v, rfl, hO6, hH6, hb6⟩
              have HO6 := Lib.hid hO6
              have HH6 := Lib.hid hH6
              have HV6 := Lib.hid hb6
              have HB6 : Hid (Below w4.heap.size w4 w6) := Lib.hid (HBr.out.trans (((hB5.drew).mono (Nat.le_of_lt zg)).trans HO6.out.below))
              clear hO6 hH6 hb6
              cases b with
              | true =>
                go_wp2
                go_roundw
                case rel => first | exact ⟨i + 1, y.put f.wh v, by omega, by go_num, HB6, HH6, Lib.hid (HST.out v (HV6.out trivial).1 (HV6.out trivial).2)⟩ | exact ⟨i + 1, y.put f.wh v, by omega, by go_num, HB6, HH6, Lib.hid (HST.out v (HV6.out (by simp)).1 (HV6.out (by simp)).2)⟩ | ((repeat apply Exists.intro); exact ⟨⟨i + 1, y.put f.wh v, by omega, by go_num, HB6, HH6, Lib.hid (HST.out v (HV6.out (by simp)).1 (HV6.out (by simp)).2)⟩, rfl⟩)
                case measure => simp [intOf]; omega
              | false =>
                have HJ6 := Lib.hid (HJ4.out.below HB6.out (by omega))
                have HBW6 : Hid (Below w.heap.size w w6) := Lib.hid (HBW4.out.trans (HB6.out.mono (by omega)))
                have p0 : w6.cell? ⟨w.heap.size, 0, none⟩ = some (.int .i64 0) := HJ6.out.cell 0
                have p1 : w6.cell? ⟨w.heap.size, 1, none⟩ = some (.int .i64 0) := HJ6.out.cell 1
                have p2 : w6.cell? ⟨w.heap.size, 2, none⟩ = some (.int .i64 0) := HJ6.out.cell 2
                have p3 : w6.cell? ⟨w.heap.size, 3, none⟩ = some (.int .i64 0) := HJ6.out.cell 3
                have p4 : w6.cell? ⟨w.heap.size, 4, none⟩ = some (.int .u64 0) := HJ6.out.cell 4
                have q0 := HJ6.out.frozen 0
                have q1 := HJ6.out.frozen 1
                have q2 := HJ6.out.frozen 2
                have q3 := HJ6.out.frozen 3
                have q4 := HJ6.out.frozen 4
                have zp : w.heap.size < w6.heap.size := HJ6.out.lt
                go_wp2
                refine bodyPost_ret (results_block2 (g := w.heap.size) (T := 24) rfl rfl (by exact ((((HJ6.out.set 0 _).set 1 _).set 2 _).set 3 _).set 4 _) rfl Tryz.underlying24 rfl (by kernel_rfl)) rfl ?_
                exact ParG.bad (by have := HBW6.out; exact (by repeat' (first | (with_reducible assumption) | (with_reducible refine Below.setCell ?_ ?_ _) | (with_reducible refine Below.alloc ?_ ?_ _) | (with_reducible refine Below.drew ?_) | (with_reducible refine below_drewN ?_ _) | (with_reducible exact Below.refl _ _) | (show _ ≤ _; (try simp); (try omega); done) | exact Below.refl _ _ | assumption))) HSP.out (HNN.out)
            · obtain rfl : i = fs.length := by omega
              have HMr := Lib.hid (HM4.out.old HBr.out)
              have HJr := Lib.hid (HJ4.out.below HBr.out (by omega))
              have x0 : wr.cell? ⟨w4.heap.size, 0, none⟩ = some (.int .i64 y.op) := HGr.out.cell 0
              have x1 : wr.cell? ⟨w4.heap.size, 1, none⟩ = some (.int .i64 y.a) := HGr.out.cell 1
              have x2 : wr.cell? ⟨w4.heap.size, 2, none⟩ = some (.int .i64 y.b) := HGr.out.cell 2
              have x3 : wr.cell? ⟨w4.heap.size, 3, none⟩ = some (.int .i64 y.n) := HGr.out.cell 3
              have x4 : wr.cell? ⟨w4.heap.size, 4, none⟩ = some (.int .u64 y.imm) := HGr.out.cell 4
              have HRT : Hid (Calls Tryz.prog 15 #[mv, .agg #[.int .i64 y.op, .int .i64 y.a, .int .i64 y.b, .int .i64 y.n, .int .u64 y.imm]] wr fun e w' => e = .returned (.bool (rightB y)) ∧ Below wr.heap.size wr w') := Lib.hid (right_any wr HMr.out HGT.out.2.1)
              go_wp2_with fail
              refine HRT.out.mono ?_
              rintro e w6 ⟨rfl, hB6⟩
              have HJ6 := Lib.hid (HJr.out.below hB6 (by omega))
              have hg6 := HGr.out.below hB6 zg
              have y0 : w6.cell? ⟨w4.heap.size, 0, none⟩ = some (.int .i64 y.op) := hg6.cell 0
              have y1 : w6.cell? ⟨w4.heap.size, 1, none⟩ = some (.int .i64 y.a) := hg6.cell 1
              have y2 : w6.cell? ⟨w4.heap.size, 2, none⟩ = some (.int .i64 y.b) := hg6.cell 2
              have y3 : w6.cell? ⟨w4.heap.size, 3, none⟩ = some (.int .i64 y.n) := hg6.cell 3
              have y4 : w6.cell? ⟨w4.heap.size, 4, none⟩ = some (.int .u64 y.imm) := hg6.cell 4
              have zg6 : w4.heap.size < w6.heap.size := hg6.lt
              have HBW6 : Hid (Below w.heap.size w w6) := Lib.hid (HBw.out.trans (hB6.mono HBw.out.size))
              clear hB6 hg6
              have p0 : w6.cell? ⟨w.heap.size, 0, none⟩ = some (.int .i64 0) := HJ6.out.cell 0
              have p1 : w6.cell? ⟨w.heap.size, 1, none⟩ = some (.int .i64 0) := HJ6.out.cell 1
              have p2 : w6.cell? ⟨w.heap.size, 2, none⟩ = some (.int .i64 0) := HJ6.out.cell 2
              have p3 : w6.cell? ⟨w.heap.size, 3, none⟩ = some (.int .i64 0) := HJ6.out.cell 3
              have p4 : w6.cell? ⟨w.heap.size, 4, none⟩ = some (.int .u64 0) := HJ6.out.cell 4
              have q0 := HJ6.out.frozen 0
              have q1 := HJ6.out.frozen 1
              have q2 := HJ6.out.frozen 2
              have q3 := HJ6.out.frozen 3
              have q4 := HJ6.out.frozen 4
              have zp : w.heap.size < w6.heap.size := HJ6.out.lt
              cases hr : rightB y with
              | true =>
                have HRB := Lib.hid hr
                clear hr
                go_wp2
                refine bodyPost_ret (results_block2 (g := w.heap.size) (T := 24) rfl rfl (by exact ((((HJ6.out.set 0 _).set 1 _).set 2 _).set 3 _).set 4 _) rfl Tryz.underlying24 rfl (by kernel_rfl)) rfl ?_
                exact ⟨by have := HBW6.out; exact (by repeat' (first | (with_reducible assumption) | (with_reducible refine Below.setCell ?_ ?_ _) | (with_reducible refine Below.alloc ?_ ?_ _) | (with_reducible refine Below.drew ?_) | (with_reducible refine below_drewN ?_ _) | (with_reducible exact Below.refl _ _) | (show _ ≤ _; (try simp); (try omega); done) | exact Below.refl _ _ | assumption)), .inl ⟨y, HGT.out.2.1, HRB.out, Got1.line HJN.out HA.out HFS.out HLF.out HGT.out, rfl⟩⟩
              | false =>
                clear hr
                go_wp2
                refine bodyPost_ret (results_block2 (g := w.heap.size) (T := 24) rfl rfl (by exact ((((HJ6.out.set 0 _).set 1 _).set 2 _).set 3 _).set 4 _) rfl Tryz.underlying24 rfl (by kernel_rfl)) rfl ?_
                exact ParG.bad (by have := HBW6.out; exact (by repeat' (first | (with_reducible assumption) | (with_reducible refine Below.setCell ?_ ?_ _) | (with_reducible refine Below.alloc ?_ ?_ _) | (with_reducible refine Below.drew ?_) | (with_reducible refine below_drewN ?_ _) | (with_reducible exact Below.refl _ _) | (show _ ≤ _; (try simp); (try omega); done) | exact Below.refl _ _ | assumption))) HSP.out (HNN.out)
        · have hdl : ((l.length : Int) == fs.length) = false := by simp; omega
          clear hlf
          go_wp2_with (first
            | (go_at_call 14; refine (made_any _).mono ?_; rintro e w3 ⟨mv, rfl, hM, hB⟩; have HM := Lib.hid (hM.keep (F' := Old w3.heap.size) (fun b hb => hb.2) (fun _ _ => rfl)); have HB3 := Lib.hid hB; clear hM hB)
            | (go_at_call 16; refine (of_yes _ HM.out HFS.out).mono ?_; rintro e w4 ⟨v4, rfl, hS4, hB4, hO4⟩; obtain ⟨A4, cap4, rfl, hc4, hm4⟩ := hS4.form; have HB4 := Lib.hid (HB3.out.trans (hB4.mono HB3.out.size)); have HJ4 := Lib.hid (HJ2.out.below HB4.out hzj2); have HBW4 : Hid (Below w.heap.size w w4) := Lib.hid (HBW.out.trans (HB4.out.mono (by omega))); clear hS4 hB4 hO4; have p0 : w4.cell? ⟨w.heap.size, 0, none⟩ = some (.int .i64 0) := HJ4.out.cell 0; have p1 : w4.cell? ⟨w.heap.size, 1, none⟩ = some (.int .i64 0) := HJ4.out.cell 1; have p2 : w4.cell? ⟨w.heap.size, 2, none⟩ = some (.int .i64 0) := HJ4.out.cell 2; have p3 : w4.cell? ⟨w.heap.size, 3, none⟩ = some (.int .i64 0) := HJ4.out.cell 3; have p4 : w4.cell? ⟨w.heap.size, 4, none⟩ = some (.int .u64 0) := HJ4.out.cell 4; have q0 := HJ4.out.frozen 0; have q1 := HJ4.out.frozen 1; have q2 := HJ4.out.frozen 2; have q3 := HJ4.out.frozen 3; have q4 := HJ4.out.frozen 4; have zp : w.heap.size < w4.heap.size := HJ4.out.lt))
          refine bodyPost_ret (results_block2 (g := w.heap.size) (T := 24) rfl rfl (by exact (((((HJ4.out.set 0 _).set 1 _).set 2 _).set 3 _).set 4 _).alloc _) rfl Tryz.underlying24 rfl (by kernel_rfl)) rfl ?_
          exact ParG.bad (by have := HBW4.out; exact (by repeat' (first | (with_reducible assumption) | (with_reducible refine Below.setCell ?_ ?_ _) | (with_reducible refine Below.alloc ?_ ?_ _) | (with_reducible refine Below.drew ?_) | (with_reducible refine below_drewN ?_ _) | (with_reducible exact Below.refl _ _) | (show _ ≤ _; (try simp); (try omega); done) | exact Below.refl _ _ | assumption))) HSP.out (HNN.out)
      · have hee : (N.toList == T0.toList) = false := by
          rw [hN, HT0.out]
          have hne : nameN j ≠ a := fun e => hjk e.symm
          simpa using hne
        have HNO2 : Hid (∀ k, k < j + 1 → a ≠ nameN k) := Lib.hid (fun k hk => by
          by_cases e : k = j
          · subst e; exact hjk
          · exact HNO.out k (by omega))
        clear hN hjk
        go_wp2
        go_round
        case rel => exact ⟨j + 1, by omega, by go_num, HNO2⟩
        case measure => simp [intOf]; omega
    · obtain rfl : j = 20 := by omega
      have p0 : w2.cell? ⟨w.heap.size, 0, none⟩ = some (.int .i64 0) := HJ2.out.cell 0
      have p1 : w2.cell? ⟨w.heap.size, 1, none⟩ = some (.int .i64 0) := HJ2.out.cell 1
      have p2 : w2.cell? ⟨w.heap.size, 2, none⟩ = some (.int .i64 0) := HJ2.out.cell 2
      have p3 : w2.cell? ⟨w.heap.size, 3, none⟩ = some (.int .i64 0) := HJ2.out.cell 3
      have p4 : w2.cell? ⟨w.heap.size, 4, none⟩ = some (.int .u64 0) := HJ2.out.cell 4
      have q0 := HJ2.out.frozen 0
      have q1 := HJ2.out.frozen 1
      have q2 := HJ2.out.frozen 2
      have q3 := HJ2.out.frozen 3
      have q4 := HJ2.out.frozen 4
      have zp : w.heap.size < w2.heap.size := HJ2.out.lt
      go_wp2
      refine bodyPost_ret (results_block2 (g := w.heap.size) (T := 24) rfl rfl (by exact ((((HJ2.out.set 0 _).set 1 _).set 2 _).set 3 _).set 4 _) rfl Tryz.underlying24 rfl (by kernel_rfl)) rfl ?_
      exact ParG.bad (by have := HBW.out; exact (by repeat' (first | (with_reducible assumption) | (with_reducible refine Below.setCell ?_ ?_ _) | (with_reducible refine Below.alloc ?_ ?_ _) | (with_reducible refine Below.drew ?_) | (with_reducible refine below_drewN ?_ _) | (with_reducible exact Below.refl _ _) | (show _ ≤ _; (try simp); (try omega); done) | exact Below.refl _ _ | assumption))) HSP.out (.inr ⟨rfl, HNO.out⟩)
end codeW
end Go.Proofs.YtbopooanmpcepaaGreatDoor
