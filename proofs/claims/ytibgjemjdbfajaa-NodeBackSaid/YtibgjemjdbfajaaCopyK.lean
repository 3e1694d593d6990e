/- busbarref0.CopyTexts, CopyRows, CopySignal(s), CopyMessage(s), CopyTable(s), CopyStations: copies in new memory. Condition: no list of more than 2^47 bytes. -/
import Derived.Test.YtibgjemjdbfajaaCopyS
import Derived.Test.YtibgjemjdbfajaaClone
namespace Go.Proofs.Ytibgjemjdbfajaa
open Go.RowKit Go.Bus Go.Bus.cellK Go.Bus.dbK
set_option linter.unusedVariables false
set_option linter.unusedSimpArgs false
theorem Try.infoEMsg : (Try.prog.info? 62).map (fun i => (i.zero, i.size, i.bytes)) = some (some (.agg #[.int .i64 0, .int .i64 0, .int .u32 0, .bool false, .string ByteArray.empty, .int .i64 0, .string ByteArray.empty, .slice none 0 0]), 8, 88) := by kernel_rfl
theorem Try.infoETab : (Try.prog.info? 83).map (fun i => (i.zero, i.size, i.bytes)) = some (some (.agg #[.int .i64 0, .int .i64 0, .int .u32 0, .bool false, .string ByteArray.empty, .slice none 0 0]), 6, 64) := by kernel_rfl
namespace copyK
open copyS
/-- A list made anew: R is what its elements are in new memory. -/
def ListP {α : Type} (k : Nat) (R : Rel α) (T : TypeId) (l : List α) (w : World) (e : Ending) (w' : World) : Prop := ∃ v, e = .returned v ∧ OwD k R w' (Iv w.heap.size w'.heap.size) 0 T v l ∧ Below w.heap.size w w'
/-- A struct made anew. -/
def ElemP {α : Type} (k : Nat) (R : Rel α) (x : α) (w : World) (e : Ending) (w' : World) : Prop := ∃ cs, e = .returned (.agg cs.toArray) ∧ cs.length = k ∧ (∀ u ∈ cs, u.oneCell' = true) ∧ R w' (Iv w.heap.size w'.heap.size) cs x ∧ Below w.heap.size w w'
/-- What a copying loop knows between two rounds. -/
structure Cp {α : Type} (k : Nat) (R : Rel α) (T : TypeId) (w wr : World) (v : Value) (l : List α) (xs : List Value) : Prop where
  row : OwX k R wr (Iv w.heap.size wr.heap.size) w.heap.size T v l xs
  bel : Below w.heap.size w wr
theorem Cp.start {α : Type} (k : Nat) (R : Rel α) (T : TypeId) (w : World) : Cp k R T w w (.slice none 0 0) [] [] := ⟨OwX.nil_ _ _ _ _ _ _, Below.refl _ _⟩
theorem Cp.push {α : Type} {k : Nat} {R : Rel α} {T : TypeId} {w wr w1 w2 w3 : World} {v v3 : Value} {l : List α} {xs cs : List Value} {x : α} {n m : Nat} (hR : Mono R) (h : Cp k R T w wr v l xs) (hb : Below wr.heap.size wr w1) (hq : R w1 (Iv wr.heap.size w1.heap.size) cs x) (hc : cs.length = k)
    (hb2 : Below w1.heap.size w1 w2) (ho : w3.ownsRow w.heap.size T k v3 n (xs ++ cs)) (hn : n = l.length + 1) (hg : w2.grownBy w3 v.ownBlock) (hat : v3.ownBlock = v.ownBlock ∨ v3.ownBlock = some m) (hm : w2.heap.size ≤ m) :
    Cp k R T w w3 v3 (l ++ [x]) (xs ++ cs) := by
  subst hn
  have hsz := h.bel.size
  have h1 := hb.size
  have h2 := hb2.size
  refine ⟨h.row.snoc hR (Nat.le_refl _) hsz hb hq hc hb2 hg ho ?_, ?_⟩
  · rcases hat with h3 | h3
    · exact .inl h3
    · exact .inr fun g hg' => by rw [h3] at hg'; cases hg'; exact hm
  · refine Below.grown ((h.bel.trans (hb.mono (by omega))).trans (hb2.mono (by omega))) hg (by omega) fun r hr => (h.row.1.lt r hr).1
theorem Cp.fin {α : Type} {k : Nat} {R : Rel α} {T : TypeId} {w wr : World} {v : Value} {l : List α} {xs : List Value} (h : Cp k R T w wr v l xs) : ListP k R T l w (.returned v) wr := by
  obtain ⟨⟨ho, hF, rest⟩, hb⟩ := h
  exact ⟨v, rfl, ⟨xs, own_base ho (Nat.zero_le _), hF, rest⟩, hb⟩
theorem news_new (w : World) (cs : List Value) (t : TypeId) : ∀ (j : Nat) (u : Value), cs[j]? = some u → (w.alloc (.cells cs.toArray t)).cell? ((⟨w.heap.size, 0, none⟩ : Addr).add j) = some u := by
  intro j u hj
  rw [Addr.add_mid, Nat.zero_add, (Has.new w t cs.toArray).cell j]
  simpa using hj

set_option maxRecDepth 100000 in
set_option maxHeartbeats 2000000 in
theorem copyTexts (v : Value) (l : List ByteArray) (F : Foot) (w : World) (h : SlK 1 strE w F v l) (hF : ∀ b, F b → b < w.heap.size) (hby : l.length * 16 ≤ 140737488351232) :
    Calls Try.prog 94 #[v] w (ListP 1 strE 9 l w) := by
  obtain ⟨i0, hi, hz0, hz1, hz2⟩ := info_parts Try.infoEStr
  obtain ⟨A, cap, rfl, n1, n2⟩ := h.form
  have n3 : cap ≤ 9223372036854775807 := by unfold maxLen at n2; omega
  have HV := Lib.hid (fun (w1 : World) (hb : Below w.heap.size w w1) => h.belowF strE_mono hF hb)
  clear h hF n2
  go_enter Try.func94, Try.ntmps94
  go_wp2
  go_loopw [3, 4] (fun o i wr => ∃ (k : Nat) (xs : List Value), i = .int .i64 k ∧ k ≤ l.length ∧ Hid (Cp 1 strE 9 w wr o (l.take k) xs)) (fun _ i _ => l.length - (intOf i).toNat)
  case atStart => exact ⟨0, [], rfl, Nat.zero_le _, Cp.start _ _ _ _⟩
  case round =>
    obtain ⟨k, xs, rfl, hk, HC⟩ := hrel
    by_cases hlt : k < l.length
    · obtain ⟨b, off, cs, hA, _, hcl, hr, he⟩ := (HV.out _ HC.out.bel).at_ hlt
      subst hA
      have hts := take_snoc l k hlt
      generalize l[k] = x at *
      have hcx : cs = [.string x] := he
      subst hcx
      have c0 : wr.cell? ⟨b, off + k, none⟩ = some (.string x) := by have := hr 0 _ rfl; rwa [Nat.mul_one] at this
      have HTS := Lib.hid hts
      have hln : (l.take k).length = k := by rw [List.length_take]; omega
      have HLN := Lib.hid hln
      clear hr he hcl hts hln
      have hsz := HC.out.bel.size
      go_wp2_with (at_builtin; refine wpList_append_own_at _ rfl _ _ 26 rfl w.heap.size 9 i0 (.string ByteArray.empty) 1 16 Try.underlying26 hi hz0 hz1 hz2 rfl (by decide) _ (l.take k).length xs rfl (HC.out.row.1.alloc _) ⟨wr.heap.size, 0, none⟩ 1 1 ([.string x]) rfl rfl (news_new wr _ _) (by intro u hu; simp [strE] at hu; subst hu; rfl) (by have := HLN.out; unfold maxLen; omega) (by have := HLN.out; omega) (by simp; omega) ?_)
      intro v3 w3 ho3 hg3 _ hat3
      have hc3 := HC.out.push (x := x) strE_mono (Below.refl _ _) rfl rfl ((Below.refl _ _).alloc (Nat.le_refl _) _) ho3 (by rw [HLN.out]) hg3 hat3 (by simp)
      rw [← HTS.out] at hc3
      have HC3 := Lib.hid hc3
      clear hc3 ho3 hg3 hat3 HC
      go_wp2
      go_roundw
      case rel => exact ⟨k + 1, _, by go_num, by omega, HC3⟩
      case measure => simp [intOf]; omega
    · obtain rfl : k = l.length := by omega
      have hc := HC.out
      rw [List.take_of_length_le (Nat.le_refl _)] at hc
      have HC2 := Lib.hid hc
      clear hc HC
      go_wp2
      go_ret
      exact HC2.out.fin

set_option maxRecDepth 100000 in
set_option maxHeartbeats 2000000 in
theorem copyRows (v : Value) (l : List RowD) (F : Foot) (w : World) (h : SlK 2 rowE w F v l) (hF : ∀ b, F b → b < w.heap.size) (hby : l.length * 24 ≤ 140737488351232) :
    Calls Try.prog 100 #[v] w (ListP 2 rowE 129 l w) := by
  obtain ⟨i0, hi, hz0, hz1, hz2⟩ := info_parts Try.infoERow
  obtain ⟨A, cap, rfl, n1, n2⟩ := h.form
  have n3 : cap ≤ 9223372036854775807 := by unfold maxLen at n2; omega
  have HV := Lib.hid (fun (w1 : World) (hb : Below w.heap.size w w1) => h.belowF rowE_mono hF hb)
  clear h hF n2
  go_enter Try.func100, Try.ntmps100
  go_wp2
  go_loopw [3, 4] (fun o i wr => ∃ (k : Nat) (xs : List Value), i = .int .i64 k ∧ k ≤ l.length ∧ Hid (Cp 2 rowE 129 w wr o (l.take k) xs)) (fun _ i _ => l.length - (intOf i).toNat)
  case atStart => exact ⟨0, [], rfl, Nat.zero_le _, Cp.start _ _ _ _⟩
  case round =>
    obtain ⟨k, xs, rfl, hk, HC⟩ := hrel
    by_cases hlt : k < l.length
    · obtain ⟨b, off, cs, hA, _, hcl, hr, he⟩ := (HV.out _ HC.out.bel).at_ hlt
      subst hA
      have hts := take_snoc l k hlt
      generalize l[k] = x at *
      have hcx : cs = rowCells x := he
      subst hcx
      have c0 : wr.cell? ⟨b, off + k * 2, none⟩ = some (.int .i64 x.val) := hr 0 _ rfl
      have c1 : wr.cell? ⟨b, off + k * 2 + 1, none⟩ = some (.string x.text) := hr 1 _ rfl
      have HTS := Lib.hid hts
      have hln : (l.take k).length = k := by rw [List.length_take]; omega
      have HLN := Lib.hid hln
      clear hr he hcl hts hln
      have hsz := HC.out.bel.size
      go_wp2_with (at_builtin; refine wpList_append_own_at _ rfl _ _ 81 rfl w.heap.size 129 i0 (.agg #[.int .i64 0, .string ByteArray.empty]) 2 24 Try.underlying81 hi hz0 hz1 hz2 rfl (by decide) _ (l.take k).length xs rfl (HC.out.row.1.alloc _) ⟨wr.heap.size, 0, none⟩ 1 1 (rowCells x) rfl rfl (news_new wr _ _) (by intro u hu; simp [rowCells] at hu; rcases hu with rfl | rfl <;> rfl) (by have := HLN.out; unfold maxLen; omega) (by have := HLN.out; omega) (by simp; omega) ?_)
      intro v3 w3 ho3 hg3 _ hat3
      have hc3 := HC.out.push (x := x) rowE_mono (Below.refl _ _) rfl rfl ((Below.refl _ _).alloc (Nat.le_refl _) _) ho3 (by rw [HLN.out]) hg3 hat3 (by simp)
      rw [← HTS.out] at hc3
      have HC3 := Lib.hid hc3
      clear hc3 ho3 hg3 hat3 HC
      go_wp2
      go_roundw
      case rel => exact ⟨k + 1, _, by go_num, by omega, HC3⟩
      case measure => simp [intOf]; omega
    · obtain rfl : k = l.length := by omega
      have hc := HC.out
      rw [List.take_of_length_le (Nat.le_refl _)] at hc
      have HC2 := Lib.hid hc
      clear hc HC
      go_wp2
      go_ret
      exact HC2.out.fin

theorem fold_get : ∀ (cs : List Value) (k : Nat) (Z : Array Value) (i : Nat), (List.foldl (fun (c : Array Value) (x : Value × Nat) => c.setIfInBounds x.2 x.1) Z (cs.zipIdx k))[i]? = if k ≤ i ∧ i < k + cs.length ∧ i < Z.size then cs[i - k]? else Z[i]?
  | [], k, Z, i => by
    simp only [List.zipIdx_nil, List.foldl_nil, List.length_nil]
    rw [if_neg (by omega)]
  | c :: cs, k, Z, i => by
    simp only [List.zipIdx_cons, List.foldl_cons]
    rw [fold_get cs (k + 1) _ i, Array.size_setIfInBounds, Array.getElem?_setIfInBounds]
    by_cases h1 : k + 1 ≤ i ∧ i < k + 1 + cs.length ∧ i < Z.size
    · rw [if_pos h1, if_pos (by simp; omega), show i - k = (i - (k + 1)) + 1 by omega, List.getElem?_cons_succ]
    · rw [if_neg h1]
      by_cases h2 : k = i
      · subst h2
        by_cases h3 : k < Z.size
        · rw [if_pos rfl, if_pos h3, if_pos (by simp; omega), Nat.sub_self]; rfl
        · rw [if_pos rfl, if_neg h3, if_neg (by omega), Array.getElem?_eq_none (by omega)]
      · rw [if_neg h2, if_neg (by simp; omega)]
theorem fold_all (Z : Array Value) (cs : List Value) (h : Z.size = cs.length) : List.foldl (fun (c : Array Value) (x : Value × Nat) => c.setIfInBounds x.2 x.1) Z cs.zipIdx = cs.toArray := by
  apply Array.ext_getElem?
  intro i
  rw [fold_get cs 0 Z i]
  split
  · simp
  · rename_i hn
    have : ¬ i < Z.size := fun hh => hn ⟨Nat.zero_le _, by omega, hh⟩
    rw [Array.getElem?_eq_none (by omega), Array.getElem?_eq_none (by simp; omega)]
theorem news_new1 (w : World) (o : Obj) (cs : List Value) (t : TypeId) : ∀ (j : Nat) (u : Value), cs[j]? = some u → ((w.alloc o).alloc (.cells cs.toArray t)).cell? ((⟨w.heap.size + 1, 0, none⟩ : Addr).add j) = some u := by
  have := news_new (w.alloc o) cs t
  simpa using this

theorem copySignal (x : Sig) (cs : List Value) (F : Foot) (w : World) (h : sigE w F cs x) (hF : ∀ b, F b → b < w.heap.size) (hto : x.to.length * 16 ≤ 140737488351232) :
    Calls Try.prog 101 #[.agg cs.toArray] w (ElemP 19 (sigO 9) x w) := by
  obtain ⟨v, rfl, hv⟩ := h
  obtain ⟨A0, c0, hA0, _, _⟩ := hv.form
  refine (copyS.copySignal (sigCells x v).toArray v w (fun W v' w' => OwD 1 strE w' (Iv W.heap.size w'.heap.size) 0 9 v' x.to) rfl (by subst hA0; simp [sigCells, Value.oneCell']) rfl (fun W hW hWs => (copyTexts v x.to F W (hv.belowF strE_mono hF hW) (fun b hb => Nat.lt_of_lt_of_le (hF b hb) hW.size) hto).mono ?_)).mono ?_
  · rintro e w' ⟨v', rfl, ho, hb⟩
    obtain ⟨A, c, rfl, _, _⟩ := (ho.sl strE_mono).form
    exact ⟨A, _, c, rfl, ho, hb⟩
  · rintro e w' ⟨W, w1, v', rfl, hW, hWs, ho, hb1, hk, hs, hB⟩
    obtain ⟨A, c, hv', _, _⟩ := (ho.sl strE_mono).form
    refine ⟨sigCells x v', rfl, rfl, ?_, ⟨v', rfl, ho.keep strE_mono (fun b hb => ⟨by have := hb.1; omega, by rw [← hs]; exact hb.2⟩) fun b hb => hk b hb.1⟩, hB⟩
    intro u hu
    subst hv'
    simp only [sigCells, List.mem_cons, List.not_mem_nil, or_false] at hu
    rcases hu with rfl | rfl | rfl | rfl | rfl | rfl | rfl | rfl | rfl | rfl | rfl | rfl | rfl | rfl | rfl | rfl | rfl | rfl | rfl <;> rfl

set_option maxRecDepth 100000 in
set_option maxHeartbeats 2000000 in
theorem copySignals (v : Value) (l : List Sig) (F : Foot) (w : World) (h : SlK 19 sigE w F v l) (hF : ∀ b, F b → b < w.heap.size) (hby : l.length * 176 ≤ 140737488351232) (hok : ∀ x ∈ l, x.to.length * 16 ≤ 140737488351232) :
    Calls Try.prog 99 #[v] w (ListP 19 (sigO 9) 126 l w) := by
  obtain ⟨i0, hi, hz0, hz1, hz2⟩ := info_parts Try.infoESig
  obtain ⟨A, cap, rfl, n1, n2⟩ := h.form
  have n3 : cap ≤ 9223372036854775807 := by unfold maxLen at n2; omega
  have HV := Lib.hid (fun (w1 : World) (hb : Below w.heap.size w w1) => h.belowF sigE_mono hF hb)
  have HI := Lib.hid (show (Try.prog.info? 126).map (·.size) = some 19 by kernel_rfl)
  have HF := Lib.hid hF; have HOK := Lib.hid hok
  clear h hF n2 hok
  go_enter Try.func99, Try.ntmps99
  go_wp2
  go_loopw [3, 4] (fun o i wr => ∃ (k : Nat) (xs : List Value), i = .int .i64 k ∧ k ≤ l.length ∧ Hid (Cp 19 (sigO 9) 126 w wr o (l.take k) xs)) (fun _ i _ => l.length - (intOf i).toNat)
  case atStart => exact ⟨0, [], rfl, Nat.zero_le _, Cp.start _ _ _ _⟩
  case round =>
    obtain ⟨k, xs, rfl, hk, HC⟩ := hrel
    by_cases hlt : k < l.length
    · obtain ⟨b, off, cs, hA, _, hcl, hr, he⟩ := (HV.out _ HC.out.bel).at_ hlt
      subst hA
      have hts := take_snoc l k hlt
      have hmem : l[k] ∈ l := List.getElem_mem hlt
      generalize l[k] = x at *
      have HTS := Lib.hid hts
      have hln : (l.take k).length = k := by rw [List.length_take]; omega
      have HLN := Lib.hid hln; have HR := Lib.hid hr; have HE := Lib.hid he; have HMEM := Lib.hid hmem
      have HCL := Lib.hid (show some 19 = some cs.length by rw [hcl])
      clear hr he hcl hts hln hmem
      have hsz := HC.out.bel.size
      go_wp2_with (refine wpList_load_mid rfl 126 _ rfl b (off + k * 19) rfl cs _ (by exact HR.out) Try.underlying126 rfl (HI.out.trans HCL.out) ?_)
      refine (copySignal x cs F wr HE.out (fun b hb => Nat.lt_of_lt_of_le (HF.out b hb) hsz) (HOK.out x HMEM.out)).mono ?_
      rintro e w5 ⟨cs5, rfl, hl5, h15, hq5, hb5⟩
      have hs5 := hb5.size
      have HL5 := Lib.hid hl5
      have HA5 := Lib.hid (show cs5.toArray.all (·.oneCell') = true from all_oneCell_toArray h15)
      have HI5 := Lib.hid (show (Try.prog.info? 126).map (·.size) = some cs5.toArray.size by rw [HI.out]; simp [hl5])
      have HZ5 := Lib.hid (show (#[.int .i64 0, .int .i64 0, .string ⟨#[]⟩, .int .i64 0, .int .u64 0, .int .i64 0, .int .i64 0, .bool false, .bool false, .int .i64 0, .int .i64 0, .int .i64 0, .int .i64 0, .int .i64 0, .int .i64 0, .int .i64 0, .int .i64 0, .string ⟨#[]⟩, .slice none 0 0] : Array Value).size = cs5.toArray.size by simp [hl5])
      have hfold := fold_all #[.int .i64 0, .int .i64 0, .string ⟨#[]⟩, .int .i64 0, .int .u64 0, .int .i64 0, .int .i64 0, .bool false, .bool false, .int .i64 0, .int .i64 0, .int .i64 0, .int .i64 0, .int .i64 0, .int .i64 0, .int .i64 0, .int .i64 0, .string ⟨#[]⟩, .slice none 0 0] cs5 (by rw [hl5]; rfl)
      have H15 := Lib.hid h15; have HQ5 := Lib.hid hq5; have HB5 := Lib.hid hb5
      clear h15 hq5 hb5
      go_wp2_with (first | (refine wpList_store_last rfl 126 _ _ rfl 126 _ rfl rfl HI5.out (by exact HZ5.out) HA5.out ?_) | (refine wpList_load_has rfl 126 _ rfl w5.heap.size rfl (by exact Has.new w5 _ cs5.toArray) Try.underlying126 rfl HI5.out ?_) | (at_builtin; refine wpList_append_own_at _ rfl _ _ 60 rfl w.heap.size 126 i0 (.agg #[.int .i64 0, .int .i64 0, .string ByteArray.empty, .int .i64 0, .int .u64 0, .int .i64 0, .int .i64 0, .bool false, .bool false, .int .i64 0, .int .i64 0, .int .i64 0, .int .i64 0, .int .i64 0, .int .i64 0, .int .i64 0, .int .i64 0, .string ByteArray.empty, .slice none 0 0]) 19 176 Try.underlying60 hi hz0 hz1 hz2 rfl (by decide) _ (l.take k).length xs rfl (((own_kept HC.out.row.1 HB5.out).alloc _).alloc _) ⟨w5.heap.size + 1, 0, none⟩ 1 1 cs5 rfl (by rw [HL5.out]) (news_new1 w5 _ _ _) H15.out (by have := HLN.out; unfold maxLen; omega) (by have := HLN.out; omega) (by simp; omega) ?_))
      intro v3 w3 ho3 hg3 _ hat3
      have hc3 := HC.out.push (x := x) sigO_mono HB5.out HQ5.out HL5.out (((Below.refl _ _).alloc (Nat.le_refl _) _).alloc (by simp) _) ho3 (by rw [HLN.out]) hg3 hat3 (by simp)
      rw [← HTS.out] at hc3
      have HC3 := Lib.hid hc3
      clear hc3 ho3 hg3 hat3 HC hfold hl5
      go_wp2
      go_roundw
      case rel => exact ⟨k + 1, _, by go_num, by omega, HC3⟩
      case measure => simp [intOf]; omega
    · obtain rfl : k = l.length := by omega
      have hc := HC.out
      rw [List.take_of_length_le (Nat.le_refl _)] at hc
      have HC2 := Lib.hid hc
      clear hc HC
      go_wp2
      go_ret
      exact HC2.out.fin

theorem copyMessage (x : Msg) (cs : List Value) (F : Foot) (w : World) (h : msgE w F cs x) (hF : ∀ b, F b → b < w.heap.size) (hl : x.sigs.length * 176 ≤ 140737488351232) (hok : ∀ y ∈ x.sigs, y.to.length * 16 ≤ 140737488351232) :
    Calls Try.prog 92 #[.agg cs.toArray] w (ElemP 8 (msgO 9 126) x w) := by
  obtain ⟨v, rfl, hv⟩ := h
  obtain ⟨A0, c0, hA0, _, _⟩ := hv.form
  refine (copyS.copyMessage (msgCells x v).toArray v w (fun W v' w' => OwD 19 (sigO 9) w' (Iv W.heap.size w'.heap.size) 0 126 v' x.sigs) rfl (by subst hA0; simp [msgCells, Value.oneCell']) rfl (fun W hW hWs => (copySignals v x.sigs F W (hv.belowF sigE_mono hF hW) (fun b hb => Nat.lt_of_lt_of_le (hF b hb) hW.size) hl hok).mono ?_)).mono ?_
  · rintro e w' ⟨v', rfl, ho, hb⟩
    obtain ⟨A, c, rfl, _, _⟩ := (ho.sl sigO_mono).form
    exact ⟨A, _, c, rfl, ho, hb⟩
  · rintro e w' ⟨W, w1, v', rfl, hW, hWs, ho, hb1, hk, hs, hB⟩
    obtain ⟨A, c, hv', _, _⟩ := (ho.sl sigO_mono).form
    refine ⟨msgCells x v', rfl, rfl, ?_, ⟨v', rfl, ho.keep sigO_mono (fun b hb => ⟨by have := hb.1; omega, by rw [← hs]; exact hb.2⟩) fun b hb => hk b hb.1⟩, hB⟩
    intro u hu
    subst hv'
    simp only [msgCells, List.mem_cons, List.not_mem_nil, or_false] at hu
    rcases hu with rfl | rfl | rfl | rfl | rfl | rfl | rfl | rfl <;> rfl

set_option maxRecDepth 100000 in
set_option maxHeartbeats 2000000 in
theorem copyMessages (v : Value) (l : List Msg) (F : Foot) (w : World) (h : SlK 8 msgE w F v l) (hF : ∀ b, F b → b < w.heap.size) (hby : l.length * 88 ≤ 140737488351232) (hok : ∀ x ∈ l, MsgOk x) :
    Calls Try.prog 83 #[v] w (ListP 8 (msgO 9 126) 62 l w) := by
  obtain ⟨i0, hi, hz0, hz1, hz2⟩ := info_parts Try.infoEMsg
  obtain ⟨A, cap, rfl, n1, n2⟩ := h.form
  have n3 : cap ≤ 9223372036854775807 := by unfold maxLen at n2; omega
  have HV := Lib.hid (fun (w1 : World) (hb : Below w.heap.size w w1) => h.belowF msgE_mono hF hb)
  have HI := Lib.hid (show (Try.prog.info? 62).map (·.size) = some 8 by kernel_rfl)
  have HF := Lib.hid hF; have HOK := Lib.hid hok
  clear h hF n2 hok
  go_enter Try.func83, Try.ntmps83
  go_wp2
  go_loopw [3, 4] (fun o i wr => ∃ (k : Nat) (xs : List Value), i = .int .i64 k ∧ k ≤ l.length ∧ Hid (Cp 8 (msgO 9 126) 62 w wr o (l.take k) xs)) (fun _ i _ => l.length - (intOf i).toNat)
  case atStart => exact ⟨0, [], rfl, Nat.zero_le _, Cp.start _ _ _ _⟩
  case round =>
    obtain ⟨k, xs, rfl, hk, HC⟩ := hrel
    by_cases hlt : k < l.length
    · obtain ⟨b, off, cs, hA, _, hcl, hr, he⟩ := (HV.out _ HC.out.bel).at_ hlt
      subst hA
      have hts := take_snoc l k hlt
      have hmem : l[k] ∈ l := List.getElem_mem hlt
      generalize l[k] = x at *
      have HTS := Lib.hid hts
      have hln : (l.take k).length = k := by rw [List.length_take]; omega
      have HLN := Lib.hid hln; have HR := Lib.hid hr; have HE := Lib.hid he; have HMEM := Lib.hid hmem
      have HCL := Lib.hid (show some 8 = some cs.length by rw [hcl])
      clear hr he hcl hts hln hmem
      have hsz := HC.out.bel.size
      go_wp2_with (refine wpList_load_mid rfl 62 _ rfl b (off + k * 8) rfl cs _ (by exact HR.out) Try.underlying62 rfl (HI.out.trans HCL.out) ?_)
      refine (copyMessage x cs F wr HE.out (fun b hb => Nat.lt_of_lt_of_le (HF.out b hb) hsz) (HOK.out x HMEM.out).len (fun y hy => ((HOK.out x HMEM.out).sigs y hy).to)).mono ?_
      rintro e w5 ⟨cs5, rfl, hl5, h15, hq5, hb5⟩
      have hs5 := hb5.size
      have HL5 := Lib.hid hl5
      have HA5 := Lib.hid (show cs5.toArray.all (·.oneCell') = true from all_oneCell_toArray h15)
      have HI5 := Lib.hid (show (Try.prog.info? 62).map (·.size) = some cs5.toArray.size by rw [HI.out]; simp [hl5])
      have HZ5 := Lib.hid (show (#[.int .i64 0, .int .i64 0, .int .u32 0, .bool false, .string ⟨#[]⟩, .int .i64 0, .string ⟨#[]⟩, .slice none 0 0] : Array Value).size = cs5.toArray.size by simp [hl5])
      have hfold := fold_all #[.int .i64 0, .int .i64 0, .int .u32 0, .bool false, .string ⟨#[]⟩, .int .i64 0, .string ⟨#[]⟩, .slice none 0 0] cs5 (by rw [hl5]; rfl)
      have H15 := Lib.hid h15; have HQ5 := Lib.hid hq5; have HB5 := Lib.hid hb5
      clear h15 hq5 hb5
      go_wp2_with (first | (refine wpList_store_last rfl 62 _ _ rfl 62 _ rfl rfl HI5.out (by exact HZ5.out) HA5.out ?_) | (refine wpList_load_has rfl 62 _ rfl w5.heap.size rfl (by exact Has.new w5 _ cs5.toArray) Try.underlying62 rfl HI5.out ?_) | (at_builtin; refine wpList_append_own_at _ rfl _ _ 29 rfl w.heap.size 62 i0 (.agg #[.int .i64 0, .int .i64 0, .int .u32 0, .bool false, .string ByteArray.empty, .int .i64 0, .string ByteArray.empty, .slice none 0 0]) 8 88 Try.underlying29 hi hz0 hz1 hz2 rfl (by decide) _ (l.take k).length xs rfl (((own_kept HC.out.row.1 HB5.out).alloc _).alloc _) ⟨w5.heap.size + 1, 0, none⟩ 1 1 cs5 rfl (by rw [HL5.out]) (news_new1 w5 _ _ _) H15.out (by have := HLN.out; unfold maxLen; omega) (by have := HLN.out; omega) (by simp; omega) ?_))
      intro v3 w3 ho3 hg3 _ hat3
      have hc3 := HC.out.push (x := x) msgO_mono HB5.out HQ5.out HL5.out (((Below.refl _ _).alloc (Nat.le_refl _) _).alloc (by simp) _) ho3 (by rw [HLN.out]) hg3 hat3 (by simp)
      rw [← HTS.out] at hc3
      have HC3 := Lib.hid hc3
      clear hc3 ho3 hg3 hat3 HC hfold hl5
      go_wp2
      go_roundw
      case rel => exact ⟨k + 1, _, by go_num, by omega, HC3⟩
      case measure => simp [intOf]; omega
    · obtain rfl : k = l.length := by omega
      have hc := HC.out
      rw [List.take_of_length_le (Nat.le_refl _)] at hc
      have HC2 := Lib.hid hc
      clear hc HC
      go_wp2
      go_ret
      exact HC2.out.fin

theorem copyTable (x : Tab) (cs : List Value) (F : Foot) (w : World) (h : tabE w F cs x) (hF : ∀ b, F b → b < w.heap.size) (hl : x.rows.length * 24 ≤ 140737488351232) :
    Calls Try.prog 93 #[.agg cs.toArray] w (ElemP 6 (tabO 129) x w) := by
  obtain ⟨v, rfl, hv⟩ := h
  obtain ⟨A0, c0, hA0, _, _⟩ := hv.form
  refine (copyS.copyTable (tabCells x v).toArray v w (fun W v' w' => OwD 2 rowE w' (Iv W.heap.size w'.heap.size) 0 129 v' x.rows) rfl (by subst hA0; simp [tabCells, Value.oneCell']) rfl (fun W hW hWs => (copyRows v x.rows F W (hv.belowF rowE_mono hF hW) (fun b hb => Nat.lt_of_lt_of_le (hF b hb) hW.size) hl).mono ?_)).mono ?_
  · rintro e w' ⟨v', rfl, ho, hb⟩
    obtain ⟨A, c, rfl, _, _⟩ := (ho.sl rowE_mono).form
    exact ⟨A, _, c, rfl, ho, hb⟩
  · rintro e w' ⟨W, w1, v', rfl, hW, hWs, ho, hb1, hk, hs, hB⟩
    obtain ⟨A, c, hv', _, _⟩ := (ho.sl rowE_mono).form
    refine ⟨tabCells x v', rfl, rfl, ?_, ⟨v', rfl, ho.keep rowE_mono (fun b hb => ⟨by have := hb.1; omega, by rw [← hs]; exact hb.2⟩) fun b hb => hk b hb.1⟩, hB⟩
    intro u hu
    subst hv'
    simp only [tabCells, List.mem_cons, List.not_mem_nil, or_false] at hu
    rcases hu with rfl | rfl | rfl | rfl | rfl | rfl <;> rfl

set_option maxRecDepth 100000 in
set_option maxHeartbeats 2000000 in
theorem copyTables (v : Value) (l : List Tab) (F : Foot) (w : World) (h : SlK 6 tabE w F v l) (hF : ∀ b, F b → b < w.heap.size) (hby : l.length * 64 ≤ 140737488351232) (hok : ∀ x ∈ l, TabOk x) :
    Calls Try.prog 84 #[v] w (ListP 6 (tabO 129) 83 l w) := by
  obtain ⟨i0, hi, hz0, hz1, hz2⟩ := info_parts Try.infoETab
  obtain ⟨A, cap, rfl, n1, n2⟩ := h.form
  have n3 : cap ≤ 9223372036854775807 := by unfold maxLen at n2; omega
  have HV := Lib.hid (fun (w1 : World) (hb : Below w.heap.size w w1) => h.belowF tabE_mono hF hb)
  have HI := Lib.hid (show (Try.prog.info? 83).map (·.size) = some 6 by kernel_rfl)
  have HF := Lib.hid hF; have HOK := Lib.hid hok
  clear h hF n2 hok
  go_enter Try.func84, Try.ntmps84
  go_wp2
  go_loopw [3, 4] (fun o i wr => ∃ (k : Nat) (xs : List Value), i = .int .i64 k ∧ k ≤ l.length ∧ Hid (Cp 6 (tabO 129) 83 w wr o (l.take k) xs)) (fun _ i _ => l.length - (intOf i).toNat)
  case atStart => exact ⟨0, [], rfl, Nat.zero_le _, Cp.start _ _ _ _⟩
  case round =>
    obtain ⟨k, xs, rfl, hk, HC⟩ := hrel
    by_cases hlt : k < l.length
    · obtain ⟨b, off, cs, hA, _, hcl, hr, he⟩ := (HV.out _ HC.out.bel).at_ hlt
      subst hA
      have hts := take_snoc l k hlt
      have hmem : l[k] ∈ l := List.getElem_mem hlt
      generalize l[k] = x at *
      have HTS := Lib.hid hts
      have hln : (l.take k).length = k := by rw [List.length_take]; omega
      have HLN := Lib.hid hln; have HR := Lib.hid hr; have HE := Lib.hid he; have HMEM := Lib.hid hmem
      have HCL := Lib.hid (show some 6 = some cs.length by rw [hcl])
      clear hr he hcl hts hln hmem
      have hsz := HC.out.bel.size
      go_wp2_with (refine wpList_load_mid rfl 83 _ rfl b (off + k * 6) rfl cs _ (by exact HR.out) Try.underlying83 rfl (HI.out.trans HCL.out) ?_)
      refine (copyTable x cs F wr HE.out (fun b hb => Nat.lt_of_lt_of_le (HF.out b hb) hsz) (HOK.out x HMEM.out).len).mono ?_
      rintro e w5 ⟨cs5, rfl, hl5, h15, hq5, hb5⟩
      have hs5 := hb5.size
      have HL5 := Lib.hid hl5
      have HA5 := Lib.hid (show cs5.toArray.all (·.oneCell') = true from all_oneCell_toArray h15)
      have HI5 := Lib.hid (show (Try.prog.info? 83).map (·.size) = some cs5.toArray.size by rw [HI.out]; simp [hl5])
      have HZ5 := Lib.hid (show (#[.int .i64 0, .int .i64 0, .int .u32 0, .bool false, .string ⟨#[]⟩, .slice none 0 0] : Array Value).size = cs5.toArray.size by simp [hl5])
      have hfold := fold_all #[.int .i64 0, .int .i64 0, .int .u32 0, .bool false, .string ⟨#[]⟩, .slice none 0 0] cs5 (by rw [hl5]; rfl)
      have H15 := Lib.hid h15; have HQ5 := Lib.hid hq5; have HB5 := Lib.hid hb5
      clear h15 hq5 hb5
      go_wp2_with (first | (refine wpList_store_last rfl 83 _ _ rfl 83 _ rfl rfl HI5.out (by exact HZ5.out) HA5.out ?_) | (refine wpList_load_has rfl 83 _ rfl w5.heap.size rfl (by exact Has.new w5 _ cs5.toArray) Try.underlying83 rfl HI5.out ?_) | (at_builtin; refine wpList_append_own_at _ rfl _ _ 30 rfl w.heap.size 83 i0 (.agg #[.int .i64 0, .int .i64 0, .int .u32 0, .bool false, .string ByteArray.empty, .slice none 0 0]) 6 64 Try.underlying30 hi hz0 hz1 hz2 rfl (by decide) _ (l.take k).length xs rfl (((own_kept HC.out.row.1 HB5.out).alloc _).alloc _) ⟨w5.heap.size + 1, 0, none⟩ 1 1 cs5 rfl (by rw [HL5.out]) (news_new1 w5 _ _ _) H15.out (by have := HLN.out; unfold maxLen; omega) (by have := HLN.out; omega) (by simp; omega) ?_))
      intro v3 w3 ho3 hg3 _ hat3
      have hc3 := HC.out.push (x := x) tabO_mono HB5.out HQ5.out HL5.out (((Below.refl _ _).alloc (Nat.le_refl _) _).alloc (by simp) _) ho3 (by rw [HLN.out]) hg3 hat3 (by simp)
      rw [← HTS.out] at hc3
      have HC3 := Lib.hid hc3
      clear hc3 ho3 hg3 hat3 HC hfold hl5
      go_wp2
      go_roundw
      case rel => exact ⟨k + 1, _, by go_num, by omega, HC3⟩
      case measure => simp [intOf]; omega
    · obtain rfl : k = l.length := by omega
      have hc := HC.out
      rw [List.take_of_length_le (Nat.le_refl _)] at hc
      have HC2 := Lib.hid hc
      clear hc HC
      go_wp2
      go_ret
      exact HC2.out.fin

theorem copyStations (x : Sta) (cs : List Value) (F : Foot) (w : World) (h : staE w F cs x) (hF : ∀ b, F b → b < w.heap.size) (hto : x.names.length * 16 ≤ 140737488351232) :
    Calls Try.prog 85 #[.agg cs.toArray] w (ElemP 3 (staO 9) x w) := by
  obtain ⟨v, rfl, hv⟩ := h
  obtain ⟨A0, c0, hA0, _, _⟩ := hv.form
  refine (copyS.copyStations (staCells x v).toArray v w (fun W v' w' => OwD 1 strE w' (Iv W.heap.size w'.heap.size) 0 9 v' x.names) rfl (by subst hA0; simp [staCells, Value.oneCell']) rfl (fun W hW hWs => (copyTexts v x.names F W (hv.belowF strE_mono hF hW) (fun b hb => Nat.lt_of_lt_of_le (hF b hb) hW.size) hto).mono ?_)).mono ?_
  · rintro e w' ⟨v', rfl, ho, hb⟩
    obtain ⟨A, c, rfl, _, _⟩ := (ho.sl strE_mono).form
    exact ⟨A, _, c, rfl, ho, hb⟩
  · rintro e w' ⟨W, w1, v', rfl, hW, hWs, ho, hb1, hk, hs, hB⟩
    obtain ⟨A, c, hv', _, _⟩ := (ho.sl strE_mono).form
    refine ⟨staCells x v', rfl, rfl, ?_, ⟨v', rfl, ho.keep strE_mono (fun b hb => ⟨by have := hb.1; omega, by rw [← hs]; exact hb.2⟩) fun b hb => hk b hb.1⟩, hB⟩
    intro u hu
    subst hv'
    simp only [staCells, List.mem_cons, List.not_mem_nil, or_false] at hu
    rcases hu with rfl | rfl | rfl <;> rfl

end copyK
end Go.Proofs.Ytibgjemjdbfajaa
