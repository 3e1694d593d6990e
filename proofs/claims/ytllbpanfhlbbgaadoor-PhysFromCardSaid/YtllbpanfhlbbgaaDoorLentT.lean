/- busbarkit's LentTexts, KeptTexts, LentRows, KeptRows: lent with marks behind, and found as they were. Condition: no list of more than 2^47 bytes. -/
import Derived.Test.YtllbpanfhlbbgaaDoorMarkT
import Derived.Test.YtllbpanfhlbbgaaDoorDbData
import Derived.Maps.AppendAt
import Derived.WalkSpells
import Derived.Deep.QuietTactic
import Derived.BigQuiet
import Derived.Lib.SlicesS
namespace Go.Bus.lentT
open Go.RowKit Go.Bus.cellK Go.Bus.dbK
variable {α : Type} {k : Nat} {cells : α → List Value}
theorem flat_len (hk : ∀ x, (cells x).length = k) : ∀ l : List α, (l.flatMap cells).length = l.length * k
  | [] => by simp
  | x :: l => by rw [List.flatMap_cons, List.length_append, hk, flat_len hk l, List.length_cons, Nat.add_mul, Nat.one_mul, Nat.add_comm]
theorem flat_elt (hk : ∀ x, (cells x).length = k) : ∀ (l : List α) (i : Nat) (hi : i < l.length), eltOf k (l.flatMap cells) i = cells l[i]
  | x :: l, 0, _ => by
    unfold eltOf
    rw [List.flatMap_cons, Nat.zero_mul, List.drop_zero, List.take_append_of_le_length (by rw [hk]; exact Nat.le_refl _), List.take_of_length_le (by rw [hk]; exact Nat.le_refl _)]
    rfl
  | x :: l, i + 1, hi => by
    have := flat_elt hk l i (by simpa using hi)
    unfold eltOf at this ⊢
    rw [List.flatMap_cons, Nat.add_mul, Nat.one_mul, List.drop_append, List.drop_of_length_le (by rw [hk]; omega), List.nil_append, hk, Nat.add_sub_cancel, this]
    rfl
theorem flat_snoc {l : List α} {x : α} {t : List α} (h : t = l ++ [x]) : t.flatMap cells = l.flatMap cells ++ cells x := by rw [h, List.flatMap_append]; simp
/-- Lent: a list of the call's own with 16 marks behind, of which n are in sight. -/
def LentK (w : World) (base : Nat) (e : TypeId) (k : Nat) (v : Value) (n : Nat) (xs : List Value) : Prop := ∃ g c, v = .slice (some ⟨g, 0, none⟩) n c ∧ w.ownsRow base e k (.slice (some ⟨g, 0, none⟩) (n + 16) c) (n + 16) xs
theorem LentK.keep {w w' : World} {base n : Nat} {e : TypeId} {v : Value} {xs : List Value} (h : LentK w base e k v n xs) (hb : Below w.heap.size w w') : LentK w' base e k v n xs := by
  obtain ⟨g, c, h1, h2⟩ := h
  exact ⟨g, c, h1, own_kept h2 hb⟩
theorem own_range {w : World} {base n : Nat} {e : TypeId} {g c : Nat} {xs : List Value} (h : w.ownsRow base e k (.slice (some ⟨g, 0, none⟩) n c) n xs) : w.rangeAt g 0 xs ∧ base ≤ g ∧ g < w.heap.size ∧ n ≤ c ∧ c ≤ maxLen := by
  refine ⟨fun j u hj => ?_, ?_⟩
  · have h1 := h.cells (g := g) rfl j u hj
    rw [Addr.add_mid] at h1
    exact h1
  · have h2 := h.lt g rfl
    rcases h.2 with ⟨h0, _⟩ | ⟨g', cap, cur, hv, hb, hg, hn, hm, hs, ht⟩
    · exact absurd h0 (by simp)
    · simp only [Value.slice.injEq, Option.some.injEq, Addr.mk.injEq, and_true] at hv
      obtain ⟨rfl, _, rfl⟩ := hv
      exact ⟨h2.1, h2.2, hn, hm⟩
theorem Ln.sl {R : Rel α} {w : World} {base : Nat} {e : TypeId} {v : Value} {l m : List α} (hk : ∀ x, (cells x).length = k) (hR : ∀ w F x, R w F (cells x) x) (h : LentK w base e k v l.length ((l ++ m).flatMap cells)) : SlK k R w (Old w.heap.size) v l := by
  obtain ⟨g, c, rfl, ho⟩ := h
  obtain ⟨h1, h2, h3, h4, h5⟩ := own_range ho
  refine ⟨l.flatMap cells, ⟨_, c, rfl, by omega, h5, flat_len hk l, fun _ => ⟨g, 0, rfl, h3, fun j u hj => h1 j u ?_⟩⟩, fun i x hi => ?_⟩
  · rw [List.flatMap_append, List.getElem?_append_left (List.getElem?_eq_some_iff.1 hj).1]; exact hj
  · obtain ⟨hlt, rfl⟩ := List.getElem?_eq_some_iff.1 hi
    rw [flat_elt hk l i hlt]
    exact hR _ _ _
theorem own_slk {R : Rel α} {w : World} {base : Nat} {e : TypeId} {v : Value} {m : List α} {n : Nat} (hk : ∀ x, (cells x).length = k) (hR : ∀ w F x, R w F (cells x) x) (hn : n = m.length) (h0 : 0 < n) (ho : w.ownsRow base e k v n (m.flatMap cells)) : SlK k R w (Old w.heap.size) v m := by
  subst hn
  obtain ⟨g, c, rfl, _, _⟩ := own_form ho h0
  obtain ⟨h1, h2, h3, h4, h5⟩ := own_range ho
  refine ⟨m.flatMap cells, ⟨_, c, rfl, h4, h5, flat_len hk m, fun _ => ⟨g, 0, rfl, h3, h1⟩⟩, fun i x hi => ?_⟩
  obtain ⟨hlt, rfl⟩ := List.getElem?_eq_some_iff.1 hi
  rw [flat_elt hk m i hlt]
  exact hR _ _ _
theorem news_new2 (w : World) (cs : List Value) (t : TypeId) : ∀ (j : Nat) (u : Value), cs[j]? = some u → (w.alloc (.cells cs.toArray t)).cell? ((⟨w.heap.size, 0, none⟩ : Addr).add j) = some u := by
  intro j u hj
  rw [Addr.add_mid, Nat.zero_add, (Has.new w t cs.toArray).cell j]
  simpa using hj
end Go.Bus.lentT
namespace Go.Proofs.YtllbpanfhlbbgaaDoor
open Go.RowKit Go.Bus Go.Bus.cellK Go.Bus.dbK Go.Bus.lentT
set_option linter.unusedVariables false
set_option linter.unusedSimpArgs false
namespace textsK
theorem infoT : (Tryd.prog.info? 9).map (fun i => (i.zero, i.size, i.bytes)) = some (some (.string ByteArray.empty), 1, 16) := by kernel_rfl
def tCells (x : ByteArray) : List Value := [.string x]
def marksT : List ByteArray := (List.range 16).map fun i : Nat => markT i
theorem marks_take {α : Type} (f : Nat → α) (k : Nat) (hk : k < 16) : ((List.range 16).map f).take (k + 1) = ((List.range 16).map f).take k ++ [f k] := by
  rw [take_snoc _ _ (by simpa using hk)]; simp
theorem marks_all {α : Type} (f : Nat → α) : ((List.range 16).map f).take 16 = (List.range 16).map f := List.take_of_length_le (by simp)

set_option maxRecDepth 100000 in
set_option maxHeartbeats 4000000 in
theorem texts_full (v : Value) (l : List ByteArray) (F : Foot) (w : World) (h : SlK 1 strE w F v l) (hF : ∀ b, F b → b < w.heap.size) (hby : l.length * 16 ≤ 140737488351232) :
    Calls Tryd.prog 50 #[v] w fun e w' => ∃ u, e = .returned u ∧ w'.ownsRow w.heap.size 9 1 u (l.length + 16) ((l ++ marksT).flatMap tCells) ∧ Below w.heap.size w w' := by
  obtain ⟨i0, hi, hz0, hz1, hz2⟩ := info_parts infoT
  obtain ⟨A, cap, rfl, n1, n2⟩ := h.form
  have n3 : cap ≤ 9223372036854775807 := by unfold maxLen at n2; omega
  have HV := Lib.hid (fun (w1 : World) (hb : Below w.heap.size w w1) => h.belowF strE_mono hF hb)
  clear h hF n2
  go_enter Tryd.func50, Tryd.ntmps50
  go_wp2
  go_loopw [3, 4] (fun o i wr => ∃ (k : Nat), i = .int .i64 k ∧ k ≤ l.length ∧ Hid (wr.ownsRow w.heap.size 9 1 o k ((l.take k).flatMap tCells)) ∧ Hid (Below w.heap.size w wr)) (fun _ i _ => l.length - (intOf i).toNat)
  case atStart => exact ⟨0, rfl, Nat.zero_le _, Lib.hid (World.ownsRow_nil _ _ _ _), Lib.hid (Below.refl _ _)⟩
  case round =>
    obtain ⟨k, rfl, hk, HO, HB⟩ := hrel
    by_cases hlt : k < l.length
    · obtain ⟨b, off, cs, hA, _, hcl, hr, he⟩ := (HV.out _ HB.out).at_ hlt
      subst hA
      have hts := take_snoc l k hlt
      generalize l[k] = x at *
      have hcx : cs = tCells x := he
      subst hcx
      have c0 : wr.cell? ⟨b, off + k, none⟩ = some (.string x) := by have := hr 0 _ rfl; rwa [Nat.mul_one] at this
      have HTS := Lib.hid hts
      clear hr he hcl hts
      have hsz := HB.out.size
      go_wp2_with (at_builtin; refine wpList_append_own_at _ rfl _ _ 27 rfl w.heap.size 9 i0 (.string ByteArray.empty) 1 16 Tryd.underlying27 hi hz0 hz1 hz2 rfl (by decide) _ k _ rfl (HO.out.alloc _) ⟨wr.heap.size, 0, none⟩ 1 1 (tCells x) rfl rfl (news_new2 wr _ _) (by intro u hu; simp [tCells] at hu; subst hu; rfl) (by unfold maxLen; omega) (by omega) (by simp; omega) ?_)
      intro v3 w3 ho3 hg3 _ hat3
      rw [← flat_snoc HTS.out] at ho3
      have HO3 := Lib.hid ho3
      have HB3 : Hid (Below w.heap.size w w3) := Lib.hid (Below.grown (HB.out.alloc (by omega) _) hg3 (by simp; omega) fun r hr => (HO.out.lt r hr).1)
      clear ho3 hg3 hat3 HO HB
      go_wp2
      go_roundw
      case rel => exact ⟨k + 1, by go_num, by omega, HO3, HB3⟩
      case measure => simp [intOf]; omega
    · obtain rfl : k = l.length := by omega
      have ho := HO.out
      rw [List.take_of_length_le (Nat.le_refl _)] at ho
      have HO1 := Lib.hid ho
      clear ho HO
      go_wp2
      go_loopw [3, 5] (fun o i wr => ∃ (k : Nat), i = .int .i64 k ∧ k ≤ 16 ∧ Hid (wr.ownsRow w.heap.size 9 1 o (l.length + k) ((l ++ marksT.take k).flatMap tCells)) ∧ Hid (Below w.heap.size w wr)) (fun _ i _ => 16 - (intOf i).toNat)
      case atStart => exact ⟨0, rfl, Nat.zero_le _, Lib.hid (by simpa using HO1.out), HB⟩
      case round =>
        clear HO1 HB
        obtain ⟨k, rfl, hk, HO, HB⟩ := hrel
        by_cases hlt : k < 16
        · have hts : l ++ marksT.take (k + 1) = (l ++ marksT.take k) ++ [markT (k : Nat)] := by rw [List.append_assoc]; congr 1; exact marks_take (fun i : Nat => markT i) k hlt
          have HTS := Lib.hid hts
          clear hts
          have hsz := HB.out.size
          go_wp2_with (first
            | (go_at_call 76; refine (marks_any k _ (by omega) (by omega)).mono ?_; rintro e w1 ⟨rfl, hb1⟩; have hsz1 := hb1.size; have HO1 := Lib.hid (own_kept HO.out hb1); have HB1 := Lib.hid (HB.out.trans (hb1.mono (by omega))); clear hb1)
            | (at_builtin; refine wpList_append_own_at _ rfl _ _ 27 rfl w.heap.size 9 i0 (.string ByteArray.empty) 1 16 Tryd.underlying27 hi hz0 hz1 hz2 rfl (by decide) _ (l.length + k) _ rfl (HO1.out.alloc _) ⟨w1.heap.size, 0, none⟩ 1 1 (tCells (markT k)) rfl rfl (news_new2 w1 _ _) (by intro u hu; simp [tCells] at hu; subst hu; rfl) (by unfold maxLen; omega) (by omega) (by simp; omega) ?_))
          intro v3 w3 ho3 hg3 _ hat3
          have HO3 : Hid (w3.ownsRow w.heap.size 9 1 v3 (l.length + (k + 1)) ((l ++ marksT.take (k + 1)).flatMap tCells)) := Lib.hid (by rw [flat_snoc HTS.out, ← Nat.add_assoc]; simpa only [List.flatMap_append, List.append_assoc] using ho3)
          have HB3 : Hid (Below w.heap.size w w3) := Lib.hid (Below.grown (HB1.out.alloc (by omega) _) hg3 (by simp; omega) fun r hr => (HO1.out.lt r hr).1)
          clear ho3 hg3 hat3 HO HB
          go_wp2
          go_roundw
          case rel => exact ⟨k + 1, by go_num, by omega, HO3, HB3⟩
          case measure => simp [intOf]; omega
        · obtain rfl : k = 16 := by omega
          have ho := HO.out
          rw [show marksT.take 16 = marksT from marks_all _] at ho
          have HO1 := Lib.hid ho
          clear ho HO
          go_wp2
          go_ret
          exact ⟨_, rfl, HO1.out, HB.out⟩

set_option maxRecDepth 100000 in
set_option maxHeartbeats 4000000 in
theorem texts_lent (v : Value) (l : List ByteArray) (F : Foot) (w : World) (h : SlK 1 strE w F v l) (hF : ∀ b, F b → b < w.heap.size) (hby : l.length * 16 ≤ 140737488351232) :
    Calls Tryd.prog 26 #[v] w fun e w' => ∃ u, e = .returned u ∧ LentK w' w.heap.size 9 1 u l.length ((l ++ marksT).flatMap tCells) ∧ Below w.heap.size w w' := by
  obtain ⟨A, cap, rfl, n1, n2⟩ := h.form
  have n3 : cap ≤ 9223372036854775807 := by unfold maxLen at n2; omega
  have HF := Lib.hid (texts_full _ l F w h hF hby)
  clear h hF n2
  go_enter Tryd.func26, Tryd.ntmps26
  go_wp2_with (go_at_call 50; refine (HF.out).mono ?_; rintro e w1 ⟨u, rfl, ho, hb⟩; obtain ⟨g, c, rfl, n4, n5⟩ := own_form ho (by omega); have HO := Lib.hid ho; have HB := Lib.hid hb; clear ho hb)
  go_ret
  exact ⟨_, rfl, ⟨g, c, rfl, HO.out⟩, HB.out⟩


set_option maxRecDepth 100000 in
set_option maxHeartbeats 4000000 in
theorem texts_kfull (v u : Value) (l : List ByteArray) (w : World) (h : SlK 1 strE w (Old w.heap.size) v (l ++ marksT)) (h' : SlK 1 strE w (Old w.heap.size) u l) (hby : l.length * 16 ≤ 140737488351232) :
    Calls Tryd.prog 61 #[v, u] w fun e w' => e = .returned (.bool true) ∧ Below w.heap.size w w' := by
  obtain ⟨A, cap, rfl, n1, n2⟩ := h.form
  obtain ⟨A', cap', rfl, m1, m2⟩ := h'.form
  have n3 : cap ≤ 9223372036854775807 := by unfold maxLen at n2; omega
  have m3 : cap' ≤ 9223372036854775807 := by unfold maxLen at m2; omega
  have HV := Lib.hid (fun (w1 : World) (hb : Below w.heap.size w w1) => h.below strE_mono hb)
  have HU := Lib.hid (fun (w1 : World) (hb : Below w.heap.size w w1) => h'.below strE_mono hb)
  have hl : (l ++ marksT).length = l.length + 16 := by rw [List.length_append]; rfl
  rw [hl] at HV n1
  rw [hl]
  have HL := Lib.hid hl
  clear h h' n2 m2 hl
  go_enter Tryd.func61, Tryd.ntmps61
  go_wp2
  go_loopw [5] (fun i wr => ∃ (k : Nat), i = .int .i64 k ∧ k ≤ l.length + 16 ∧ Hid (Below w.heap.size w wr)) (fun i _ => l.length + 16 - (intOf i).toNat)
  case atStart => exact ⟨0, rfl, Nat.zero_le _, Lib.hid (Below.refl _ _)⟩
  case round =>
    obtain ⟨k, rfl, hk, HB⟩ := hrel
    by_cases hlt : k < l.length + 16
    · obtain ⟨b, off, cs, hA, hbo, hcl, hr, he⟩ := (HV.out _ HB.out).at_ (by rw [HL.out]; exact hlt)
      subst hA
      have hsz := HB.out.size
      have HM := Lib.hid (fun w => marks_any ((k : Int) - (l.length : Int)) w (by omega) (by omega))
      by_cases hin : k < l.length
      · obtain ⟨b', off', cs', hA', hbo', hcl', hr', he'⟩ := (HU.out _ HB.out).at_ hin
        subst hA'
        rw [List.getElem_append_left hin] at he
        generalize l[k] = x at *
        have hcx : cs = tCells x := he
        have hcx' : cs' = tCells x := he'
        subst hcx; subst hcx'
        have c0 : wr.cell? ⟨b, off + k, none⟩ = some (.string x) := by have := hr 0 _ rfl; rwa [Nat.mul_one] at this
        have c1 : wr.cell? ⟨b', off' + k, none⟩ = some (.string x) := by have := hr' 0 _ rfl; rwa [Nat.mul_one] at this
        clear hr he hcl hr' he' hcl'
        have hd := decide_eq_true hin
        go_wp2_with (go_at_call 76; refine (HM.out _).mono ?_; rintro e w1 ⟨rfl, hb1⟩; have hsz1 := hb1.size; have hsz1w : w.heap.size ≤ w1.heap.size := Nat.le_trans hsz hsz1; have HB1 := Lib.hid (HB.out.trans (hb1.mono (by omega))); obtain ⟨hc, hf⟩ := bcell hb1; have hbw : b < w1.heap.size := Nat.lt_of_lt_of_le hbo hsz1w; have hbw' : b' < w1.heap.size := Nat.lt_of_lt_of_le hbo' hsz1w; have d0 := (hc _ _ (by first | exact Nat.lt_of_lt_of_le hbo hsz | omega)).trans c0; have d1 := (hc _ _ (by first | exact Nat.lt_of_lt_of_le hbo' hsz | omega)).trans c1; clear hb1 hc hf)
        go_roundw
        case rel => exact ⟨k + 1, by go_num, by omega, Lib.hid (HB1.out)⟩
        case measure => simp [intOf]; omega
      · have hj : k - l.length < 16 := by omega
        rw [List.getElem_append_right (by omega), show marksT[k - l.length]'(by simp [marksT]; omega) = markT ((k - l.length : Nat) : Int) from by simp [marksT]] at he
        have hcx : cs = tCells (markT ((k - l.length : Nat) : Int)) := he
        rw [show ((k - l.length : Nat) : Int) = (k : Int) - (l.length : Int) from by omega] at hcx
        generalize hmk : (k : Int) - (l.length : Int) = j at *
        subst hcx
        have c0 : wr.cell? ⟨b, off + k, none⟩ = some (.string (markT j)) := by have := hr 0 _ rfl; rwa [Nat.mul_one] at this
        clear hr he hcl
        go_wp2_with (go_at_call 76; refine (HM.out _).mono ?_; rintro e w1 ⟨rfl, hb1⟩; have hsz1 := hb1.size; have hsz1w : w.heap.size ≤ w1.heap.size := Nat.le_trans hsz hsz1; have HB1 := Lib.hid (HB.out.trans (hb1.mono (by omega))); obtain ⟨hc, hf⟩ := bcell hb1; have hbw : b < w1.heap.size := Nat.lt_of_lt_of_le hbo hsz1w; have d0 := (hc _ _ (by first | exact Nat.lt_of_lt_of_le hbo hsz | omega)).trans c0; clear hb1 hc hf)
        go_roundw
        case rel => exact ⟨k + 1, by go_num, by omega, Lib.hid (HB1.out)⟩
        case measure => simp [intOf]; omega
    · obtain rfl : k = l.length + 16 := by omega
      go_wp2
      go_ret
      exact ⟨rfl, HB.out⟩


set_option maxRecDepth 100000 in
set_option maxHeartbeats 4000000 in
theorem texts_kept (v u : Value) (l : List ByteArray) (w : World) (base : Nat) (h : LentK w base 9 1 v l.length ((l ++ marksT).flatMap tCells)) (h' : SlK 1 strE w (Old w.heap.size) u l) (hby : l.length * 16 ≤ 140737488351232) :
    Calls Tryd.prog 34 #[v, u] w fun e w' => e = .returned (.bool true) ∧ Below w.heap.size w w' := by
  obtain ⟨g, c, rfl, ho⟩ := h
  obtain ⟨_, _, _, q4, q5⟩ := own_range ho
  have q6 : c ≤ 9223372036854775807 := by unfold maxLen at q5; omega
  have hll : l.length + 16 = (l ++ marksT).length := by rw [List.length_append]; rfl
  have hs := own_slk (R := strE) (cells := tCells) (fun _ => rfl) (fun _ _ _ => rfl) hll (by omega) ho
  have HK := Lib.hid (texts_kfull _ u l w hs h' hby)
  obtain ⟨A', cap', rfl, m1, m2⟩ := h'.form
  have m3 : cap' ≤ 9223372036854775807 := by unfold maxLen at m2; omega
  clear ho h' hs hll q5 m2
  go_enter Tryd.func34, Tryd.ntmps34
  go_wp2_with (go_at_call 61; refine (HK.out).mono ?_; rintro e w1 ⟨rfl, hb1⟩; have HB := Lib.hid hb1; clear hb1)
  go_ret
  exact ⟨rfl, HB.out⟩

end textsK
end Go.Proofs.YtllbpanfhlbbgaaDoor
