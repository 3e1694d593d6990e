/- The closed statement FrameKnown: its texts of bits; knownSaid, knownTurned. Condition: none for these two. -/
import Derived.Test.YthjjockimpndbaaDoorZFrameFive
import Derived.Test.YthjjockimpndbaaDoorZWire
import Derived.Test.YthjjockimpndbaaDoorZWorks
import Derived.Test.YthjjockimpndbaaDoorZKit
import Derived.WalkLawsBesides
import Derived.WalkSpells
namespace Go.Proofs.YthjjockimpndbaaDoor.frameKnownW
open Go.RowKit Go.Bus Go.Bus.bitK
set_option linter.unusedVariables false
def bitOf (c : UInt8) : Bool := ((c.toNat : Int) == 49)
def bitsOf (s : ByteArray) : List Bool := s.data.toList.map bitOf
theorem bitsOf_len (s : ByteArray) : (bitsOf s).length = s.size := by simp [bitsOf]
set_option maxRecDepth 100000 in
set_option maxHeartbeats 1000000 in
theorem bools_any (s : ByteArray) (w : World) (hs : s.size ≤ 1000) : Calls Tryd.prog 66 #[.string s] w (putK.Own w.heap.size w (bitsOf s)) := by
  obtain ⟨i0, hi, hz0, hz1, hz2⟩ := info_parts Tryd.infoBool
  have hxs : ∀ k, ∀ h : k < s.size, ((bitsOf s).map Value.bool).take k ++ [Value.bool ((s[k].toNat : Int) == 49)] = ((bitsOf s).map Value.bool).take (k + 1) := by
    intro k h
    have h1 : ((bitsOf s).map Value.bool)[k]? = some (Value.bool ((s[k].toNat : Int) == 49)) := by
      unfold bitsOf
      rw [List.getElem?_map, List.getElem?_map, List.getElem?_eq_getElem (by simpa using h)]
      rfl
    rw [List.take_add_one, h1]; rfl
  have HXS := Lib.hid hxs; clear hxs
  go_enter Tryd.func66, Tryd.ntmps66
  go_wp2
  go_loopw [3, 4] (fun o i wr => ∃ k : Nat, k ≤ s.size ∧ i = .int .i64 k ∧ wr.ownsRow w.heap.size 4 1 o k (((bitsOf s).map Value.bool).take k) ∧ Below w.heap.size w wr) (fun _ i _ => s.size - (intOf i).toNat)
  case atStart => exact ⟨0, Nat.zero_le _, rfl, World.ownsRow_nil _ _ _ _, Below.refl _ _⟩
  case round =>
    obtain ⟨k, hk, rfl, hown, hbel⟩ := hrel
    by_cases hlt : k < s.size
    · have HX := Lib.hid (HXS.out k hlt)
      go_wp2_with (at_builtin; refine wpList_append_own _ rfl _ _ 48 rfl w.heap.size 4 i0 (.bool false) 1 1 Tryd.underlying48 hi hz0 hz1 hz2 rfl (by decide) _ _ _ rfl (hown.alloc _) ⟨wr.heap.size, 0, none⟩ 1 1 [.bool ((s[k].toNat : Int) == 49)] rfl rfl ?c1 ?c2 ?c3 ?c4 ?c5 ?_)
      case c1 => exact one_new wr _ _
      case c2 => intro u hu; simp at hu; subst hu; rfl
      case c3 => unfold maxLen; omega
      case c4 => omega
      case c5 => have := hbel.size; simp; omega
      intro v' w1 hown' hgrow _
      have hr := Round.step hbel hown hown' hgrow (hxs := HX.out)
      clear hown hown' hgrow hbel
      obtain ⟨hown1, hbel1⟩ := hr
      go_wp2
      go_roundw
      case rel => exact ⟨k + 1, by omega, by go_num, hown1, hbel1⟩
      case measure => first | (simp [intOf]; done) | (simp [intOf]; omega)
    · obtain rfl : k = s.size := by omega
      rw [List.take_of_length_le (by rw [List.length_map, bitsOf_len]; exact Nat.le_refl _)] at hown
      have HO := Lib.hid hown; clear hown
      go_wp2
      go_ret
      exact ⟨_, rfl, by rw [bitsOf_len]; exact HO.out, hbel⟩
theorem same_yes (v u : Value) (l m : List Bool) (w : World) (B : Nat) (h : Sl w B Value.bool v l) (h' : Sl w B Value.bool u m) (e : l = m) :
    Calls Tryd.prog 21 #[v, u] w fun e w' => e = .returned (.bool true) ∧ ∃ n, w' = w.drewN n :=
  (sameW.bools_any v u l m w B h h').mono fun e1 w' ⟨h1, h2⟩ => ⟨by rw [h1, decide_eq_true e], h2⟩
theorem sl_block {α : Type} {w : World} {g : Nat} {t : TypeId} {f : α → Value} {l : List α} {n : Nat} (h : Has w g t (l.map f).toArray) (hn : l.length = n) (hl : n ≤ 1000) : Sl w w.heap.size f (.slice (some ⟨g, 0, none⟩) n n) l := by
  subst hn
  refine ⟨_, l.length, rfl, Nat.le_refl _, by unfold maxLen; omega, fun h0 => ⟨g, 0, rfl, h.lt, fun i x hi => ?_⟩⟩
  rw [h.cell]
  simp [hi]

set_option maxRecDepth 100000 in
set_option maxHeartbeats 1000000 in
set_option maxHeartbeats 4000000 in
theorem turned (w : World) : Calls Tryd.prog 34 #[] w fun e w' => e = .returned (.bool true) ∧ Below w.heap.size w w' := by
  go_enter Tryd.func34, Tryd.ntmps34
  obtain ⟨W1, hW1⟩ : ∃ W1, W1 = (w.alloc (.cells #[.int .u8 85] 5)).alloc (.cells #[.int .u32 677, .bool false, .slice (some ⟨w.heap.size, 0, none⟩) 1 1] 46) := ⟨_, rfl⟩
  have HD1 := Lib.hid (show Has W1 w.heap.size 5 (([85] : List Int).map (Value.int .u8)).toArray by rw [hW1]; exact (Has.new w _ _).alloc _)
  have HF1 := Lib.hid (show Has W1 (w.heap.size + 1) 46 #[.int .u32 677, .bool false, .slice (some ⟨w.heap.size, 0, none⟩) 1 1] by
    rw [hW1]; have := Has.new (w.alloc (.cells #[.int .u8 85] 5)) 46 #[.int .u32 677, .bool false, .slice (some ⟨w.heap.size, 0, none⟩) 1 1]; simpa using this)
  have HB1 := Lib.hid (show Below w.heap.size w W1 by rw [hW1]; exact ((Below.refl _ w).alloc (Nat.le_refl _) _).alloc (by simp) _)
  have HW1 := Lib.hid hW1
  clear hW1
  go_wp2
  rw [← HW1.out]
  go_loopw [2] (fun i wr => ∃ k : Nat, i = .int .i64 k ∧ k ≤ 42 ∧ Below W1.heap.size W1 wr) (fun i _ => 42 - (intOf i).toNat)
  case atStart => exact ⟨0, rfl, by omega, Below.refl _ _⟩
  case round =>
    obtain ⟨k, rfl, hk, hB⟩ := hrel
    have HB := Lib.hid hB
    clear hB
    by_cases hlt : k < 42
    · have dk : decide ((k : Int) < 42) = true := decide_eq_true (by omega)
      go_wp2
      clear dk
      go_loopw [3] (fun i wr => ∃ j : Nat, i = .int .i64 j ∧ j ≤ 42 ∧ Below W1.heap.size W1 wr) (fun i _ => 42 - (intOf i).toNat)
      case atStart => exact ⟨0, rfl, by omega, HB.out⟩
      case round =>
        clear HB
        obtain ⟨j, rfl, hj, hB⟩ := hrel
        have HB := Lib.hid hB
        have HDr := Lib.hid (HD1.out.below hB HD1.out.lt)
        have HFr := Lib.hid (HF1.out.below hB HF1.out.lt)
        clear hB
        by_cases hlt2 : j < 42
        · have c0 := HFr.out.cell 0
          have c1 := HFr.out.cell 1
          have c2 := HFr.out.cell 2
          simp only [List.getElem?_toArray, List.getElem?_cons_zero, List.getElem?_cons_succ] at c0 c1 c2
          have hz := HFr.out.lt
          go_wp2_with fail
          refine (frameFive.walk 677 false _ _ [85] [(k : Int), (j : Int)] _ (by omega) (by omega) (sl_block (by exact HDr.out.alloc _) rfl (by first | omega | simp)) (by intro x hx; simp at hx; omega) (sl_block (by exact Has.new wr _ _) rfl (by first | omega | simp)) (by intro x hx; simp at hx; omega) (by simp)).mono ?_
          rintro e w2 ⟨rfl, hb⟩
          have hb2 : Below wr.heap.size wr w2 := Below.trans (b := _) (by exact (Below.refl _ wr).alloc (Nat.le_refl _) _) (hb.mono (by simp))
          have HD2 := Lib.hid (HDr.out.below hb2 HDr.out.lt)
          have HF2 := Lib.hid (HFr.out.below hb2 HFr.out.lt)
          have HB2 := Lib.hid (HB.out.trans (hb2.mono HB.out.size))
          clear hb hb2 c0 c1 c2 hz HDr HFr HB
          have c0 := HF2.out.cell 0
          have c1 := HF2.out.cell 1
          have c2 := HF2.out.cell 2
          simp only [List.getElem?_toArray, List.getElem?_cons_zero, List.getElem?_cons_succ] at c0 c1 c2
          go_wp2_with fail
          refine (frameFive.walk 677 false _ _ [85] [(k : Int), (j : Int), 41, 13, 18] _ (by omega) (by omega) (sl_block (by exact HD2.out.alloc _) rfl (by first | omega | simp)) (by intro x hx; simp at hx; omega) (sl_block (by exact Has.new w2 _ _) rfl (by first | omega | simp)) (by intro x hx; simp at hx; omega) (by simp)).mono ?_
          rintro e w3 ⟨rfl, hb⟩
          have hb2 : Below w2.heap.size w2 w3 := Below.trans (b := _) (by exact (Below.refl _ w2).alloc (Nat.le_refl _) _) (hb.mono (by simp))
          have HD3 := Lib.hid (HD2.out.below hb2 HD2.out.lt)
          have HF3 := Lib.hid (HF2.out.below hb2 HF2.out.lt)
          have HB3 := Lib.hid (HB2.out.trans (hb2.mono HB2.out.size))
          clear hb hb2 c0 c1 c2 HD2 HF2 HB2
          have c0 := HF3.out.cell 0
          have c1 := HF3.out.cell 1
          have c2 := HF3.out.cell 2
          simp only [List.getElem?_toArray, List.getElem?_cons_zero, List.getElem?_cons_succ] at c0 c1 c2
          go_wp2_with fail
          refine (frameFive.walk 677 false _ _ [85] [(k : Int), 13, 12, (j : Int), 16] _ (by omega) (by omega) (sl_block (by exact HD3.out.alloc _) rfl (by first | omega | simp)) (by intro x hx; simp at hx; omega) (sl_block (by exact Has.new w3 _ _) rfl (by first | omega | simp)) (by intro x hx; simp at hx; omega) (by simp)).mono ?_
          rintro e w4 ⟨rfl, hb⟩
          have hb2 : Below w3.heap.size w3 w4 := Below.trans (b := _) (by exact (Below.refl _ w3).alloc (Nat.le_refl _) _) (hb.mono (by simp))
          have HB4 := Lib.hid (HB3.out.trans (hb2.mono HB3.out.size))
          clear hb hb2 c0 c1 c2 HD3 HF3 HB3
          go_wp2
          go_roundw
          case rel => first | exact ⟨j + 1, by go_num, by omega, HB4.out⟩ | ((repeat apply Exists.intro); exact ⟨⟨j + 1, by go_num, by omega, HB4.out⟩, rfl⟩)
          case measure => first | (simp [intOf]; done) | (simp [intOf]; omega)
        · obtain rfl : j = 42 := by omega
          go_wp2
          go_roundw
          case rel => exact ⟨k + 1, by go_num, by omega, HB.out⟩
          case measure => first | (simp [intOf]; done) | (simp [intOf]; omega)
    · obtain rfl : k = 42 := by omega
      go_wp2
      go_ret
      exact ⟨rfl, HB1.out.trans (HB.out.mono HB1.out.size)⟩

set_option maxRecDepth 100000 in
set_option maxHeartbeats 1000000 in
set_option maxHeartbeats 4000000 in
theorem said (w : World) : Calls Tryd.prog 31 #[] w fun e w' => e = .returned (.bool true) ∧ Below w.heap.size w w' := by
  go_enter Tryd.func31, Tryd.ntmps31
  go_wp2_with fail
  refine (bitsW.bits_ok 2047 false _ [] _ (Sl.nil_ _ _ _) (by omega) (by omega) (fun _ => by omega) (by simp) (by simp)).mono ?_
  rintro e w1 ⟨va, rfl, ho, hb⟩
  have HA1 := Lib.hid ho
  have HB1 := Lib.hid hb
  clear ho hb
  go_wp2_with fail
  refine (bitsW.bits_ok 0 true _ [] _ (Sl.nil_ _ _ _) (by omega) (by omega) (fun h => by cases h) (by simp) (by simp)).mono ?_
  rintro e w2 ⟨vb, rfl, ho, hb⟩
  have HA2 := Lib.hid (own_kept HA1.out hb)
  have HC2 := Lib.hid ho
  have HB2 := Lib.hid (HB1.out.trans (hb.mono HB1.out.size))
  clear ho hb
  go_wp2_with fail
  refine (wireW.encode_ok 0 false _ [] _ (Sl.nil_ _ _ _) (by omega) (by omega) (fun _ => by omega) (by simp) (by simp)).mono ?_
  rintro e w3 ⟨vc, rfl, ho, hb⟩
  have HA3 := Lib.hid (own_kept HA2.out hb)
  have HC3 := Lib.hid (own_kept HC2.out hb)
  have HD3 := Lib.hid ho
  have HB3 := Lib.hid (HB2.out.trans (hb.mono HB2.out.size))
  clear ho hb
  go_wp2_with fail
  refine (worksW.works_yes _).mono ?_
  rintro e w4 ⟨rfl, hb⟩
  have HA4 := Lib.hid (own_kept HA3.out hb)
  have HC4 := Lib.hid (own_kept HC3.out hb)
  have HD4 := Lib.hid (own_kept HD3.out hb)
  have HB4 := Lib.hid (HB3.out.trans (hb.mono HB3.out.size))
  clear hb
  go_wp2_with fail
  refine (bools_any _ _ (by decide)).mono ?_
  rintro e w5 ⟨v5, rfl, ho, hb⟩
  have HA5 := Lib.hid (own_kept HA4.out hb)
  have HC5 := Lib.hid (own_kept HC4.out hb)
  have HD5 := Lib.hid (own_kept HD4.out hb)
  have HE5 := Lib.hid ho
  have HB5 := Lib.hid (HB4.out.trans (hb.mono HB4.out.size))
  clear ho hb
  go_wp2_with fail
  refine (same_yes _ _ _ _ w5 w5.heap.size (Sl.of_own HA5.out) (Sl.of_own HE5.out) (by decide +kernel)).mono ?_
  rintro e w6 ⟨rfl, n6, rfl⟩
  go_wp2_with fail
  refine (bools_any _ _ (by decide)).mono ?_
  rintro e w7 ⟨v7, rfl, ho, hb0⟩
  have hb : Below w5.heap.size w5 w7 := Below.trans (b := _) (by exact below_drewN (Below.refl _ w5) n6) (by exact hb0)
  have HC7 := Lib.hid (own_kept HC5.out hb)
  have HD7 := Lib.hid (own_kept HD5.out hb)
  have HE7 := Lib.hid ho
  have HB7 := Lib.hid (HB5.out.trans (hb.mono HB5.out.size))
  clear ho hb hb0
  go_wp2_with fail
  refine (same_yes _ _ _ _ w7 w7.heap.size (Sl.of_own HC7.out) (Sl.of_own HE7.out) (by decide +kernel)).mono ?_
  rintro e w8 ⟨rfl, n8, rfl⟩
  go_wp2_with fail
  refine (bools_any _ _ (by decide)).mono ?_
  rintro e w9 ⟨v9, rfl, ho, hb0⟩
  have hb : Below w7.heap.size w7 w9 := Below.trans (b := _) (by exact below_drewN (Below.refl _ w7) n8) (by exact hb0)
  have HD9 := Lib.hid (own_kept HD7.out hb)
  have HE9 := Lib.hid ho
  have HB9 := Lib.hid (HB7.out.trans (hb.mono HB7.out.size))
  clear ho hb hb0
  go_wp2_with fail
  refine (same_yes _ _ _ _ w9 w9.heap.size (Sl.of_own HD9.out) (Sl.of_own HE9.out) (by decide +kernel)).mono ?_
  rintro e w10 ⟨rfl, n10, rfl⟩
  go_wp2
  go_ret
  exact ⟨rfl, below_drewN HB9.out _⟩
end Go.Proofs.YthjjockimpndbaaDoor.frameKnownW
