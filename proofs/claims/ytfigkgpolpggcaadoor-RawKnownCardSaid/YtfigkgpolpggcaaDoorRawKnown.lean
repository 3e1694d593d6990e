/- Proves RawKnownCardSaid: all sizes at all their ends; texts; the chapter's examples. Condition: the card's listed variables. -/
import Derived.Test.YtfigkgpolpggcaaDoorRows
import Derived.Test.YtfigkgpolpggcaaDoorDoor
import Derived.Test.YtfigkgpolpggcaaDoorCards
import Derived.Test.YtfigkgpolpggcaaDoorTie
import Derived.Test.YtfigkgpolpggcaaDoorOpen
import Derived.SevenTiedAt
import Derived.Test.YtfigkgpolpggcaaDoorRawWalks
import Derived.Outline
namespace Go.Proofs.YtfigkgpolpggcaaDoor.rawKnown
open Go.RowKit Go.Bus Go.Bus.rawK Go.Bus.textK Go.ChangeShapes Go.WideShapes Go.ChangeAt Go.Joins
set_option linter.unusedVariables false
theorem infoI : (Tryd.prog.info? 3).map (fun i => (i.zero, i.size, i.bytes)) = some (some (.int .i64 0), 1, 8) := by kernel_rfl
def texts : Array Value := #[Value.string ⟨#[]⟩, Value.string ⟨#[45]⟩, Value.string ⟨#[48]⟩, Value.string ⟨#[45, 48]⟩, Value.string ⟨#[48, 48]⟩, Value.string ⟨#[48, 49]⟩, Value.string ⟨#[45, 48, 49]⟩, Value.string ⟨#[49]⟩, Value.string ⟨#[45, 49]⟩, Value.string ⟨#[43, 49]⟩, Value.string ⟨#[32, 49]⟩, Value.string ⟨#[49, 32]⟩, Value.string ⟨#[49, 97]⟩, Value.string ⟨#[97]⟩, Value.string ⟨#[45, 45, 49]⟩, Value.string ⟨#[57, 50, 50, 51, 51, 55, 50, 48, 51, 54, 56, 53, 52, 55, 55, 53, 56, 48, 55]⟩, Value.string ⟨#[57, 50, 50, 51, 51, 55, 50, 48, 51, 54, 56, 53, 52, 55, 55, 53, 56, 48, 56]⟩, Value.string ⟨#[45, 57, 50, 50, 51, 51, 55, 50, 48, 51, 54, 56, 53, 52, 55, 55, 53, 56, 48, 56]⟩, Value.string ⟨#[45, 57, 50, 50, 51, 51, 55, 50, 48, 51, 54, 56, 53, 52, 55, 55, 53, 56, 48, 57]⟩, Value.string ⟨#[49, 56, 52, 52, 54, 55, 52, 52, 48, 55, 51, 55, 48, 57, 53, 53, 49, 54, 49, 53]⟩, Value.string ⟨#[49, 56, 52, 52, 54, 55, 52, 52, 48, 55, 51, 55, 48, 57, 53, 53, 49, 54, 49, 54]⟩, Value.string ⟨#[49, 56, 52, 52, 54, 55, 52, 52, 48, 55, 51, 55, 48, 57, 53, 53, 49, 54, 50, 48]⟩, Value.string ⟨#[57, 57, 57, 57, 57, 57, 57, 57, 57, 57, 57, 57, 57, 57, 57, 57, 57, 57, 57, 57]⟩, Value.string ⟨#[49, 48, 48, 48, 48, 48, 48, 48, 48, 48, 48, 48, 48, 48, 48, 48, 48, 48, 48, 48, 48, 48, 48, 48]⟩, Value.string ⟨#[45, 49, 56, 52, 52, 54, 55, 52, 52, 48, 55, 51, 55, 48, 57, 53, 53, 49, 54, 49, 54]⟩, Value.string ⟨#[51, 54, 56, 57, 51, 52, 56, 56, 49, 52, 55, 52, 49, 57, 49, 48, 51, 50, 51, 50]⟩, Value.string ⟨#[49, 0]⟩, Value.string ⟨#[255]⟩, Value.string ⟨#[57, 57, 57, 57, 57, 57, 57, 57, 57, 57, 57, 57, 57, 57, 57, 57, 57, 57, 57, 57, 120]⟩]
def strs : List ByteArray := [⟨#[]⟩, ⟨#[45]⟩, ⟨#[48]⟩, ⟨#[45, 48]⟩, ⟨#[48, 48]⟩, ⟨#[48, 49]⟩, ⟨#[45, 48, 49]⟩, ⟨#[49]⟩, ⟨#[45, 49]⟩, ⟨#[43, 49]⟩, ⟨#[32, 49]⟩, ⟨#[49, 32]⟩, ⟨#[49, 97]⟩, ⟨#[97]⟩, ⟨#[45, 45, 49]⟩, ⟨#[57, 50, 50, 51, 51, 55, 50, 48, 51, 54, 56, 53, 52, 55, 55, 53, 56, 48, 55]⟩, ⟨#[57, 50, 50, 51, 51, 55, 50, 48, 51, 54, 56, 53, 52, 55, 55, 53, 56, 48, 56]⟩, ⟨#[45, 57, 50, 50, 51, 51, 55, 50, 48, 51, 54, 56, 53, 52, 55, 55, 53, 56, 48, 56]⟩, ⟨#[45, 57, 50, 50, 51, 51, 55, 50, 48, 51, 54, 56, 53, 52, 55, 55, 53, 56, 48, 57]⟩, ⟨#[49, 56, 52, 52, 54, 55, 52, 52, 48, 55, 51, 55, 48, 57, 53, 53, 49, 54, 49, 53]⟩, ⟨#[49, 56, 52, 52, 54, 55, 52, 52, 48, 55, 51, 55, 48, 57, 53, 53, 49, 54, 49, 54]⟩, ⟨#[49, 56, 52, 52, 54, 55, 52, 52, 48, 55, 51, 55, 48, 57, 53, 53, 49, 54, 50, 48]⟩, ⟨#[57, 57, 57, 57, 57, 57, 57, 57, 57, 57, 57, 57, 57, 57, 57, 57, 57, 57, 57, 57]⟩, ⟨#[49, 48, 48, 48, 48, 48, 48, 48, 48, 48, 48, 48, 48, 48, 48, 48, 48, 48, 48, 48, 48, 48, 48, 48]⟩, ⟨#[45, 49, 56, 52, 52, 54, 55, 52, 52, 48, 55, 51, 55, 48, 57, 53, 53, 49, 54, 49, 54]⟩, ⟨#[51, 54, 56, 57, 51, 52, 56, 56, 49, 52, 55, 52, 49, 57, 49, 48, 51, 50, 51, 50]⟩, ⟨#[49, 0]⟩, ⟨#[255]⟩, ⟨#[57, 57, 57, 57, 57, 57, 57, 57, 57, 57, 57, 57, 57, 57, 57, 57, 57, 57, 57, 57, 120]⟩]
theorem texts_eq : texts = (strs.map Value.string).toArray := rfl
theorem texts_all (i : Nat) (h : i < 29) : ∃ s : ByteArray, texts[i]? = some (.string s) ∧ s.size ≤ 140737488351232 := by
  have hl : i < strs.length := h
  refine ⟨strs[i], ?_, ?_⟩
  · rw [texts_eq, List.getElem?_toArray, List.getElem?_map, List.getElem?_eq_getElem hl]; rfl
  · have := List.all_eq_true.1 (show strs.all (fun s => decide (s.size ≤ 1000)) = true by decide) _ (List.getElem_mem hl)
    have h2 := of_decide_eq_true this
    omega
theorem wrap_lo (x : Int) : 0 ≤ IntKind.u64.wrap x := by rw [IntKind.wrap_u64]; omega
theorem wrap_hi (x : Int) : IntKind.u64.wrap x < 18446744073709551616 := by rw [IntKind.wrap_u64]; omega

set_option maxRecDepth 100000 in
set_option maxHeartbeats 2000000 in
theorem said_yes (w : World) (hg : asK.ErrT w) (hr : laidK.Rng w) : Calls Tryd.prog 28 #[] w fun e w' => e = .returned (.bool true) ∧ Below w.heap.size w w' := by
  have HG := Lib.hid hg; clear hg
  have HR := Lib.hid hr; clear hr
  have p1 : pz [45, 49, 50] true = (18446744073709551604, 0) := by decide +kernel
  have p2 : pz [45, 49, 50] false = (0, 8) := by decide +kernel
  have p3 : pz [57, 50, 50, 51, 51, 55, 50, 48, 51, 54, 56, 53, 52, 55, 55, 53, 56, 48, 56] true = (0, 9) := by decide +kernel
  have P1 := Lib.hid p1
  have P2 := Lib.hid p2
  have P3 := Lib.hid p3
  clear p1 p2 p3
  have a1 : eLo 8 true = 18446744073709551488 := by decide +kernel
  have a2 : eHi 8 true = 127 := by decide +kernel
  have a3 : eLo 1 true = 18446744073709551615 := by decide +kernel
  have a4 : eHi 1 true = 0 := by decide +kernel
  have a5 : lowZ 511 8 = 255 := by decide +kernel
  have a6 : extZ 128 8 true = 18446744073709551488 := by decide +kernel
  go_enter Tryd.func28, Tryd.ntmps28
  go_wp2_with fail
  refine (rawW.ends_any _ _ _).mono ?_
  rintro e w2 ⟨rfl, rfl⟩
  go_wp2_with fail
  refine (rawW.ends_any _ _ _).mono ?_
  rintro e w2 ⟨rfl, rfl⟩
  go_wp2_with fail
  refine (rawQ.parse_any _ _ _ (by decide) HR.out).mono ?_
  rintro e w2 h2
  obtain ⟨rfl, hb2⟩ := h2
  have HB2 := Lib.hid hb2; clear hb2
  rw [show (⟨#[45, 49, 50]⟩ : ByteArray).data.toList = [45, 49, 50] from rfl, P1.out]
  rw [show rawQ.errV (((18446744073709551604 : Int), (0 : Int)).2) = Value.nilIface from rfl]
  go_wp2_with fail
  refine (rawQ.parse_any _ _ _ (by decide) (HR.out.at_below HB2.out)).mono ?_
  rintro e w3 h3
  obtain ⟨rfl, hb3⟩ := h3
  have HB3 := Lib.hid (HB2.out.trans (hb3.mono HB2.out.size)); clear hb3
  rw [show (⟨#[45, 49, 50]⟩ : ByteArray).data.toList = [45, 49, 50] from rfl, P2.out]
  rw [show rawQ.errV (((0 : Int), (8 : Int)).2) = .iface 89 (.int .i64 8) from rfl]
  go_wp2_with fail
  refine (rawQ.parse_any _ _ _ (by decide) (HR.out.at_below HB3.out)).mono ?_
  rintro e w4 h4
  obtain ⟨rfl, hb4⟩ := h4
  have HB4 := Lib.hid (HB3.out.trans (hb4.mono HB3.out.size)); clear hb4
  rw [show (⟨#[57, 50, 50, 51, 51, 55, 50, 48, 51, 54, 56, 53, 52, 55, 55, 53, 56, 48, 56]⟩ : ByteArray).data.toList = [57, 50, 50, 51, 51, 55, 50, 48, 51, 54, 56, 53, 52, 55, 55, 53, 56, 48, 56] from rfl, P3.out]
  rw [show rawQ.errV (((0 : Int), (9 : Int)).2) = .iface 89 (.int .i64 9) from rfl]
  go_wp2_with fail
  refine (rawW.low_any _ _ _ (by omega) (by omega)).mono ?_
  rintro e w5 ⟨rfl, rfl⟩
  go_wp2_with fail
  refine (rawW.extend_any _ _ _ _ (by omega) (by omega)).mono ?_
  rintro e w5 ⟨rfl, rfl⟩
  go_wp2_with fail
  refine (asK.plain_no 8 _ (by omega) (by omega) (HG.out.at_below HB4.out)).mono ?_
  rintro e w6 ⟨rfl, hb6⟩
  have HB6 := Lib.hid (HB4.out.trans (hb6.mono HB4.out.size)); clear hb6
  go_wp2_with fail
  refine (asK.plain_no 9 _ (by omega) (by omega) (HG.out.at_below HB6.out)).mono ?_
  rintro e w7 ⟨rfl, hb7⟩
  have HB7 := Lib.hid (HB6.out.trans (hb7.mono HB6.out.size)); clear hb7
  go_wp2
  go_ret
  exact ⟨rfl, HB7.out⟩

set_option maxRecDepth 100000 in
set_option maxHeartbeats 2000000 in
theorem sizes_yes (w : World) : Calls Tryd.prog 26 #[] w fun e w' => e = .returned (.bool true) ∧ Below w.heap.size w w' := by
  obtain ⟨i0, hi, hz0, hz1, hz2⟩ := info_parts infoI
  go_enter Tryd.func26, Tryd.ntmps26
  go_wp2
  go_loopw [1, 2] (fun v n wr => ∃ (k : Nat) (xs : List Int), k ≤ 64 ∧ xs.length = 7 + k ∧ n = .int .i64 ((k + 1 : Nat) : Int) ∧ wr.ownsRow w.heap.size 3 1 v xs.length (xs.map (Value.int .i64)) ∧ Below w.heap.size w wr) (fun _ n _ => 65 - (intOf n).toNat)
  case atStart => exact ⟨0, [-9223372036854775808, -1, 0, 65, 66, 128, 9223372036854775807], by omega, rfl, rfl, ⟨rfl, .inr ⟨w.heap.size, 7, _, rfl, Nat.le_refl _, heap_alloc_new w _, Nat.le_refl _, by unfold maxLen; omega, rfl, rfl⟩⟩, (by repeat (first | exact Below.refl _ _ | assumption | refine Below.drew ?_ | refine below_drewN ?_ _ | (refine Below.alloc ?_ (by (try simp); (try omega)) _) | (refine Below.setCell ?_ (by (try simp); (try omega)) _)))⟩
  case round =>
    obtain ⟨k, xs, hk, hxs, rfl, hown, hbel⟩ := hrel
    by_cases hlt : k < 64
    · go_wp2_with (at_builtin; refine wpList_append_own _ rfl _ _ 98 rfl w.heap.size 3 i0 (.int .i64 0) 1 8 Tryd.underlying98 hi hz0 hz1 hz2 rfl (by decide) _ _ _ rfl (hown.alloc _) ⟨wr.heap.size, 0, none⟩ 1 1 [.int .i64 ((k + 1 : Nat) : Int)] rfl rfl ?c1 ?c2 ?c3 ?c4 ?c5 ?_)
      case c1 => exact one_new wr _ _
      case c2 => intro u hu; simp at hu; subst hu; rfl
      case c3 => unfold maxLen; omega
      case c4 => omega
      case c5 => have := hbel.size; simp; omega
      intro v' w1 hown' hgrow _
      have hr := Round.step (ys := (xs ++ [((k + 1 : Nat) : Int)]).map (Value.int .i64)) hbel hown hown' hgrow (hxs := by simp)
      clear hown hown' hgrow hbel
      obtain ⟨hown1, hbel1⟩ := hr
      have HO1 := Lib.hid hown1; clear hown1
      go_wp2
      go_roundw
      case rel => exact ⟨k + 1, xs ++ [((k + 1 : Nat) : Int)], by omega, by simp; omega, by go_num, by have := HO1.out; rw [List.length_append, List.length_singleton, hxs]; simpa using this, hbel1⟩
      case measure => first | (simp [intOf]; done) | (simp [intOf]; omega)
    · obtain rfl : k = 64 := by omega
      obtain ⟨wo, rfl⟩ : ∃ wo : World, wo = wr := ⟨_, rfl⟩
      obtain ⟨g, cap, rfl, _, _⟩ := own_form hown (by omega)
      have HS := Lib.hid (Sl.of_own hown)
      have HB := Lib.hid hbel
      have hn : xs.length = 71 := by omega
      clear hown hbel hxs hk hlt
      rw [hn, show ((64 + 1 : Nat) : Int) = 65 from rfl]
      go_wp2
      go_loopw [3] (fun i wr => ∃ j : Nat, j ≤ 71 ∧ i = .int .i64 j ∧ Below wo.heap.size wo wr) (fun i _ => 71 - (intOf i).toNat)
      case atStart => exact ⟨0, by omega, rfl, Below.refl _ _⟩
      case round =>
        obtain ⟨j, hj, rfl, hbj⟩ := hrel
        obtain ⟨w1, rfl⟩ : ∃ w1 : World, w1 = wr := ⟨_, rfl⟩
        have HBJ := Lib.hid hbj; clear hbj
        by_cases hlt : j < 71
        · have dj : decide ((j : Int) < 71) = true := decide_eq_true (by omega)
          obtain ⟨z, hz⟩ : ∃ z, z = xs[j]'(by omega) := ⟨_, rfl⟩
          have HC : Hid (∀ W, Below wo.heap.size wo W → W.cell? ⟨g, j, none⟩ = some (.int .i64 z)) := by
            obtain ⟨b, off, he, hb, hc⟩ := (hn ▸ HS.out).at_ (k := j) (by omega)
            obtain ⟨rfl, rfl⟩ : g = b ∧ 0 = off := by simpa using he
            rw [← hz, Nat.zero_add] at hc
            exact Lib.hid (fun W hW => (hW.cell (p := ⟨g, j, none⟩) hb).trans hc)
          clear hz
          go_wp2
          go_loopw [4] (fun i wr => ∃ k : Nat, k ≤ 65 ∧ i = .int .i64 k ∧ Below wo.heap.size wo wr) (fun i _ => 65 - (intOf i).toNat)
          case atStart => exact ⟨0, by omega, rfl, HBJ.out⟩
          case round =>
            clear HBJ
            obtain ⟨k, hk, rfl, hbk⟩ := hrel
            obtain ⟨w2, rfl⟩ : ∃ w2 : World, w2 = wr := ⟨_, rfl⟩
            have HBw2 := Lib.hid hbk; clear hbk
            by_cases hlk : k < 65
            · have dk : decide ((k : Int) ≤ 64) = true := decide_eq_true (by omega)
              go_wp2
              go_loopw [6] (fun i wr => ∃ q : Nat, q ≤ 5 ∧ i = .int .i64 ((q : Int) - 2) ∧ Below wo.heap.size wo wr) (fun i _ => (3 - intOf i).toNat)
              case atStart => exact ⟨0, by omega, rfl, HBw2.out⟩
              case round =>
                clear HBw2
                obtain ⟨q, hq, rfl, hbq⟩ := hrel
                obtain ⟨w3, rfl⟩ : ∃ w3 : World, w3 = wr := ⟨_, rfl⟩
                have HBw3 := Lib.hid hbq; clear hbq
                by_cases hlq : q < 5
                · have dq : decide ((q : Int) - 2 ≤ 2) = true := decide_eq_true (by omega)
                  have cw3 := HC.out w3 HBw3.out
                  go_wp2_with fail
                  refine (rawFitsW.walk _ z false _ (wrap_lo _) (wrap_hi _)).mono ?_
                  rintro e w4 ⟨rfl, hbw4⟩
                  have HBw4 := Lib.hid (HBw3.out.trans (hbw4.mono HBw3.out.size))
                  clear hbw4 cw3
                  have cw4 := HC.out w4 HBw4.out
                  go_wp2_with fail
                  refine (rawFitsW.walk _ z true _ (wrap_lo _) (wrap_hi _)).mono ?_
                  rintro e w5 ⟨rfl, hbw5⟩
                  have HBw5 := Lib.hid (HBw4.out.trans (hbw5.mono HBw4.out.size))
                  clear hbw5 cw4
                  have cw5 := HC.out w5 HBw5.out
                  go_wp2_with fail
                  refine (rawFitsW.walk _ z false _ (wrap_lo _) (wrap_hi _)).mono ?_
                  rintro e w6 ⟨rfl, hbw6⟩
                  have HBw6 := Lib.hid (HBw5.out.trans (hbw6.mono HBw5.out.size))
                  clear hbw6 cw5
                  have cw6 := HC.out w6 HBw6.out
                  go_wp2_with fail
                  refine (rawFitsW.walk _ z true _ (wrap_lo _) (wrap_hi _)).mono ?_
                  rintro e w7 ⟨rfl, hbw7⟩
                  have HBw7 := Lib.hid (HBw6.out.trans (hbw7.mono HBw6.out.size))
                  clear hbw7 cw6
                  go_wp2
                  go_roundw
                  case rel => exact ⟨q + 1, by omega, by first | rfl | go_num | (congr 1; omega), HBw7.out⟩
                  case measure => first | (simp [intOf]; done) | (simp [intOf]; omega)
                · go_wp2
                  go_roundw
                  case rel => exact ⟨k + 1, by omega, by go_num, HBw3.out⟩
                  case measure => first | (simp [intOf]; done) | (simp [intOf]; omega)
            · have dk : decide ((k : Int) ≤ 64) = false := decide_eq_false (by omega)
              have cw2 := HC.out w2 HBw2.out
              go_wp2_with fail
              refine (rawEndsW.walk z false _).mono ?_
              rintro e w3 ⟨rfl, hbw3⟩
              have HBw3 := Lib.hid (HBw2.out.trans (hbw3.mono HBw2.out.size))
              clear hbw3 cw2
              have cw3 := HC.out w3 HBw3.out
              go_wp2_with fail
              refine (rawEndsW.walk z true _).mono ?_
              rintro e w4 ⟨rfl, hbw4⟩
              have HBw4 := Lib.hid (HBw3.out.trans (hbw4.mono HBw3.out.size))
              clear hbw4 cw3
              go_wp2
              go_roundw
              case rel => exact ⟨j + 1, by omega, by go_num, HBw4.out⟩
              case measure => first | (simp [intOf]; done) | (simp [intOf]; omega)
        · go_wp2
          go_ret
          exact ⟨rfl, HB.out.trans (HBJ.out.mono HB.out.size)⟩

set_option maxRecDepth 100000 in
set_option maxHeartbeats 2000000 in
theorem texts_yes (w : World) (hg : asK.ErrT w) (hr : laidK.Rng w) (ht : rawP.Tab w) : Calls Tryd.prog 27 #[] w fun e w' => e = .returned (.bool true) ∧ Below w.heap.size w w' := by
  have HG := Lib.hid hg; clear hg
  have HR := Lib.hid hr; clear hr
  have HT := Lib.hid ht; clear ht
  go_enter Tryd.func27, Tryd.ntmps27
  go_wp2
  obtain ⟨cs, hcs⟩ : ∃ cs : Array Value, cs = texts := ⟨_, rfl⟩
  rw [show #[Value.string ⟨#[]⟩, Value.string ⟨#[45]⟩, Value.string ⟨#[48]⟩, Value.string ⟨#[45, 48]⟩, Value.string ⟨#[48, 48]⟩, Value.string ⟨#[48, 49]⟩, Value.string ⟨#[45, 48, 49]⟩, Value.string ⟨#[49]⟩, Value.string ⟨#[45, 49]⟩, Value.string ⟨#[43, 49]⟩, Value.string ⟨#[32, 49]⟩, Value.string ⟨#[49, 32]⟩, Value.string ⟨#[49, 97]⟩, Value.string ⟨#[97]⟩, Value.string ⟨#[45, 45, 49]⟩, Value.string ⟨#[57, 50, 50, 51, 51, 55, 50, 48, 51, 54, 56, 53, 52, 55, 55, 53, 56, 48, 55]⟩, Value.string ⟨#[57, 50, 50, 51, 51, 55, 50, 48, 51, 54, 56, 53, 52, 55, 55, 53, 56, 48, 56]⟩, Value.string ⟨#[45, 57, 50, 50, 51, 51, 55, 50, 48, 51, 54, 56, 53, 52, 55, 55, 53, 56, 48, 56]⟩, Value.string ⟨#[45, 57, 50, 50, 51, 51, 55, 50, 48, 51, 54, 56, 53, 52, 55, 55, 53, 56, 48, 57]⟩, Value.string ⟨#[49, 56, 52, 52, 54, 55, 52, 52, 48, 55, 51, 55, 48, 57, 53, 53, 49, 54, 49, 53]⟩, Value.string ⟨#[49, 56, 52, 52, 54, 55, 52, 52, 48, 55, 51, 55, 48, 57, 53, 53, 49, 54, 49, 54]⟩, Value.string ⟨#[49, 56, 52, 52, 54, 55, 52, 52, 48, 55, 51, 55, 48, 57, 53, 53, 49, 54, 50, 48]⟩, Value.string ⟨#[57, 57, 57, 57, 57, 57, 57, 57, 57, 57, 57, 57, 57, 57, 57, 57, 57, 57, 57, 57]⟩, Value.string ⟨#[49, 48, 48, 48, 48, 48, 48, 48, 48, 48, 48, 48, 48, 48, 48, 48, 48, 48, 48, 48, 48, 48, 48, 48]⟩, Value.string ⟨#[45, 49, 56, 52, 52, 54, 55, 52, 52, 48, 55, 51, 55, 48, 57, 53, 53, 49, 54, 49, 54]⟩, Value.string ⟨#[51, 54, 56, 57, 51, 52, 56, 56, 49, 52, 55, 52, 49, 57, 49, 48, 51, 50, 51, 50]⟩, Value.string ⟨#[49, 0]⟩, Value.string ⟨#[255]⟩, Value.string ⟨#[57, 57, 57, 57, 57, 57, 57, 57, 57, 57, 57, 57, 57, 57, 57, 57, 57, 57, 57, 57, 120]⟩] = texts from rfl, ← hcs]
  have hall : ∀ i < 29, ∃ s : ByteArray, cs[i]? = some (.string s) ∧ s.size ≤ 140737488351232 := by
    subst hcs
    exact texts_all
  have HALL := Lib.hid hall
  clear hcs hall
  obtain ⟨wo, hwo⟩ : ∃ wo, wo = w.alloc (.cells cs 9) := ⟨_, rfl⟩
  have hh : Has wo w.heap.size 9 cs := by rw [hwo]; exact Has.new _ _ _
  have HH := Lib.hid hh
  have hbw : Below w.heap.size w wo := by rw [hwo]; exact (by repeat (first | exact Below.refl _ _ | assumption | refine Below.drew ?_ | refine below_drewN ?_ _ | (refine Below.alloc ?_ (by (try simp); (try omega)) _) | (refine Below.setCell ?_ (by (try simp); (try omega)) _)))
  have HBW := Lib.hid hbw
  rw [← hwo]
  clear hwo hh hbw
  go_loopw [2] (fun i wr => ∃ j : Nat, j ≤ 29 ∧ i = .int .i64 j ∧ Below wo.heap.size wo wr) (fun i _ => 29 - (intOf i).toNat)
  case atStart => exact ⟨0, by omega, rfl, Below.refl _ _⟩
  case round =>
    obtain ⟨j, hj, rfl, hbj⟩ := hrel
    obtain ⟨w1, rfl⟩ : ∃ w1 : World, w1 = wr := ⟨_, rfl⟩
    have HBw1 := Lib.hid hbj; clear hbj
    by_cases hlt : j < 29
    · obtain ⟨s, hs, hsz⟩ := HALL.out j hlt
      have HC : Hid (∀ W, Below wo.heap.size wo W → W.cell? ⟨w.heap.size, j, none⟩ = some (.string s)) :=
        Lib.hid (fun W hW => by rw [(HH.out.below hW HH.out.lt).cell]; exact hs)
      clear hs
      have cw1 := HC.out w1 HBw1.out
      go_wp2_with fail
      refine (rawParsesW.walk _ false _ (by assumption) (HG.out.at_below (HBW.out.trans (HBw1.out.mono HBW.out.size))) (HR.out.at_below (HBW.out.trans (HBw1.out.mono HBW.out.size)))).mono ?_
      rintro e w2 ⟨rfl, hbw2⟩
      have HBw2 := Lib.hid (HBw1.out.trans (hbw2.mono HBw1.out.size))
      clear hbw2 cw1
      have cw2 := HC.out w2 HBw2.out
      go_wp2_with fail
      refine (rawParsesW.walk _ true _ (by assumption) (HG.out.at_below (HBW.out.trans (HBw2.out.mono HBW.out.size))) (HR.out.at_below (HBW.out.trans (HBw2.out.mono HBW.out.size)))).mono ?_
      rintro e w3 ⟨rfl, hbw3⟩
      have HBw3 := Lib.hid (HBw2.out.trans (hbw3.mono HBw2.out.size))
      clear hbw3 cw2
      have cw3 := HC.out w3 HBw3.out
      go_wp2_with fail
      refine (rawBackW.walk _ false _ (by assumption) (HT.out.at_below (HBW.out.trans (HBw3.out.mono HBW.out.size))) (HR.out.at_below (HBW.out.trans (HBw3.out.mono HBW.out.size)))).mono ?_
      rintro e w4 ⟨rfl, hbw4⟩
      have HBw4 := Lib.hid (HBw3.out.trans (hbw4.mono HBw3.out.size))
      clear hbw4 cw3
      have cw4 := HC.out w4 HBw4.out
      go_wp2_with fail
      refine (rawBackW.walk _ true _ (by assumption) (HT.out.at_below (HBW.out.trans (HBw4.out.mono HBW.out.size))) (HR.out.at_below (HBW.out.trans (HBw4.out.mono HBW.out.size)))).mono ?_
      rintro e w5 ⟨rfl, hbw5⟩
      have HBw5 := Lib.hid (HBw4.out.trans (hbw5.mono HBw4.out.size))
      clear hbw5 cw4
      go_wp2
      go_roundw
      case rel => exact ⟨j + 1, by omega, by go_num, HBw5.out⟩
      case measure => first | (simp [intOf]; done) | (simp [intOf]; omega)
    · go_wp2
      go_loopw [3] (fun i wr => ∃ k : Nat, k ≤ 64 ∧ i = .int .i64 k ∧ Below wo.heap.size wo wr) (fun i _ => 64 - (intOf i).toNat)
      case atStart => exact ⟨0, by omega, rfl, HBw1.out⟩
      case round =>
        obtain ⟨k, hk, rfl, hbk⟩ := hrel
        obtain ⟨w2, rfl⟩ : ∃ w2 : World, w2 = wr := ⟨_, rfl⟩
        have HBw2 := Lib.hid hbk; clear hbk
        by_cases hlk : k < 64
        · skip
          go_wp2_with fail
          refine (rawThereW.walk _ false _ (wrap_lo _) (wrap_hi _) (HT.out.at_below (HBW.out.trans (HBw2.out.mono HBW.out.size))) (HR.out.at_below (HBW.out.trans (HBw2.out.mono HBW.out.size)))).mono ?_
          rintro e w3 ⟨rfl, hbw3⟩
          have HBw3 := Lib.hid (HBw2.out.trans (hbw3.mono HBw2.out.size))
          clear hbw3
          go_wp2_with fail
          refine (rawThereW.walk _ true _ (wrap_lo _) (wrap_hi _) (HT.out.at_below (HBW.out.trans (HBw3.out.mono HBW.out.size))) (HR.out.at_below (HBW.out.trans (HBw3.out.mono HBW.out.size)))).mono ?_
          rintro e w4 ⟨rfl, hbw4⟩
          have HBw4 := Lib.hid (HBw3.out.trans (hbw4.mono HBw3.out.size))
          clear hbw4
          go_wp2_with fail
          refine (rawThereW.walk _ true _ (wrap_lo _) (wrap_hi _) (HT.out.at_below (HBW.out.trans (HBw4.out.mono HBW.out.size))) (HR.out.at_below (HBW.out.trans (HBw4.out.mono HBW.out.size)))).mono ?_
          rintro e w5 ⟨rfl, hbw5⟩
          have HBw5 := Lib.hid (HBw4.out.trans (hbw5.mono HBw4.out.size))
          clear hbw5
          go_wp2_with fail
          refine (rawPrintsW.walk _ false _ (wrap_lo _) (wrap_hi _) (HT.out.at_below (HBW.out.trans (HBw5.out.mono HBW.out.size)))).mono ?_
          rintro e w6 ⟨rfl, hbw6⟩
          have HBw6 := Lib.hid (HBw5.out.trans (hbw6.mono HBw5.out.size))
          clear hbw6
          go_wp2_with fail
          refine (rawPrintsW.walk _ true _ (wrap_lo _) (wrap_hi _) (HT.out.at_below (HBW.out.trans (HBw6.out.mono HBW.out.size)))).mono ?_
          rintro e w7 ⟨rfl, hbw7⟩
          have HBw7 := Lib.hid (HBw6.out.trans (hbw7.mono HBw6.out.size))
          clear hbw7
          go_wp2
          go_roundw
          case rel => exact ⟨k + 1, by omega, by go_num, HBw7.out⟩
          case measure => first | (simp [intOf]; done) | (simp [intOf]; omega)
        · go_wp2
          go_ret
          exact ⟨rfl, HBW.out.trans (HBw2.out.mono HBW.out.size)⟩

set_option maxRecDepth 100000 in
set_option maxHeartbeats 1000000 in
theorem walk (w : World) (hg : asK.ErrT w) (hr : laidK.Rng w) (ht : rawP.Tab w) : Calls Tryd.prog 9 #[] w fun e w' => e = .returned (.bool true) ∧ Below w.heap.size w w' := by
  have HG := Lib.hid hg; clear hg
  have HR := Lib.hid hr; clear hr
  have HT := Lib.hid ht; clear ht
  go_enter Tryd.func9, Tryd.ntmps9
  go_wp2_with fail
  refine (sizes_yes _).mono ?_
  rintro e w1 ⟨rfl, hb1⟩
  have HB1 := Lib.hid hb1; clear hb1
  go_wp2_with fail
  refine (texts_yes _ (HG.out.at_below HB1.out) (HR.out.at_below HB1.out) (HT.out.at_below HB1.out)).mono ?_
  rintro e w2 ⟨rfl, hb2⟩
  have HB2 := Lib.hid (HB1.out.trans (hb2.mono HB1.out.size)); clear hb2
  go_wp2_with fail
  refine (said_yes _ (HG.out.at_below HB2.out) (HR.out.at_below HB2.out)).mono ?_
  rintro e w3 ⟨rfl, hb3⟩
  have HB3 := Lib.hid (HB2.out.trans (hb3.mono HB2.out.size)); clear hb3
  go_wp2
  go_ret
  exact ⟨rfl, HB3.out⟩

/-! The row's step. -/
theorem own : ownKnob Tryd.prog.godebug = none := by kernel_rfl
theorem laidOut : laidOutB Tryd.prog = true := by kernel_rfl

theorem door_met (os : Os) (args : Array Value) : laidMetH Tryd.prog Rows.rawKnownRow.laid ((World.doorLaid Tryd.prog 400 os).forCall (fun _ _ => 0) ⟨#[], args, []⟩).memory :=
  (doorK.met os args).filter (fun x => (List.map Prod.fst Rows.rawKnownRow.laid).contains x.1)

set_option maxRecDepth 100000 in
theorem lifted (os : Os) (started : os.Started) (H : Type) (enc : TypeId × Value → H) :
    ReturnsInHanded {} Tryd.checked os 9 .any (fun w args => (Rows.rawKnownSpec.pre enc Tryd.prog Tryd.f9 [] false w args ∧ laidMetH Tryd.prog Rows.rawKnownRow.laid w) ∧ sizedMet enc Tryd.prog Tryd.f9 (OpenSpec.ofChange Rows.rawKnownSpec) false w args)
      (Rows.rawKnownSpec.post enc Tryd.prog Tryd.f9 false true false false) := by
  refine returnsInHanded_of_change_and (C := Tryd.checked) (X := fun w _ => laidMetH Tryd.prog Rows.rawKnownRow.laid w) (fun _ _ _ hh h => h.of_heap hh) own started (by kernel_rfl) Tryd.func9
    (ChangeSpec.witness_shaped (enc := enc) (C := Tryd.checked) (os := os) (X := fun w _ => laidMetH Tryd.prog Rows.rawKnownRow.laid w) false (World.doorLaid Tryd.prog 400 os) #[] 8 rfl (doorK.shaped os _) (by kernel_rfl) (by kernel_rfl) (by kernel_rfl) (door_met os _)) ?_
  intro W base args ds gs before hval0 hW hcnd hsz0 hL _
  have hval : ∀ (j : Nat) t v, Tryd.f9.params[j]? = some t → args[j]? = some v → Value.okWide Tryd.prog W .any base t v := hval0
  have hsz : (DataW.weightsEach Tryd.prog (Tryd.f9.params.toList ++ Rows.rawKnownSpec.plain.varTypes Tryd.prog) (ds ++ gs)).all (· ≤ reachBytes) = true := hsz0
  have hW' := hW
  obtain ⟨p, q, hA0, hV, rfl, hfz, hnd⟩ := hW
  have hA : DataW.TrodAll enc Tryd.prog W 0 (fun _ => true) true Tryd.f9.params.toList args.toList ds p := hA0
  rw [Tryd.params9] at hA hval hsz
  obtain ⟨ha0, rfl, rfl⟩ := trodAll_nil hA
  obtain rfl : args = #[] := by cases args; simp_all
  obtain ⟨rfl, rfl⟩ := trodVars_none hV
  have hG := laidK.errT_of_laid hL (by rfl)
  have hR := laidK.rng_of_laid hL (by rfl)
  have hT := laidK.tab_of_laid hL (by rfl)
  clear hA0 hval0 hsz0 hL
  refine (walk W hG hR hT).mono fun e W' ⟨he, bel⟩ => ?_
  subst he
  exact ⟨_, rfl, _, _, _, [], _, [], hW', trodAll_mk1 (shut_bool Tryd.underlying4 _), trodAll_mk0, rfl, bel.frame _, fun h => by cases h⟩

theorem over : Rows.rawKnownRow.holds Tryd.pinned (OpenSpec.ofChange Rows.rawKnownSpec) :=
  OpenClaim.holds_of_wide 9 Tryd.f9 rfl rfl rfl rfl rfl rfl rfl ⟨rfl, rfl, rfl, rfl, rfl⟩ rfl rfl rfl rfl rfl (by kernel_rfl) Tryd.func9 (by kernel_rfl)
    (of_decide_eq_true (by kernel_rfl)) (by unfold Func.isWrapper; first | (rw [if_pos (by decide +kernel)]; kernel_rfl) | (rw [if_neg (by decide +kernel)]; exact ⟨rfl, rfl⟩))
    (fun os started H enc _ => lifted os started H enc)


theorem proved : Rows.RawKnownCardSaid :=
  Claim7.holds_tied_plain_at .later [] _ true _ true
    over (fun _ h => by cases h) (by kernel_rfl) (fun _ h => by cases h) rawKnown_row_tie rfl ⟨rfl, rfl⟩ (by kernel_rfl) rfl
    (fun f fn hf hfn => by
      obtain rfl : f = 9 := Option.some.inj ((show Tryd.prog.funcNamed "busbar/busbarlaw10.RawKnown" = some 9 by kernel_rfl).symm.trans hf) |>.symm
      obtain rfl : fn = Tryd.f9 := (Option.some.inj (Tryd.func9.symm.trans hfn)).symm
      exact ⟨by kernel_rfl, fun j t ht => by
        rw [Tryd.params9] at ht
        simp at ht⟩)
    (by kernel_rfl)
#print axioms proved
end Go.Proofs.YtfigkgpolpggcaaDoor.rawKnown
