/- busbarkit.Book's Apart, where it holds lists of bytes alone. Conditions: the lists lie apart, at most 10^6 of them, none longer than 10^9. -/
import Derived.Test.YtbhhfdajaoemnaaGreatDoorBook
import Derived.Test.YtbhhfdajaoemnaaGreatDoorBookNil
import Derived.Test.YtbhhfdajaoemnaaGreatDoorApartB
namespace Go.Proofs.YtbhhfdajaoemnaaGreatDoor
open Go.RowKit Go.Bus Go.Bus.cellK Go.Bus.farmK
set_option linter.unusedVariables false
set_option linter.unusedSimpArgs false
namespace bookK
/-- A row of the call's own is a block known whole. -/
theorem own_has {w : World} {base n : Nat} {e : TypeId} {v : Value} {xs : List Value} (h : w.ownsRow base e 1 v n xs) (hn : 0 < n) : ∃ g cap cs, v = .slice (some ⟨g, 0, none⟩) n cap ∧ n ≤ cap ∧ Has w g e cs ∧ ∀ (j : Nat) (u : Value), xs[j]? = some u → cs[j]? = some u := by
  rcases h.2 with ⟨_, h0⟩ | ⟨g, cap, cur, rfl, _, hg, h1, _, _, ht⟩
  · omega
  · refine ⟨g, cap, cur, rfl, h1, hg, fun j u hj => ?_⟩
    rw [← ht, List.getElem?_take] at hj
    split at hj
    · simpa using hj
    · cases hj
set_option maxRecDepth 100000 in
set_option maxHeartbeats 1000000 in
theorem zero_any (A : Option Addr) (c : Nat) (w : World) : Calls Tryz.prog 42 #[.slice A 0 c] w fun e w' => e = .returned (.bool true) ∧ w = w' := by
  go_enter Tryz.func42, Tryz.ntmps42
  go_wp2
  go_loop [3] (fun iv => iv = .int .i64 0) (fun _ => 0)
  case atStart => rfl
  case round =>
    obtain rfl := hrel
    go_wp2
    go_loop [6] (fun iv => iv = .int .i64 0) (fun _ => 0)
    case atStart => rfl
    case round =>
      obtain rfl := hrel
      go_wp2
      go_loop [9] (fun iv => iv = .int .i64 0) (fun _ => 0)
      case atStart => rfl
      case round =>
        obtain rfl := hrel
        go_wp2
        go_ret
        exact ⟨rfl, rfl⟩
theorem bytes_apart {q base : Nat} {vb : Value} {rows : List (Value × List Int)} {w : World} (h : w.ownsRow q 38 1 vb rows.length (rows.map (·.1))) (hF : Farm w base 5 (Value.int .u8) rows) (hbase : base ≤ w.heap.size) (hN : rows.length ≤ 1000000) (hlen : ∀ p ∈ rows, p.2.length ≤ 1000000000) :
    Calls Tryz.prog 42 #[vb] w fun e w' => e = .returned (.bool true) ∧ Below base w w' ∧ apartB.KT w w' := by
  rcases Nat.eq_zero_or_pos rows.length with h0 | h0
  · rcases h.2 with ⟨rfl, _⟩ | ⟨g, cap, cur, rfl, _⟩
    · exact (nil_ApartBytes w).mono fun e w' hh => ⟨hh.1, by rw [← hh.2]; exact Below.refl _ _, by rw [← hh.2]; exact apartB.KT.refl w⟩
    · rw [h0] at *
      exact (zero_any _ cap w).mono fun e w' hh => ⟨hh.1, by rw [← hh.2]; exact Below.refl _ _, by rw [← hh.2]; exact apartB.KT.refl w⟩
  · obtain ⟨g, cap, cs, rfl, h1, h2, h3⟩ := own_has h h0
    exact apartB.apart_any g base cap cs rows w h2 (fun j p hp => h3 j p.1 (by rw [List.getElem?_map, hp]; rfl)) h1 hF hbase hN h0 hlen
set_option maxRecDepth 100000 in
set_option maxHeartbeats 8000000 in
theorem book_apart {q base : Nat} {vb : Value} {rows : List (Value × List Int)} {w : World} (h : Bk w q vb (.slice none 0 0) (rows.map (·.1)) []) (hF : Farm w base 5 (Value.int .u8) rows) (hbase : base ≤ w.heap.size) (hN : rows.length ≤ 1000000) (hlen : ∀ p ∈ rows, p.2.length ≤ 1000000000) :
    Calls Tryz.prog 22 #[.pointer (some ⟨q, 0, none⟩)] w fun e w' => e = .returned (.bool true) ∧ Below base w w' := by
  have hrow := h.row
  rw [List.length_map] at hrow
  have HA := Lib.hid (bytes_apart hrow hF hbase hN hlen)
  have HH := Lib.hid h.has
  have c0 : w.cell? ⟨q, 0, none⟩ = some vb := h.has.cell 0
  have zq : q < w.heap.size := h.has.lt
  clear h hF hlen hrow
  go_enter Tryz.func22, Tryz.ntmps22
  go_wp2_with fail
  refine (HA.out).mono ?_
  rintro e w1 ⟨rfl, hb1, hk1⟩
  have hh1 : Has w1 q 68 (bookC vb (.slice none 0 0)) := hk1 q _ _ (by decide) (by decide) HH.out
  have HB1 := Lib.hid hb1
  have zq1 : q < w1.heap.size := hh1.lt
  have c1w1 : w1.cell? ⟨q, 1, none⟩ = some (.slice none 0 0) := hh1.cell 1
  have c2w1 : w1.cell? ⟨q, 2, none⟩ = some (.slice none 0 0) := hh1.cell 2
  have c3w1 : w1.cell? ⟨q, 3, none⟩ = some (.slice none 0 0) := hh1.cell 3
  have c4w1 : w1.cell? ⟨q, 4, none⟩ = some (.slice none 0 0) := hh1.cell 4
  have c5w1 : w1.cell? ⟨q, 5, none⟩ = some (.slice none 0 0) := hh1.cell 5
  have c6w1 : w1.cell? ⟨q, 6, none⟩ = some (.slice none 0 0) := hh1.cell 6
  have c7w1 : w1.cell? ⟨q, 7, none⟩ = some (.slice none 0 0) := hh1.cell 7
  have c8w1 : w1.cell? ⟨q, 8, none⟩ = some (.slice none 0 0) := hh1.cell 8
  have c9w1 : w1.cell? ⟨q, 9, none⟩ = some (.slice none 0 0) := hh1.cell 9
  have c10w1 : w1.cell? ⟨q, 10, none⟩ = some (.slice none 0 0) := hh1.cell 10
  have c11w1 : w1.cell? ⟨q, 11, none⟩ = some (.slice none 0 0) := hh1.cell 11
  have c12w1 : w1.cell? ⟨q, 12, none⟩ = some (.slice none 0 0) := hh1.cell 12
  have c13w1 : w1.cell? ⟨q, 13, none⟩ = some (.slice none 0 0) := hh1.cell 13
  have c14w1 : w1.cell? ⟨q, 14, none⟩ = some (.slice none 0 0) := hh1.cell 14
  clear hb1 hk1 hh1 c0
  go_wp2_with (first | (go_at_call 43; refine (nil_ApartTexts _).mono ?_; rintro e w2 ⟨rfl, rfl⟩) | (go_at_call 44; refine (nil_ApartInts _).mono ?_; rintro e w2 ⟨rfl, rfl⟩) | (go_at_call 45; refine (nil_ApartNumbers _).mono ?_; rintro e w2 ⟨rfl, rfl⟩) | (go_at_call 46; refine (nil_ApartTokens _).mono ?_; rintro e w2 ⟨rfl, rfl⟩) | (go_at_call 47; refine (nil_ApartRows _).mono ?_; rintro e w2 ⟨rfl, rfl⟩) | (go_at_call 48; refine (nil_ApartInstrs _).mono ?_; rintro e w2 ⟨rfl, rfl⟩) | (go_at_call 49; refine (nil_ApartRules _).mono ?_; rintro e w2 ⟨rfl, rfl⟩) | (go_at_call 50; refine (nil_ApartValues _).mono ?_; rintro e w2 ⟨rfl, rfl⟩) | (go_at_call 51; refine (nil_ApartBools _).mono ?_; rintro e w2 ⟨rfl, rfl⟩) | (go_at_call 52; refine (nil_apartSignals _).mono ?_; rintro e w2 ⟨rfl, rfl⟩) | (go_at_call 53; refine (nil_apartMessages _).mono ?_; rintro e w2 ⟨rfl, rfl⟩) | (go_at_call 54; refine (nil_apartTables _).mono ?_; rintro e w2 ⟨rfl, rfl⟩) | (go_at_call 55; refine (nil_apartFrames _).mono ?_; rintro e w2 ⟨rfl, rfl⟩) | (go_at_call 56; refine (nil_apartLines _).mono ?_; rintro e w2 ⟨rfl, rfl⟩))
  go_ret
  exact ⟨rfl, HB1.out⟩
end bookK
end Go.Proofs.YtbhhfdajaoemnaaGreatDoor
