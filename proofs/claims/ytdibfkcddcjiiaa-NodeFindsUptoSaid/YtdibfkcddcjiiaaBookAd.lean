/- busbarkit.Book's Apart, of lists of texts and of signals. Conditions: they lie apart; lengths. -/
import Derived.Test.YtdibfkcddcjiiaaFarmM
import Derived.Test.YtdibfkcddcjiiaaBookNil
namespace Go.Proofs.Ytdibfkcddcjiiaa
open Go.RowKit Go.Bus Go.Bus.cellK Go.Bus.dbK
open Go.Bus.farmC (Farm)
set_option linter.unusedVariables false
set_option linter.unusedSimpArgs false
namespace bookD
set_option maxRecDepth 100000 in
set_option maxHeartbeats 1000000 in
theorem none_ApartTexts (A : Option Addr) (c : Nat) (w : World) : Calls Try.prog 32 #[.slice A 0 c] w fun e w' => e = .returned (.bool true) ∧ w = w' := by
  go_enter Try.func32, Try.ntmps32
  go_wp2
  go_loop [3] (fun iv => iv = .int .i64 0) (fun _ => 0)
  case atStart => rfl
  case round =>
    obtain rfl := hrel
    go_wp2
    go_loop [6] (fun iv => iv = .int .i64 0) (fun _ => 0)
    case atStart => rfl
    case round =>
      obtain rfl := hrel
      go_wp2
      go_loop [9] (fun iv => iv = .int .i64 0) (fun _ => 0)
      case atStart => rfl
      case round =>
        obtain rfl := hrel
        go_wp2
        go_ret
        exact ⟨rfl, rfl⟩
theorem own_has {w : World} {base n : Nat} {e : TypeId} {v : Value} {xs : List Value} (h : w.ownsRow base e 1 v n xs) (hn : 0 < n) : ∃ g cap cs, v = .slice (some ⟨g, 0, none⟩) n cap ∧ n ≤ cap ∧ Has w g e cs ∧ ∀ (j : Nat) (u : Value), xs[j]? = some u → cs[j]? = some u := by
  rcases h.2 with ⟨_, h0⟩ | ⟨g, cap, cur, rfl, hb, hg, hc, hm, hs, ht⟩
  · omega
  · refine ⟨g, cap, cur, rfl, hc, hg, fun j u hj => ?_⟩
    rw [← ht] at hj
    rw [List.getElem?_take] at hj
    split at hj
    · simpa using hj
    · cases hj
theorem ktT_own {w w1 : World} {base s n : Nat} {e : TypeId} {v : Value} {xs : List Value} (h : w.ownsRow base e s v n xs) (hk : apartTx.KT w w1) (h1 : e ≠ 9) (h2 : e ≠ 26) : w1.ownsRow base e s v n xs := by
  refine ⟨h.1, ?_⟩
  rcases h.2 with h3 | ⟨g, cap, cur, rfl, hb, hg, rest⟩
  · exact .inl h3
  · exact .inr ⟨g, cap, cur, rfl, hb, hk g e cur h1 h2 hg, rest⟩
set_option maxRecDepth 100000 in
set_option maxHeartbeats 8000000 in
theorem apart_ts {q base : Nat} {v : BV} {x : BL} {RT : List (Value × List ByteArray)} {RS : List apartSg.Row} {w : World} (h : Bk w q v x) (hc : Coll base w x RT RS) (hr : v.r = .slice none 0 0) (hm : v.m = .slice none 0 0) (hb : v.b = .slice none 0 0) (hbase : base ≤ w.heap.size) (hN : RT.length ≤ 100000000) (hM : RS.length ≤ 100000000) (hM0 : 0 < RS.length) :
    Calls Try.prog 10 #[.pointer (some ⟨q, 0, none⟩)] w fun e w' => e = .returned (.bool true) ∧ Below base w w' := by
  have hrt := h.rt
  have hrs := h.rs
  rw [hc.ht, List.length_map] at hrt
  rw [hc.hs, List.length_map] at hrs
  have hbox : Has w q 54 (bookC v) := h.has
  unfold bookC at hbox
  rw [hr, hm, hb] at hbox
  have HT : Hid (Calls Try.prog 32 #[v.t] w fun e w' => e = .returned (.bool true) ∧ Below base w w' ∧ apartTx.KT w w') := by
    by_cases h0 : 0 < RT.length
    · obtain ⟨g, cap, cs, e1, h1, h2, h3⟩ := own_has hrt h0
      rw [e1]
      exact apartTx.apart_any g base cap cs RT w h2 (fun j p hp => h3 j p.1 (by rw [List.getElem?_map, hp]; rfl)) h1 hc.ft hbase hN h0 hc.lt
    · have e0 : RT.length = 0 := by omega
      obtain ⟨A, c, e1⟩ : ∃ A c, v.t = .slice A 0 c := by
        rw [e0] at hrt
        rcases hrt.2 with ⟨h1, _⟩ | ⟨g, cap, cur, h1, _⟩
        · exact ⟨none, 0, h1⟩
        · exact ⟨_, cap, h1⟩
      rw [e1]
      exact (none_ApartTexts A c w).mono (by rintro e w' ⟨rfl, rfl⟩; exact ⟨rfl, Below.refl _ _, apartTx.KT.refl _⟩)
  have HS : Hid (∀ w1, apartTx.KT w w1 → w.heap.size ≤ w1.heap.size → Calls Try.prog 41 #[v.s] w1 fun e w' => e = .returned (.bool true) ∧ Below base w1 w' ∧ apartSg.KT w1 w') := fun w1 hk hsz => by
    obtain ⟨g, cap, cs, e1, h1, h2, h3⟩ := own_has (ktT_own hrs hk (by decide) (by decide)) hM0
    rw [e1]
    exact apartSg.apart_any g base cap cs RS w1 h2 (fun j p hp => h3 j p.1 (by rw [List.getElem?_map, hp]; rfl)) h1 ⟨fun i v z hi => ktT_own (hc.fs.own i v z hi) hk (by decide) (by decide), hc.fs.apart⟩ (Nat.le_trans hbase hsz) hM hM0 hc.ls
  obtain ⟨vt, hvt⟩ : ∃ u, u = v.t := ⟨_, rfl⟩
  obtain ⟨vs, hvs⟩ : ∃ u, u = v.s := ⟨_, rfl⟩
  rw [← hvt, ← hvs] at hbox
  rw [← hvt] at HT
  rw [← hvs] at HS
  have HH := Lib.hid hbox
  have c0 : w.cell? ⟨q, 0, none⟩ = some (.slice none 0 0) := hbox.cell 0
  have c1 : w.cell? ⟨q, 1, none⟩ = some vt := hbox.cell 1
  have zq : q < w.heap.size := hbox.lt
  clear h hc hrt hrs hbox hvt hvs hr hm hb
  go_enter Try.func10, Try.ntmps10
  go_wp2_with (first | (go_at_call 31; refine (bookK.nil_ApartBytes _).mono ?_; rintro e wz ⟨rfl, rfl⟩) | (go_at_call 32; refine (HT.out).mono ?_; rintro e w1 ⟨rfl, hb1, hk1⟩; have hh1 := hk1 q _ _ (by decide) (by decide) HH.out; have HH1 := Lib.hid hh1; have HB1 := Lib.hid hb1; have HC1 := Lib.hid (HS.out w1 hk1 hb1.size); have zq1 : q < w1.heap.size := hh1.lt; have c0w1 : w1.cell? ⟨q, 0, none⟩ = some (.slice none 0 0) := hh1.cell 0; have c1w1 : w1.cell? ⟨q, 1, none⟩ = some (vt) := hh1.cell 1; have c2w1 : w1.cell? ⟨q, 2, none⟩ = some (.slice none 0 0) := hh1.cell 2; have c3w1 : w1.cell? ⟨q, 3, none⟩ = some (.slice none 0 0) := hh1.cell 3; have c4w1 : w1.cell? ⟨q, 4, none⟩ = some (.slice none 0 0) := hh1.cell 4; have c5w1 : w1.cell? ⟨q, 5, none⟩ = some (.slice none 0 0) := hh1.cell 5; have c6w1 : w1.cell? ⟨q, 6, none⟩ = some (.slice none 0 0) := hh1.cell 6; have c7w1 : w1.cell? ⟨q, 7, none⟩ = some (.slice none 0 0) := hh1.cell 7; have c8w1 : w1.cell? ⟨q, 8, none⟩ = some (.slice none 0 0) := hh1.cell 8; have c9w1 : w1.cell? ⟨q, 9, none⟩ = some (.slice none 0 0) := hh1.cell 9; have c10w1 : w1.cell? ⟨q, 10, none⟩ = some (vs) := hh1.cell 10; have c11w1 : w1.cell? ⟨q, 11, none⟩ = some (.slice none 0 0) := hh1.cell 11; have c12w1 : w1.cell? ⟨q, 12, none⟩ = some (.slice none 0 0) := hh1.cell 12; have c13w1 : w1.cell? ⟨q, 13, none⟩ = some (.slice none 0 0) := hh1.cell 13; have c14w1 : w1.cell? ⟨q, 14, none⟩ = some (.slice none 0 0) := hh1.cell 14; clear hb1 hk1 hh1 c0 c1) | (go_at_call 41; refine (HC1.out).mono ?_; rintro e w2 ⟨rfl, hb2, hk2⟩; have hh2 := hk2 q _ _ (by decide) (by decide) HH1.out; have HB2 := Lib.hid (HB1.out.trans hb2); have zq2 : q < w2.heap.size := hh2.lt; have c0w2 : w2.cell? ⟨q, 0, none⟩ = some (.slice none 0 0) := hh2.cell 0; have c1w2 : w2.cell? ⟨q, 1, none⟩ = some (vt) := hh2.cell 1; have c2w2 : w2.cell? ⟨q, 2, none⟩ = some (.slice none 0 0) := hh2.cell 2; have c3w2 : w2.cell? ⟨q, 3, none⟩ = some (.slice none 0 0) := hh2.cell 3; have c4w2 : w2.cell? ⟨q, 4, none⟩ = some (.slice none 0 0) := hh2.cell 4; have c5w2 : w2.cell? ⟨q, 5, none⟩ = some (.slice none 0 0) := hh2.cell 5; have c6w2 : w2.cell? ⟨q, 6, none⟩ = some (.slice none 0 0) := hh2.cell 6; have c7w2 : w2.cell? ⟨q, 7, none⟩ = some (.slice none 0 0) := hh2.cell 7; have c8w2 : w2.cell? ⟨q, 8, none⟩ = some (.slice none 0 0) := hh2.cell 8; have c9w2 : w2.cell? ⟨q, 9, none⟩ = some (.slice none 0 0) := hh2.cell 9; have c10w2 : w2.cell? ⟨q, 10, none⟩ = some (vs) := hh2.cell 10; have c11w2 : w2.cell? ⟨q, 11, none⟩ = some (.slice none 0 0) := hh2.cell 11; have c12w2 : w2.cell? ⟨q, 12, none⟩ = some (.slice none 0 0) := hh2.cell 12; have c13w2 : w2.cell? ⟨q, 13, none⟩ = some (.slice none 0 0) := hh2.cell 13; have c14w2 : w2.cell? ⟨q, 14, none⟩ = some (.slice none 0 0) := hh2.cell 14; clear hb2 hk2 hh2) | (go_at_call 33; refine (bookK.nil_ApartInts _).mono ?_; rintro e wz ⟨rfl, rfl⟩) | (go_at_call 34; refine (bookK.nil_ApartNumbers _).mono ?_; rintro e wz ⟨rfl, rfl⟩) | (go_at_call 35; refine (bookK.nil_ApartTokens _).mono ?_; rintro e wz ⟨rfl, rfl⟩) | (go_at_call 36; refine (bookK.nil_ApartRows _).mono ?_; rintro e wz ⟨rfl, rfl⟩) | (go_at_call 37; refine (bookK.nil_ApartInstrs _).mono ?_; rintro e wz ⟨rfl, rfl⟩) | (go_at_call 38; refine (bookK.nil_ApartRules _).mono ?_; rintro e wz ⟨rfl, rfl⟩) | (go_at_call 39; refine (bookK.nil_ApartValues _).mono ?_; rintro e wz ⟨rfl, rfl⟩) | (go_at_call 40; refine (bookK.nil_ApartBools _).mono ?_; rintro e wz ⟨rfl, rfl⟩) | (go_at_call 42; refine (bookK.nil_apartMessages _).mono ?_; rintro e wz ⟨rfl, rfl⟩) | (go_at_call 43; refine (bookK.nil_apartTables _).mono ?_; rintro e wz ⟨rfl, rfl⟩) | (go_at_call 44; refine (bookK.nil_apartFrames _).mono ?_; rintro e wz ⟨rfl, rfl⟩) | (go_at_call 45; refine (bookK.nil_apartLines _).mono ?_; rintro e wz ⟨rfl, rfl⟩))
  go_ret
  exact ⟨rfl, HB2.out⟩
end bookD
end Go.Proofs.Ytdibfkcddcjiiaa
