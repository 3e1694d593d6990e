/- busbarref22.Decode: the document's way to read a row of the wire. -/
import Derived.Test.YthjjockimpndbaaDoorZRefHead
import Derived.Test.YthjjockimpndbaaDoorZDecode
namespace Go.Bus.decK
open Go.RowKit Go.Bus.bitK Go.Bus.crcLaw Go.Bus.numK
set_option linter.unusedVariables false
theorem dec_err {m : List Bool} {k : Nat} (h : decF m = .error k) : k ≠ 0 ∧ headNo m = k := by
  refine ⟨?_, by unfold headNo; rw [h]; rfl⟩
  unfold decF tailF at h
  split at h
  · cases h; decide
  split at h
  · cases h; decide
  split at h
  · split at h
    · cases h; decide
    split at h
    · cases h; decide
    split at h
    · cases h; decide
    split at h
    · cases h; decide
    split at h
    · cases h; decide
    split at h
    · cases h; decide
    · cases h
  · split at h
    · cases h; decide
    split at h
    · cases h; decide
    split at h
    · cases h; decide
    split at h
    · cases h; decide
    split at h
    · cases h; decide
    split at h
    · cases h; decide
    · cases h
theorem tail_ok {m : List Bool} {i : Int} {W : Bool} {a : Nat} {f : Int × Bool × List Int} (ha : a + 4 ≤ m.length) (h : tailF m i W a = .ok f) : ∃ n, n ≤ 8 ∧ m.length = a + 4 + 8 * n + 15 ∧ f = (i, W, bytesF m (a + 4) n) := by
  unfold tailF at h
  split at h
  · cases h
  rename_i h1
  split at h
  · cases h
  rename_i h2
  split at h
  · cases h
  rename_i h3
  split at h
  · cases h
  cases h
  exact ⟨nb m a 4, by omega, by omega, rfl⟩
theorem dec_ok {m : List Bool} {f : Int × Bool × List Int} (h : decF m = .ok f) : headNo m = 0 ∧ 14 ≤ m.length ∧
    ((nb m 13 1 = 0 ∧ ∃ n, n ≤ 8 ∧ m.length = 19 + 8 * n + 15 ∧ f = (((nb m 1 11 : Nat) : Int), false, bytesF m 19 n)) ∨ (nb m 13 1 ≠ 0 ∧ ∃ n, n ≤ 8 ∧ m.length = 39 + 8 * n + 15 ∧ f = (((nb m 1 11 * 262144 + nb m 14 18 : Nat) : Int), true, bytesF m 39 n))) := by
  refine ⟨by unfold headNo; rw [h]; rfl, ?_⟩
  unfold decF at h
  split at h
  · cases h
  rename_i h14
  refine ⟨by omega, ?_⟩
  split at h
  · cases h
  split at h
  · rename_i h13
    split at h
    · cases h
    split at h
    · cases h
    obtain ⟨n, h1, h2, h3⟩ := tail_ok (by omega) h
    exact .inl ⟨h13, n, h1, by omega, h3⟩
  · rename_i h13
    split at h
    · cases h
    split at h
    · cases h
    obtain ⟨n, h1, h2, h3⟩ := tail_ok (by omega) h
    exact .inr ⟨h13, n, h1, by omega, h3⟩
theorem or_low64 {a x : Nat} (h : x < 262144) (ha : a < 2048) : bits BinOp.or IntKind.u64 ((a : Int) * 262144) (x : Int) = ((a * 262144 + x : Nat) : Int) := by
  rw [show ((a : Int) * 262144) = ((262144 * a : Nat) : Int) by omega, u64_or_nat _ _ (by omega) (by omega)]
  have h2 := Nat.two_pow_add_eq_or_of_lt (i := 18) (b := x) (by rw [show (2 : Nat) ^ 18 = 262144 from by decide]; exact h) a
  rw [show (2 : Nat) ^ 18 = 262144 from by decide] at h2
  rw [← h2, Nat.mul_comm]
end Go.Bus.decK
namespace Go.Proofs.YthjjockimpndbaaDoor
open Go.RowKit Go.Bus Go.Bus.bitK Go.Bus.numK Go.Bus.decK Go.Bus.stuffK
set_option linter.unusedVariables false
namespace refW
open decW readW
def faultR : Err → Value
  | (k, none) => .agg #[.int .i64 (k : Int), .int .i64 0, .bool false]
  | (k, some n) => .agg #[.int .i64 (k : Int), .int .i64 (n : Int), .bool true]
def RDecPost (r : Except Err (Int × Bool × List Int)) (w : World) (e : Ending) (w' : World) : Prop :=
  match r with
  | .ok (i, W, l) => ∃ v, e = .returned (.tuple #[.agg #[.int .u32 i, .bool W, v], .agg #[.int .i64 0, .int .i64 0, .bool false]]) ∧ w'.ownsRow w.heap.size 5 1 v l.length (l.map (Value.int .u8)) ∧ Below w.heap.size w w'
  | .error x => e = .returned (.tuple #[noFrame, faultR x]) ∧ Below w.heap.size w w'
theorem only_app0 {b q : Nat} {a wr w1 : World} {dv : Value} {o : Obj} (h : Only b a wr) (hg : ((wr.drewN q).alloc o).grownBy w1 dv.ownBlock) (hd : ∀ r, dv.ownBlock = some r → a.heap.size ≤ r) : Only b a w1 := by
  have hz := h.gr.size
  refine ⟨h.le, hg.os.trans h.gr.os, hg.tape.trans h.gr.tape, hg.output.trans h.gr.output, Nat.le_trans hz (Nat.le_trans (by simp) hg.size), fun k hk hne => ?_⟩
  have h1 := hg.block k (by simp; omega) (fun e => by have := hd k e.symm; omega)
  rw [h1, heap_alloc_old _ _ (by simp; omega)]
  exact h.gr.block k hk hne

theorem below6 {B : Nat} {w w3 : World} (h : Below B w w3) (b c : Nat) (hb : B ≤ b) (hc : B ≤ c) (x0 x1 x2 x3 x4 x5 : Value) :
    Below B w ((((((w3.setCell ⟨b, 0, none⟩ x0).setCell ⟨b, 1, none⟩ x1).setCell ⟨b, 2, none⟩ x2).setCell ⟨c, 0, none⟩ x3).setCell ⟨c, 1, none⟩ x4).setCell ⟨c, 2, none⟩ x5) :=
  (((((h.setCell (p := ⟨b, 0, none⟩) hb _).setCell (p := ⟨b, 1, none⟩) hb _).setCell (p := ⟨b, 2, none⟩) hb _).setCell (p := ⟨c, 0, none⟩) hc _).setCell (p := ⟨c, 1, none⟩) hc _).setCell (p := ⟨c, 2, none⟩) hc _

theorem own6 {w3 : World} {base : Nat} {e : TypeId} {size n : Nat} {v : Value} {xs : List Value} (h : w3.ownsRow base e size v n xs) (b c : Nat) (hb : b < base) (hc : c < base) (x0 x1 x2 x3 x4 x5 : Value) :
    ((((((w3.setCell ⟨b, 0, none⟩ x0).setCell ⟨b, 1, none⟩ x1).setCell ⟨b, 2, none⟩ x2).setCell ⟨c, 0, none⟩ x3).setCell ⟨c, 1, none⟩ x4).setCell ⟨c, 2, none⟩ x5).ownsRow base e size v n xs :=
  ownsRow_setCell_below (ownsRow_setCell_below (ownsRow_setCell_below (ownsRow_setCell_below (ownsRow_setCell_below (ownsRow_setCell_below h (a := ⟨b, 0, none⟩) hb _) (a := ⟨b, 1, none⟩) hb _) (a := ⟨b, 2, none⟩) hb _) (a := ⟨c, 0, none⟩) hc _) (a := ⟨c, 1, none⟩) hc _) (a := ⟨c, 2, none⟩) hc _

set_option maxRecDepth 100000 in
set_option maxHeartbeats 4000000 in
theorem rdec_any (v : Value) (l : List Bool) (w : World) (h : Sl w w.heap.size Value.bool v l) (hlen : l.length ≤ 140737488351232) :
    Calls Tryd.prog 26 #[v] w (RDecPost (allF l) w) := by
  obtain ⟨A, cap, rfl, hcap, hmax⟩ := h.form
  unfold maxLen at hmax
  have HL := Lib.hid h; clear h
  obtain ⟨R, hR⟩ : ∃ R, R = allF l := ⟨_, rfl⟩
  rw [← hR]
  have HR := Lib.hid hR; clear hR
  by_cases h10 : l.length < 10
  · have HF : Hid (R = .error (2, none)) := by unfold Hid; rw [HR.out]; unfold allF; rw [if_pos h10]
    clear HR
    go_enter Tryd.func26, Tryd.ntmps26
    go_wp2
    refine bodyPost_ret (v := .tuple #[noFrame, faultR (2, none)]) (by simp [results, Tryd.results26, go_sem, noFrame, faultR]) rfl ?_
    rw [HF.out]
    exact ⟨rfl, (by repeat (first | exact Below.refl _ _ | assumption | refine Below.drew ?_ | refine below_drewN ?_ _ | (refine Below.alloc ?_ (by (try simp); (try omega)) _) | (refine Below.setCell ?_ (by (try simp); (try omega)) _)))⟩
  obtain ⟨n, hn⟩ : ∃ n, n = l.length - 10 := ⟨_, rfl⟩
  have e10 : (l.length : Int) - 10 = (n : Int) := by omega
  have hn10 : n + 10 ≤ l.length := by omega
  have HN : Hid (l.length - 10 = n) := hn.symm
  clear hn
  go_enter Tryd.func26, Tryd.ntmps26
  go_wp2_with fail
  refine (rtake_any _ l _ n 10 _ _ (HL.out.at_below (by repeat (first | exact Below.refl _ _ | assumption | refine Below.drew ?_ | refine below_drewN ?_ _ | (refine Below.alloc ?_ (by (try simp); (try omega)) _) | (refine Below.setCell ?_ (by (try simp); (try omega)) _)))) (by rfl) (by rfl) hn10 (by omega)).mono ?_
  rintro e w9 ⟨rfl, rfl⟩
  by_cases hb : nb l n 10 = 1023
  case neg =>
    have HF : Hid (R = .error (4, none)) := by
      unfold Hid
      rw [HR.out]
      unfold allF
      rw [if_neg (by omega), HN.out, if_pos hb]
    have d0 : (((nb l n 10 : Nat) : Int) != 1023) = true := by simp; omega
    clear HR hb
    go_wp2
    refine bodyPost_ret (v := .tuple #[noFrame, faultR (4, none)]) (by simp [results, Tryd.results26, go_sem, noFrame, faultR]) rfl ?_
    rw [HF.out]
    exact ⟨rfl, (by repeat (first | exact Below.refl _ _ | assumption | refine Below.drew ?_ | refine below_drewN ?_ _ | (refine Below.alloc ?_ (by (try simp); (try omega)) _) | (refine Below.setCell ?_ (by (try simp); (try omega)) _)))⟩
  have d0 : (((nb l n 10 : Nat) : Int) != 1023) = false := by simp [hb]
  have HLT := Lib.hid (HR.out.trans (all_eq h10 HN.out hb))
  clear HR hb
  have hst := (readW.Sl.take_ HL.out n (by omega)).at_below (w := w) (W := w) (Below.refl _ _)
  have HST := Lib.hid hst; clear hst
  go_wp2_with fail
  refine (runstuff_any _ (l.take n) _ (by exact HST.out.at_below (by repeat (first | exact Below.refl _ _ | assumption | refine Below.drew ?_ | refine below_drewN ?_ _ | (refine Below.alloc ?_ (by (try simp); (try omega)) _) | (refine Below.setCell ?_ (by (try simp); (try omega)) _)))) (by rw [List.length_take]; omega)).mono ?_
  intro e w3 hU
  cases hu : unF (false, 0) 0 (l.take n) with
  | error x =>
    rw [hu] at hU HLT
    obtain ⟨x0, at_⟩ := x
    obtain ⟨he0, hb_w3⟩ := hU
    have HF : Hid (R = .error (unErr (x0, at_))) := HLT.out
    clear hu HLT
    have hres0 : Has w3 w.heap.size 46 #[.int .u32 0, .bool false, .slice none 0 0] := Has.below ((Has.new w _ _).alloc _) hb_w3 (by simp; omega)
    have hres1 : Has w3 (w.heap.size + 1) 62 #[.int .i64 0, .int .i64 0, .bool false] := Has.below (arr_new w _ _ _) hb_w3 (by simp)
    have hz3 := hb_w3.size
    (try simp at hz3)
    have hB3 : Below w.heap.size w w3 := Below.trans (b := _) (by repeat (first | exact Below.refl _ _ | assumption | refine Below.drew ?_ | refine below_drewN ?_ _ | (refine Below.alloc ?_ (by (try simp); (try omega)) _) | (refine Below.setCell ?_ (by (try simp); (try omega)) _))) (hb_w3.mono (by (try simp); (try omega)))
    clear hb_w3
    have d0 := hres0.cell 0
    have d1 := hres0.cell 1
    have d2 := hres0.cell 2
    have g0 := hres0.frozen 0
    have g1 := hres0.frozen 1
    have g2 := hres0.frozen 2
    have p0 := hres1.cell 0
    have p1 := hres1.cell 1
    have p2 := hres1.cell 2
    have q0 := hres1.frozen 0
    have q1 := hres1.frozen 1
    have q2 := hres1.frozen 2
    simp only [List.getElem?_toArray, List.getElem?_cons_zero, List.getElem?_cons_succ] at d0 d1 d2 p0 p1 p2
    clear hres0 hres1
    by_cases hx : x0 = 0
    · have HE : Hid (R = .error (2, some at_)) := by unfold Hid; rw [HF.out, hx]; rfl
      have he : e = .returned (.tuple #[.slice none 0 0, .int .i64 2, .int .i64 (at_ : Nat)]) := by rw [he0, if_pos hx]
      clear hx he0 HF
      subst he
      go_wp2
      refine bodyPost_ret (v := .tuple #[noFrame, faultR (2, some at_)]) (by simp [results, Tryd.results26, go_sem, noFrame, faultR, d0, d1, d2, p0, p1, p2]) rfl ?_
      rw [HE.out]
      exact ⟨rfl, below6 hB3 _ _ (by omega) (by omega) _ _ _ _ _ _⟩
    · have HE : Hid (R = .error (22, some at_)) := by unfold Hid; rw [HF.out]; simp [unErr, hx]
      have he : e = .returned (.tuple #[.slice none 0 0, .int .i64 22, .int .i64 (at_ : Nat)]) := by rw [he0, if_neg hx]
      clear hx he0 HF
      subst he
      go_wp2
      refine bodyPost_ret (v := .tuple #[noFrame, faultR (22, some at_)]) (by simp [results, Tryd.results26, go_sem, noFrame, faultR, d0, d1, d2, p0, p1, p2]) rfl ?_
      rw [HE.out]
      exact ⟨rfl, below6 hB3 _ _ (by omega) (by omega) _ _ _ _ _ _⟩
  | ok m =>
    rw [hu] at hU HLT
    obtain ⟨vm, he, hown, hb_w3⟩ := hU
    subst he
    have HF : Hid (R = decE m) := HLT.out
    obtain ⟨Am, cm, rfl⟩ := own_slice hown
    have hres0 : Has w3 w.heap.size 46 #[.int .u32 0, .bool false, .slice none 0 0] := Has.below ((Has.new w _ _).alloc _) hb_w3 (by simp; omega)
    have hres1 : Has w3 (w.heap.size + 1) 62 #[.int .i64 0, .int .i64 0, .bool false] := Has.below (arr_new w _ _ _) hb_w3 (by simp)
    have hz3 := hb_w3.size
    (try simp at hz3)
    have hB3 : Below w.heap.size w w3 := Below.trans (b := _) (by repeat (first | exact Below.refl _ _ | assumption | refine Below.drew ?_ | refine below_drewN ?_ _ | (refine Below.alloc ?_ (by (try simp); (try omega)) _) | (refine Below.setCell ?_ (by (try simp); (try omega)) _))) (hb_w3.mono (by (try simp); (try omega)))
    have HB3 := Lib.hid hB3
    have HO := Lib.hid hown
    have HR0 := Lib.hid hres0
    have HR1 := Lib.hid hres1
    clear hb_w3 hB3 hown hres0 hres1 hu HLT
    cases hd : decF m with
    | error k =>
      obtain ⟨hk0, hkn⟩ := dec_err hd
      have HE : Hid (R = .error (k, none)) := by unfold Hid; rw [HF.out]; unfold decE; rw [hd]
      have HKN := Lib.hid hkn
      have d4 : ((k : Int) != 0) = true := by simp; omega
      clear hd HF hkn
      go_wp2_with fail
      refine (rhead_any _ m _ (Sl.of_own HO.out)).mono ?_
      rintro e w4 hh
      obtain ⟨rfl, q, rfl⟩ := hh
      rw [HKN.out]
      have d0 := HR0.out.cell 0
      have d1 := HR0.out.cell 1
      have d2 := HR0.out.cell 2
      have g0 := HR0.out.frozen 0
      have g1 := HR0.out.frozen 1
      have g2 := HR0.out.frozen 2
      have p0 := HR1.out.cell 0
      have p1 := HR1.out.cell 1
      have p2 := HR1.out.cell 2
      have q0 := HR1.out.frozen 0
      have q1 := HR1.out.frozen 1
      have q2 := HR1.out.frozen 2
      have hB3 := HB3.out
      simp only [List.getElem?_toArray, List.getElem?_cons_zero, List.getElem?_cons_succ] at d0 d1 d2 p0 p1 p2
      go_wp2
      refine bodyPost_ret (v := .tuple #[noFrame, faultR (k, none)]) (by simp [results, Tryd.results26, go_sem, noFrame, faultR, d0, d1, d2, p0, p1, p2]) rfl ?_
      rw [HE.out]
      exact ⟨rfl, by exact below6 (below_drewN hB3 q) _ _ (by omega) (by omega) _ _ _ _ _ _⟩
    | ok f =>
      obtain ⟨hkn, h14, hcase⟩ := dec_ok hd
      have HE : Hid (R = .ok f) := by unfold Hid; rw [HF.out]; unfold decE; rw [hd]
      have HKN := Lib.hid hkn
      clear hd HF hkn
      have n13 := nb_one (m := m) (k := 13) (by omega)
      have hc13 := (Sl.of_own HO.out).at_ (show 13 < m.length by omega)
      obtain ⟨bm, om, rfl, hbm, hc13⟩ := hc13
      have hnb := fun a b (h : a + b ≤ m.length) => nb_lt (m := m) (a := a) (n := b) h
      have b1 := hnb 1 11 (by omega)
      rw [show (2 : Nat) ^ 11 = 2048 from by decide] at b1
      have hm1 : 1 + 11 ≤ m.length := by omega
      obtain ⟨x, hx⟩ : ∃ x, x = nb m 1 11 := ⟨_, rfl⟩
      rw [← hx] at b1 hcase
      have HX := Lib.hid hx
      clear hx
      generalize m[13] = m13 at *
      rcases hcase with ⟨h13, n2, h8, hml, hf⟩ | ⟨h13, n2, h8, hml, hf⟩
      · obtain rfl : m13 = false := by
          cases m13
          · rfl
          · exact absurd (h13.symm.trans n13) (by decide)
        have HFF := Lib.hid hf
        have HML := Lib.hid hml
        clear n13 h13 hf hnb hml
        go_wp2_with fail
        refine (rhead_any _ m _ (Sl.of_own HO.out)).mono ?_
        rintro e w4 hh
        obtain ⟨rfl, q, hw4⟩ := hh
        have HO4 := Lib.hid (show w4.ownsRow _ 4 1 (.slice (some ⟨bm, om, none⟩) m.length cm) m.length (m.map Value.bool) by rw [hw4]; exact HO.out)
        have HR04 := Lib.hid (show Has w4 w.heap.size 46 #[.int .u32 0, .bool false, .slice none 0 0] by rw [hw4]; exact HR0.out)
        have HR14 := Lib.hid (show Has w4 (w.heap.size + 1) 62 #[.int .i64 0, .int .i64 0, .bool false] by rw [hw4]; exact HR1.out)
        have HB4 := Lib.hid (show Below w.heap.size w w4 by rw [hw4]; exact below_drewN HB3.out q)
        have hc134 : w4.cell? ⟨bm, om + 13, none⟩ = some (.bool false) := by rw [hw4]; exact hc13
        have hz4 : w.heap.size + 1 + 1 ≤ w4.heap.size := by rw [hw4]; exact hz3
        have hbm4 : bm < w4.heap.size := by rw [hw4]; exact hbm
        clear hw4 hc13 HO HR0 HR1 HB3 hbm hz3
        rw [HKN.out]
        go_wp2_with fail
        refine (rtake_any _ m _ 1 11 _ _ (Sl.of_own HO4.out) (by rfl) (by rfl) hm1 (by omega)).mono ?_
        rintro e w5 ⟨rfl, rfl⟩
        rw [← HX.out]
        go_wp2
        obtain ⟨W8, hW8⟩ : ∃ W8, W8 = w4.alloc (.cells #[.int .u32 (x : Nat), .bool false, .slice none 0 0] 46) := ⟨_, rfl⟩
        have hz8 : W8.heap.size = w4.heap.size + 1 := by rw [hW8]; simp
        have H8 : Has W8 w4.heap.size 46 #[.int .u32 (x : Nat), .bool false, .slice none 0 0] := by rw [hW8]; exact Has.new w4 _ _
        have HO8 := Lib.hid (show W8.ownsRow _ 4 1 (.slice (some ⟨bm, om, none⟩) m.length cm) m.length (m.map Value.bool) by rw [hW8]; exact HO4.out.alloc _)
        have HR08 := Lib.hid (show Has W8 w.heap.size 46 #[.int .u32 0, .bool false, .slice none 0 0] by rw [hW8]; exact HR04.out.alloc _)
        have HR18 := Lib.hid (show Has W8 (w.heap.size + 1) 62 #[.int .i64 0, .int .i64 0, .bool false] by rw [hW8]; exact HR14.out.alloc _)
        have HB8 := Lib.hid (show Below w.heap.size w W8 by rw [hW8]; exact HB4.out.alloc (by omega) _)
        have HS8 := Lib.hid (show Sl W8 w4.heap.size Value.bool (.slice (some ⟨bm, om, none⟩) m.length cm) m by rw [hW8]; exact (Sl.of_own HO4.out).alloc (Nat.le_refl _) _)
        have H8H := Lib.hid H8
        have HW8 := Lib.hid hW8
        have HZ8 := Lib.hid hz8
        clear hW8 hz8 H8
        obtain ⟨i0, hi, hz0, hz1, hz2⟩ := info_parts Tryd.infoB
        clear hc134 hbm4
        try rw [← HW8.out]
        obtain ⟨b8, hb8⟩ : ∃ b8, b8 = w4.heap.size := ⟨_, rfl⟩
        rw [← hb8] at H8H HS8 HZ8 hz4
        rw [← hb8]
        clear hb8 HW8 HO4 HR04 HR14 HB4
        go_loopw [10] (fun i wr => ∃ (k : Nat) (dv : Value), k ≤ n2 ∧ i = .int .i64 ((19 + 8 * k : Nat) : Int) ∧ Has wr b8 46 #[.int .u32 (x : Nat), .bool false, dv] ∧
          wr.ownsRow W8.heap.size 5 1 dv k (((bytesF m 19 n2).map (Value.int .u8)).take k) ∧ Only b8 W8 wr) (fun i _ => (19 + 8 * n2) - (intOf i).toNat)
        case atStart => exact ⟨0, _, Nat.zero_le _, rfl, by simpa using H8H.out, World.ownsRow_nil _ _ _ _, Only.refl (by have := HZ8.out; omega)⟩
        case round =>
          clear H8H
          obtain ⟨k, dv, hk, rfl, hRr, hown, K⟩ := hrel
          have hml1 : m.length ≤ 19 + 8 * n2 + 15 := by have := HML.out; omega
          have hml2 : 19 + 8 * n2 + 15 ≤ m.length := by have := HML.out; omega
          have hbr : b8 < wr.heap.size := hRr.lt
          have hkz := K.size
          have hz88 : b8 < W8.heap.size := by have := HZ8.out; omega
          by_cases hlt : k < n2
          · obtain ⟨p, hp⟩ : ∃ p, p = 19 + 8 * k := ⟨_, rfl⟩
            rw [← hp]
            have c2 := hRr.cell 2
            have f2 := hRr.frozen 2
            simp only [List.getElem?_toArray, List.getElem?_cons_zero, List.getElem?_cons_succ] at c2
            have hpl : p + 8 ≤ m.length := by omega
            have hp1 : (p : Int) < (m.length : Int) - 15 := by omega
            have hbx : ((bytesF m 19 n2).map (Value.int .u8)).take k ++ [Value.int .u8 (nb m p 8 : Nat)] = ((bytesF m 19 n2).map (Value.int .u8)).take (k + 1) := by
              have h1 : (bytesF m 19 n2)[k]? = some (nb m p 8 : Int) := by simp [bytesF, hlt, hp]
              rw [List.take_add_one, List.getElem?_map, h1]; rfl
            have bb := nb_lt (m := m) (a := p) (n := 8) hpl
            rw [show (2 : Nat) ^ 8 = 256 from by decide] at bb
            have HP := Lib.hid hp; clear hp
            have HBX := Lib.hid hbx; clear hbx
            obtain ⟨y, hy⟩ : ∃ y, y = nb m p 8 := ⟨_, rfl⟩
            rw [← hy] at bb HBX
            have HY := Lib.hid hy; clear hy
            have hwx : IntKind.u8.wrap (y : Int) = (y : Int) := by rw [IntKind.wrap_u8]; omega
            have HRr := Lib.hid hRr; clear hRr
            have HOr := Lib.hid hown; clear hown
            have HK := Lib.hid K; clear K
            have HSr := Lib.hid ((HS8.out.below HK.out.below).more (Nat.le_of_lt hbr))
            have hmb : m.length ≤ 200 := by omega
            clear hml1 hml2
            go_wp2_with fail
            go_region_law (first
              | (go_simp; refine (rtake_any _ m _ p 8 _ _ (by exact HSr.out) (by rfl) (by rfl) hpl (by omega)).mono ?_; rintro e w2 ⟨rfl, rfl⟩; rw [← HY.out])
              | (refine step_append_lies _ (by rfl) (.tmp 70) (.tmp 75) 44 (by rfl) W8.heap.size 5 i0 (.int .u8 0) 1 1 Tryd.underlying44 hi hz0 hz1 hz2 (by rfl) (by decide) dv k (((bytesF m 19 n2).map (Value.int .u8)).take k) (by rfl) (by exact HOr.out.alloc _) ⟨wr.heap.size, 0, none⟩ 1 1 [.int .u8 (y : Nat)] (by rfl) (by rfl) (by exact one_at _ _ _ _ (by simp)) (by intro u hu; simp at hu; subst hu; rfl) (by omega) (by unfold maxLen; omega) (by omega) (by simp; omega) _ (by rfl) ?_; intro g c w1 hown1 hg1 hgg hlt1
                 have hh1 : Has w1 b8 46 #[.int .u32 (x : Nat), .bool false, dv] := Has.grown (by exact Has.alloc HRr.out _) hg1 (fun e => own_has_ne HOr.out HRr.out (by decide) e.symm)
                 have hk1 : Only b8 W8 w1 := only_app0 (q := 1) HK.out (by exact hg1) (fun r hr => (HOr.out.lt r hr).1)
                 have e2 := hh1.cell 2
                 have ef := hh1.frozen 2
                 simp only [List.getElem?_toArray, List.getElem?_cons_zero, List.getElem?_cons_succ] at e2
                 have HH1 := Lib.hid hh1
                 have HK1 := Lib.hid hk1
                 have HO1 := Lib.hid hown1
                 clear hh1 hk1 hown1 hg1))
            all_goals
              have hR2 : Has (w1.setCell ⟨b8, 2, none⟩ (.slice (some ⟨g, 0, none⟩) (k + 1) c)) b8 46 #[.int .u32 (x : Nat), .bool false, .slice (some ⟨g, 0, none⟩) (k + 1) c] := by
                have := HH1.out.set 2 (.slice (some ⟨g, 0, none⟩) (k + 1) c)
                simpa using this
              have hO2 := own_far HO1.out HH1.out (by decide) (only_set (World.grownBy.refl w1 (some b8)) 2 (.slice (some ⟨g, 0, none⟩) (k + 1) c))
              rw [HBX.out] at hO2
              have hK2 : Only b8 W8 (w1.setCell ⟨b8, 2, none⟩ (.slice (some ⟨g, 0, none⟩) (k + 1) c)) := HK1.out.set 2 _
              have HR2 := Lib.hid hR2
              have HO2 := Lib.hid hO2
              have HK2 := Lib.hid hK2
              have hp8 : ((19 + 8 * (k + 1) : Nat) : Int) = (p : Int) + 8 := by have := HP.out; omega
              have HP8 := Lib.hid hp8
              clear hR2 hO2 hK2 hp8
              go_wp2
              go_roundw
              case rel => exact ⟨k + 1, _, by omega, by rw [HP8.out], HR2.out, HO2.out, HK2.out⟩
              case measure => have := HP.out; first | (simp [intOf]; done) | (simp [intOf]; omega)
          · obtain rfl : k = n2 := by omega
            rw [List.take_of_length_le (by simp [bytesF])] at hown
            obtain ⟨Ad, cd, rfl⟩ := own_slice hown
            have hp1 : ¬ (((19 + 8 * k : Nat) : Int) < (m.length : Int) - 15) := by omega
            have hd0 := K.has HR08.out (by omega)
            have hd1 := K.has HR18.out (by omega)
            have d0 := hd0.cell 0
            have d1 := hd0.cell 1
            have d2 := hd0.cell 2
            have g0 := hd0.frozen 0
            have g1 := hd0.frozen 1
            have g2 := hd0.frozen 2
            have p0 := hd1.cell 0
            have p1 := hd1.cell 1
            have p2 := hd1.cell 2
            have q0 := hd1.frozen 0
            have q1 := hd1.frozen 1
            have q2 := hd1.frozen 2
            have r0 := hRr.cell 0
            have r1 := hRr.cell 1
            have r2 := hRr.cell 2
            simp only [List.getElem?_toArray, List.getElem?_cons_zero, List.getElem?_cons_succ] at d0 d1 d2 p0 p1 p2 r0 r1 r2
            have HOr := Lib.hid hown
            have HBr := Lib.hid (HB8.out.trans (K.below.mono (show w.heap.size ≤ b8 by omega)))
            have hmb : m.length ≤ 200 := by omega
            clear hd0 hd1 hown K hRr hml1 hml2
            go_wp2
            refine bodyPost_ret (v := .tuple #[.agg #[.int .u32 (x : Nat), .bool false, .slice Ad k cd], .agg #[.int .i64 0, .int .i64 0, .bool false]]) (by simp [results, Tryd.results26, go_sem, d0, d1, d2, p0, p1, p2]) rfl ?_
            rw [HE.out, HFF.out]
            have hbl : (bytesF m 19 k).length = k := by simp [bytesF]
            refine ⟨_, rfl, ?_, below6 HBr.out _ _ (by omega) (by omega) _ _ _ _ _ _⟩
            rw [hbl]
            exact own_base (own6 HOr.out _ _ (by omega) (by omega) _ _ _ _ _ _) (by omega)
      · obtain rfl : m13 = true := by
          cases m13
          · exact absurd n13 h13
          · rfl
        have HFF := Lib.hid hf
        have HML := Lib.hid hml
        clear n13 h13 hf hnb hml
        go_wp2_with fail
        refine (rhead_any _ m _ (Sl.of_own HO.out)).mono ?_
        rintro e w4 hh
        obtain ⟨rfl, q, hw4⟩ := hh
        have HO4 := Lib.hid (show w4.ownsRow _ 4 1 (.slice (some ⟨bm, om, none⟩) m.length cm) m.length (m.map Value.bool) by rw [hw4]; exact HO.out)
        have HR04 := Lib.hid (show Has w4 w.heap.size 46 #[.int .u32 0, .bool false, .slice none 0 0] by rw [hw4]; exact HR0.out)
        have HR14 := Lib.hid (show Has w4 (w.heap.size + 1) 62 #[.int .i64 0, .int .i64 0, .bool false] by rw [hw4]; exact HR1.out)
        have HB4 := Lib.hid (show Below w.heap.size w w4 by rw [hw4]; exact below_drewN HB3.out q)
        have hc134 : w4.cell? ⟨bm, om + 13, none⟩ = some (.bool true) := by rw [hw4]; exact hc13
        have hz4 : w.heap.size + 1 + 1 ≤ w4.heap.size := by rw [hw4]; exact hz3
        have hbm4 : bm < w4.heap.size := by rw [hw4]; exact hbm
        clear hw4 hc13 HO HR0 HR1 HB3 hbm hz3
        rw [HKN.out]
        go_wp2_with fail
        refine (rtake_any _ m _ 1 11 _ _ (Sl.of_own HO4.out) (by rfl) (by rfl) hm1 (by omega)).mono ?_
        rintro e w5 ⟨rfl, rfl⟩
        rw [← HX.out]
        have b2 := nb_lt (m := m) (a := 14) (n := 18) (by have := HML.out; omega)
        rw [show (2 : Nat) ^ 18 = 262144 from by decide] at b2
        have hm2 : 14 + 18 ≤ m.length := by have := HML.out; omega
        obtain ⟨y, hy⟩ : ∃ y, y = nb m 14 18 := ⟨_, rfl⟩
        rw [← hy] at b2 HFF
        have HYY := Lib.hid hy
        have hor := or_low64 (a := x) (x := y) b2 b1
        obtain ⟨z, hz⟩ : ∃ z, z = x * 262144 + y := ⟨_, rfl⟩
        have hzb : z < 536870912 := by omega
        rw [← hz] at hor HFF
        clear hz hy
        have HSX := Lib.hid (show ∀ o, Sl (w4.alloc o) (w4.alloc o).heap.size Value.bool (.slice (some ⟨bm, om, none⟩) m.length cm) m from fun o => ((Sl.of_own HO4.out).alloc (Nat.le_refl _) o).more (by simp))
        go_wp2_with (first
          | (go_at_call 59; refine (rtake_any _ m _ 1 11 _ _ (by exact HSX.out _) (by rfl) (by rfl) hm1 (by omega)).mono ?_; rintro e w5 ⟨rfl, rfl⟩; rw [← HX.out])
          | (go_at_call 59; refine (rtake_any _ m _ 14 18 _ _ (by exact HSX.out _) (by rfl) (by rfl) hm2 (by omega)).mono ?_; rintro e w5 ⟨rfl, rfl⟩; rw [← HYY.out]))
        clear HSX hor
        obtain ⟨W8, hW8⟩ : ∃ W8, W8 = w4.alloc (.cells #[.int .u32 (z : Nat), .bool true, .slice none 0 0] 46) := ⟨_, rfl⟩
        have hz8 : W8.heap.size = w4.heap.size + 1 := by rw [hW8]; simp
        have H8 : Has W8 w4.heap.size 46 #[.int .u32 (z : Nat), .bool true, .slice none 0 0] := by rw [hW8]; exact Has.new w4 _ _
        have HO8 := Lib.hid (show W8.ownsRow _ 4 1 (.slice (some ⟨bm, om, none⟩) m.length cm) m.length (m.map Value.bool) by rw [hW8]; exact HO4.out.alloc _)
        have HR08 := Lib.hid (show Has W8 w.heap.size 46 #[.int .u32 0, .bool false, .slice none 0 0] by rw [hW8]; exact HR04.out.alloc _)
        have HR18 := Lib.hid (show Has W8 (w.heap.size + 1) 62 #[.int .i64 0, .int .i64 0, .bool false] by rw [hW8]; exact HR14.out.alloc _)
        have HB8 := Lib.hid (show Below w.heap.size w W8 by rw [hW8]; exact HB4.out.alloc (by omega) _)
        have HS8 := Lib.hid (show Sl W8 w4.heap.size Value.bool (.slice (some ⟨bm, om, none⟩) m.length cm) m by rw [hW8]; exact (Sl.of_own HO4.out).alloc (Nat.le_refl _) _)
        have H8H := Lib.hid H8
        have HW8 := Lib.hid hW8
        have HZ8 := Lib.hid hz8
        clear hW8 hz8 H8
        obtain ⟨i0, hi, hz0, hz1, hz2⟩ := info_parts Tryd.infoB
        clear hc134 hbm4
        try rw [← HW8.out]
        obtain ⟨b8, hb8⟩ : ∃ b8, b8 = w4.heap.size := ⟨_, rfl⟩
        rw [← hb8] at H8H HS8 HZ8 hz4
        rw [← hb8]
        clear hb8 HW8 HO4 HR04 HR14 HB4
        go_loopw [10] (fun i wr => ∃ (k : Nat) (dv : Value), k ≤ n2 ∧ i = .int .i64 ((39 + 8 * k : Nat) : Int) ∧ Has wr b8 46 #[.int .u32 (z : Nat), .bool true, dv] ∧
          wr.ownsRow W8.heap.size 5 1 dv k (((bytesF m 39 n2).map (Value.int .u8)).take k) ∧ Only b8 W8 wr) (fun i _ => (39 + 8 * n2) - (intOf i).toNat)
        case atStart => exact ⟨0, _, Nat.zero_le _, rfl, by simpa using H8H.out, World.ownsRow_nil _ _ _ _, Only.refl (by have := HZ8.out; omega)⟩
        case round =>
          clear H8H
          obtain ⟨k, dv, hk, rfl, hRr, hown, K⟩ := hrel
          have hml1 : m.length ≤ 39 + 8 * n2 + 15 := by have := HML.out; omega
          have hml2 : 39 + 8 * n2 + 15 ≤ m.length := by have := HML.out; omega
          have hbr : b8 < wr.heap.size := hRr.lt
          have hkz := K.size
          have hz88 : b8 < W8.heap.size := by have := HZ8.out; omega
          by_cases hlt : k < n2
          · obtain ⟨p, hp⟩ : ∃ p, p = 39 + 8 * k := ⟨_, rfl⟩
            rw [← hp]
            have c2 := hRr.cell 2
            have f2 := hRr.frozen 2
            simp only [List.getElem?_toArray, List.getElem?_cons_zero, List.getElem?_cons_succ] at c2
            have hpl : p + 8 ≤ m.length := by omega
            have hp1 : (p : Int) < (m.length : Int) - 15 := by omega
            have hbx : ((bytesF m 39 n2).map (Value.int .u8)).take k ++ [Value.int .u8 (nb m p 8 : Nat)] = ((bytesF m 39 n2).map (Value.int .u8)).take (k + 1) := by
              have h1 : (bytesF m 39 n2)[k]? = some (nb m p 8 : Int) := by simp [bytesF, hlt, hp]
              rw [List.take_add_one, List.getElem?_map, h1]; rfl
            have bb := nb_lt (m := m) (a := p) (n := 8) hpl
            rw [show (2 : Nat) ^ 8 = 256 from by decide] at bb
            have HP := Lib.hid hp; clear hp
            have HBX := Lib.hid hbx; clear hbx
            obtain ⟨y, hy⟩ : ∃ y, y = nb m p 8 := ⟨_, rfl⟩
            rw [← hy] at bb HBX
            have HY := Lib.hid hy; clear hy
            have hwx : IntKind.u8.wrap (y : Int) = (y : Int) := by rw [IntKind.wrap_u8]; omega
            have HRr := Lib.hid hRr; clear hRr
            have HOr := Lib.hid hown; clear hown
            have HK := Lib.hid K; clear K
            have HSr := Lib.hid ((HS8.out.below HK.out.below).more (Nat.le_of_lt hbr))
            have hmb : m.length ≤ 200 := by omega
            clear hml1 hml2
            go_wp2_with fail
            go_region_law (first
              | (go_simp; refine (rtake_any _ m _ p 8 _ _ (by exact HSr.out) (by rfl) (by rfl) hpl (by omega)).mono ?_; rintro e w2 ⟨rfl, rfl⟩; rw [← HY.out])
              | (refine step_append_lies _ (by rfl) (.tmp 70) (.tmp 75) 44 (by rfl) W8.heap.size 5 i0 (.int .u8 0) 1 1 Tryd.underlying44 hi hz0 hz1 hz2 (by rfl) (by decide) dv k (((bytesF m 39 n2).map (Value.int .u8)).take k) (by rfl) (by exact HOr.out.alloc _) ⟨wr.heap.size, 0, none⟩ 1 1 [.int .u8 (y : Nat)] (by rfl) (by rfl) (by exact one_at _ _ _ _ (by simp)) (by intro u hu; simp at hu; subst hu; rfl) (by omega) (by unfold maxLen; omega) (by omega) (by simp; omega) _ (by rfl) ?_; intro g c w1 hown1 hg1 hgg hlt1
                 have hh1 : Has w1 b8 46 #[.int .u32 (z : Nat), .bool true, dv] := Has.grown (by exact Has.alloc HRr.out _) hg1 (fun e => own_has_ne HOr.out HRr.out (by decide) e.symm)
                 have hk1 : Only b8 W8 w1 := only_app0 (q := 1) HK.out (by exact hg1) (fun r hr => (HOr.out.lt r hr).1)
                 have e2 := hh1.cell 2
                 have ef := hh1.frozen 2
                 simp only [List.getElem?_toArray, List.getElem?_cons_zero, List.getElem?_cons_succ] at e2
                 have HH1 := Lib.hid hh1
                 have HK1 := Lib.hid hk1
                 have HO1 := Lib.hid hown1
                 clear hh1 hk1 hown1 hg1))
            all_goals
              have hR2 : Has (w1.setCell ⟨b8, 2, none⟩ (.slice (some ⟨g, 0, none⟩) (k + 1) c)) b8 46 #[.int .u32 (z : Nat), .bool true, .slice (some ⟨g, 0, none⟩) (k + 1) c] := by
                have := HH1.out.set 2 (.slice (some ⟨g, 0, none⟩) (k + 1) c)
                simpa using this
              have hO2 := own_far HO1.out HH1.out (by decide) (only_set (World.grownBy.refl w1 (some b8)) 2 (.slice (some ⟨g, 0, none⟩) (k + 1) c))
              rw [HBX.out] at hO2
              have hK2 : Only b8 W8 (w1.setCell ⟨b8, 2, none⟩ (.slice (some ⟨g, 0, none⟩) (k + 1) c)) := HK1.out.set 2 _
              have HR2 := Lib.hid hR2
              have HO2 := Lib.hid hO2
              have HK2 := Lib.hid hK2
              have hp8 : ((39 + 8 * (k + 1) : Nat) : Int) = (p : Int) + 8 := by have := HP.out; omega
              have HP8 := Lib.hid hp8
              clear hR2 hO2 hK2 hp8
              go_wp2
              go_roundw
              case rel => exact ⟨k + 1, _, by omega, by rw [HP8.out], HR2.out, HO2.out, HK2.out⟩
              case measure => have := HP.out; first | (simp [intOf]; done) | (simp [intOf]; omega)
          · obtain rfl : k = n2 := by omega
            rw [List.take_of_length_le (by simp [bytesF])] at hown
            obtain ⟨Ad, cd, rfl⟩ := own_slice hown
            have hp1 : ¬ (((39 + 8 * k : Nat) : Int) < (m.length : Int) - 15) := by omega
            have hd0 := K.has HR08.out (by omega)
            have hd1 := K.has HR18.out (by omega)
            have d0 := hd0.cell 0
            have d1 := hd0.cell 1
            have d2 := hd0.cell 2
            have g0 := hd0.frozen 0
            have g1 := hd0.frozen 1
            have g2 := hd0.frozen 2
            have p0 := hd1.cell 0
            have p1 := hd1.cell 1
            have p2 := hd1.cell 2
            have q0 := hd1.frozen 0
            have q1 := hd1.frozen 1
            have q2 := hd1.frozen 2
            have r0 := hRr.cell 0
            have r1 := hRr.cell 1
            have r2 := hRr.cell 2
            simp only [List.getElem?_toArray, List.getElem?_cons_zero, List.getElem?_cons_succ] at d0 d1 d2 p0 p1 p2 r0 r1 r2
            have HOr := Lib.hid hown
            have HBr := Lib.hid (HB8.out.trans (K.below.mono (show w.heap.size ≤ b8 by omega)))
            have hmb : m.length ≤ 200 := by omega
            clear hd0 hd1 hown K hRr hml1 hml2
            go_wp2
            refine bodyPost_ret (v := .tuple #[.agg #[.int .u32 (z : Nat), .bool true, .slice Ad k cd], .agg #[.int .i64 0, .int .i64 0, .bool false]]) (by simp [results, Tryd.results26, go_sem, d0, d1, d2, p0, p1, p2]) rfl ?_
            rw [HE.out, HFF.out]
            have hbl : (bytesF m 39 k).length = k := by simp [bytesF]
            refine ⟨_, rfl, ?_, below6 HBr.out _ _ (by omega) (by omega) _ _ _ _ _ _⟩
            rw [hbl]
            exact own_base (own6 HOr.out _ _ (by omega) (by omega) _ _ _ _ _ _) (by omega)
end refW
end Go.Proofs.YthjjockimpndbaaDoor
