/- Proves BusFullSaid: a row that is full refuses, and nothing changes; when one has gone, one more goes in. No condition. -/
import Derived.Test.YtomkgnlooheibaaRows
import Derived.Test.YtomkgnlooheibaaFrameOpen
import Derived.Test.YtomkgnlooheibaaZBz
import Derived.Test.YtomkgnlooheibaaNum
import Derived.Test.YtomkgnlooheibaaPick
namespace Go.Proofs.Ytomkgnlooheibaa.busFull
open Go.RowKit Go.Bus Go.Bus.ringK Go.Bus.ring3K Go.Bus.busK Go.Bus.cellK Go.Bus.decK Go.Bus.bitK Go.ChangeShapes Go.WideShapes Go.ChangeAt Go.Joins
open busM qframe
set_option linter.unusedVariables false
set_option linter.unusedSimpArgs false
/-- The sender with m frames left. -/
def sA (f : F3) (m : Nat) (c : Int) : ASt := ⟨List.replicate m f, [], [], ⟨c, 0, 0, 0, 0⟩⟩
/-- The one that has heard m frames. -/
def hA (n : Nat) (f : F3) (m : Nat) : ASt := ⟨[], List.replicate (min m n) f, [], ⟨0, (min m n : Nat), 0, 0, (m - min m n : Nat)⟩⟩
theorem inc_nat (k : Nat) (h : k < 1000000) : inc (k : Int) = ((k + 1 : Nat) : Int) := by unfold inc wrap64; omega
theorem hear_one {n : Nat} {f : F3} {m : Nat} (hm : m < 1000) : hearA n (.ok f) (hA n f m) = hA n f (m + 1) := by
  have ht : takesL [] f = true := rfl
  unfold hearA hA
  simp only [ht, List.length_replicate]
  by_cases h : min m n = n
  · have h1 : min (m + 1) n = n := by omega
    rw [if_neg (by simp), if_pos h, h, h1]
    have e : inc ((m - n : Nat) : Int) = ((m + 1 - n : Nat) : Int) := by rw [inc_nat _ (by omega)]; congr 1; omega
    simp only [e]
  · have h0 : min m n = m := by omega
    have h1 : min (m + 1) n = m + 1 := by omega
    rw [if_neg (by simp), if_neg h, h0, h1]
    have e : inc ((m : Nat) : Int) = ((m + 1 : Nat) : Int) := inc_nat _ (by omega)
    simp only [e, Nat.sub_self, List.replicate_succ']
theorem send_more {n : Nat} {f : F3} (hf : frNo f = 0) {k : Nat} (hk : k < n) (c : Int) (s : ASt) : sendA n [sA f k c, s] 0 f = (0, [sA f (k + 1) c, s]) := by
  unfold sendA sA
  simp [hf, List.replicate_succ']
  omega
theorem send_full {n : Nat} {f : F3} (hf : frNo f = 0) (c : Int) (s : ASt) : sendA n [sA f n c, s] 0 f = (24, [sA f n c, s]) := by
  unfold sendA sA
  simp [hf]
theorem tick_lost {n : Nat} {f : F3} (hf : okF f) (m : Nat) (s : List F3) (r : List Rl) (c : Cn) : tickA n ⟨[sA f (m + 1) 0, ⟨[], s, r, c⟩], []⟩ ⟨true, false, 0, []⟩ = some ⟨[sA f m 1, ⟨[], s, r, c⟩], []⟩ := by
  unfold sA
  rw [List.replicate_succ]
  exact (tick_two hf _ _ _ _ _ _ _ true false).trans (by simp [inc, wrap64])
theorem tick_twice {n : Nat} {f : F3} (hf : okF f) (m j c : Nat) (hj : j < 400) (hc : c < 400) : tickA n ⟨[sA f (m + 1) c, hA n f (2 * j)], []⟩ ⟨false, true, 0, []⟩ = some ⟨[sA f m (c + 1 : Nat), hA n f (2 * (j + 1))], []⟩ := by
  have h1 : hearA n (.ok f) (hearA n (.ok f) (hA n f (2 * j))) = hA n f (2 * (j + 1)) := by
    rw [hear_one (by omega), hear_one (by omega)]
    rfl
  unfold sA
  rw [List.replicate_succ]
  refine (tick_two hf _ _ _ _ _ _ _ false true).trans ?_
  rw [if_neg (by simp), if_pos rfl]
  rw [show hearA n (.ok f) (hearA n (.ok f) ⟨[], _, _, _⟩) = _ from h1]
  simp only [inc_nat c (by omega)]

theorem waits_full (f : F3) (n : Nat) (c : Int) : waitsA [sA f n c, freshA []] = n := by simp [waitsA, sA, freshA]
theorem hA_zero (n : Nat) (f : F3) : hA n f 0 = freshA [] := by simp [hA, freshA]
theorem hA_end (n : Nat) (f : F3) : hA n f (2 * n) = ⟨[], List.replicate n f, [], ⟨0, (n : Int), 0, 0, (n : Int)⟩⟩ := by
  have h : min (2 * n) n = n := by omega
  have h2 : 2 * n - n = n := by omega
  simp only [hA, h, h2]
set_option maxRecDepth 100000 in
set_option maxHeartbeats 4000000 in
theorem walk (x : Int) (id : Int) (wide : Bool) (sv : Value) (bs : List Int) (w : World) (hx : (Lit.int .i64 x).wf = true) (hi : 0 ≤ id) (hi' : id < 4294967296) (hs : Sl w w.heap.size (Value.int .u8) sv bs) (hb : ∀ x ∈ bs, 0 ≤ x ∧ x < 256) (hbl : bs.length ≤ 140737488351232) :
    Calls Try.prog 5 #[.int .i64 x, .agg #[.int .u32 id, .bool wide, sv]] w fun e w' => e = .returned (.bool true) ∧ Below w.heap.size w w' := by
  obtain ⟨A, cap, rfl, hcap, hmax⟩ := hs.form
  unfold maxLen at hmax
  have HS := Lib.hid hs
  have HB := Lib.hid hb
  clear hs hb
  obtain ⟨hx1, hx2⟩ := wf_i64 hx
  clear hx
  have hfr := Lib.hid (fun (W : World) (hW : Below w.heap.size w W) => enc_any id wide (.slice A bs.length cap) bs W (HS.out.at_below hW) hi HB.out)
  go_enter Try.func5, Try.ntmps5
  go_wp2_with fail
  refine (works_yes _).mono ?_
  rintro e w1 ⟨rfl, hb1⟩
  have hX1 := (Has.new w 35 #[.int .u32 id, .bool wide, .slice A bs.length cap]).below hb1 (by simp)
  have hB1 : Below w.heap.size w w1 := Below.trans (b := _) (by repeat' (first | (with_reducible assumption) | (with_reducible refine Below.setCell ?_ ?_ _) | (with_reducible refine Below.alloc ?_ ?_ _) | (with_reducible refine Below.drew ?_) | (with_reducible refine below_drewN ?_ _) | (with_reducible exact Below.refl _ _) | (show _ ≤ _; (try simp); (try omega); done) | exact Below.refl _ _ | assumption)) (hb1.mono (by (try simp); (try omega)))
  have x0 : w1.cell? ⟨w.heap.size, 0, none⟩ = some (.int .u32 id) := (hX1.cell 0).trans rfl
  have x1 : w1.cell? ⟨w.heap.size, 1, none⟩ = some (.bool wide) := (hX1.cell 1).trans rfl
  have x2 : w1.cell? ⟨w.heap.size, 2, none⟩ = some (.slice A bs.length cap) := (hX1.cell 2).trans rfl
  have hz1 := hX1.lt
  have HX1 := Lib.hid hX1
  have HB1 := Lib.hid hB1
  clear hX1 hB1 hb1
  go_wp2_with fail
  refine (hfr.out _ HB1.out).mono ?_
  rintro e w2 ⟨A4, n4, c4, rfl, hb2⟩
  have HX2 := Lib.hid (HX1.out.below hb2 hz1)
  have HB2 := Lib.hid (HB1.out.trans (hb2.mono HB1.out.size))
  clear hb2 x0 x1 x2
  unfold encE
  by_cases hno : frNo (id, wide, bs) = 0
  case neg =>
    rw [if_neg hno]
    clear hno
    go_wp2
    go_ret
    exact ⟨rfl, HB2.out⟩
  case pos =>
    rw [if_pos hno]
    have HNO := Lib.hid hno
    have HOK := Lib.hid (frNo_ok (f := (id, wide, bs)) hno hi HB.out)
    clear hno
    go_wp2_with fail
    refine (pickK.pick_any x 64 _ (by omega) (by omega) (by omega) (by omega)).mono ?_
    rintro e w3 ⟨rfl, rfl⟩
    obtain ⟨m, hm⟩ : ∃ m : Nat, x % 64 = (m : Int) := ⟨(x % 64).toNat, by omega⟩
    have hm64 : m < 64 := by omega
    rw [hm]
    clear hm
    obtain ⟨n, hn⟩ : ∃ n, n = m + 1 := ⟨_, rfl⟩
    have hn1 : 1 ≤ n := by omega
    have hn64 : n ≤ 64 := by omega
    obtain rfl : m = n - 1 := by omega
    have hnn : (1 : Int) + ((n - 1 : Nat) : Int) = (n : Int) := by omega
    clear hn hm64
    go_wp2_with fail
    refine (all_any 2 _ (by omega)).mono ?_
    rintro e w3 ⟨v, rfl, hv, -, hb3⟩
    have HV := Lib.hid hv
    have HB3 := Lib.hid (HB2.out.trans (hb3.mono HB2.out.size))
    have HX3 := Lib.hid (HX2.out.below hb3 HX2.out.lt)
    clear hv hb3
    go_wp2_with fail
    refine (new_is (room := n) v _ HV.out (by simp) (by simp) hn1 hn64 (by intro l hl; obtain ⟨_, rfl⟩ := List.mem_replicate.1 hl; simp)).mono ?_
    rintro e w4 ⟨b, K, rfl, hbus, hb4, hK⟩
    have HB4 := Lib.hid (HB3.out.trans (hb4.mono HB3.out.size))
    have HX4 := Lib.hid (HX3.out.below hb4 HX3.out.lt)
    have HK := Lib.hid (fun k hk => Nat.le_trans (Nat.le_of_lt HX3.out.lt) (hK k hk))
    have hnb : Hid (¬ busF b K w.heap.size) := fun h => by have := hK _ h; have := HX3.out.lt; omega
    have HBUS := Lib.hid (show BusIs n w4 b K ⟨[sA (id, wide, bs) 0 0, freshA []], []⟩ from hbus)
    clear hbus hb4 hK
    go_wp2
    go_loopw [9] (fun i wr => ∃ k : Nat, k ≤ n ∧ i = .int .i64 k ∧ Hid (BusIs n wr b K ⟨[sA (id, wide, bs) k 0, freshA []], []⟩) ∧ Hid (Below w.heap.size w wr) ∧ Hid (Has wr w.heap.size 35 #[.int .u32 id, .bool wide, .slice A bs.length cap])) (fun i _ => n - (intOf i).toNat)
    case atStart => exact ⟨0, Nat.zero_le _, rfl, HBUS, HB4, HX4⟩
    case round =>
      obtain ⟨k, hk, rfl, HBUSr, HBr, HXr⟩ := hrel
      have x0 : wr.cell? ⟨w.heap.size, 0, none⟩ = some (.int .u32 id) := (HXr.out.cell 0).trans rfl
      have x1 : wr.cell? ⟨w.heap.size, 1, none⟩ = some (.bool wide) := (HXr.out.cell 1).trans rfl
      have x2 : wr.cell? ⟨w.heap.size, 2, none⟩ = some (.slice A bs.length cap) := (HXr.out.cell 2).trans rfl
      have xl := HXr.out.lt
      by_cases hlt : k < n
      · go_wp2_with fail
        refine (send_is HBUSr.out 0 id wide _ bs (HS.out.at_below HBr.out) hi HB.out (by omega)).mono ?_
        rintro e w5 ⟨rfl, hbus5, hk5⟩
        dsimp only at hbus5 ⊢
        rw [send_more HNO.out hlt 0 (freshA [])] at hbus5
        rw [send_more HNO.out hlt 0 (freshA [])]
        have HBUS5 := Lib.hid hbus5
        have HX5 := Lib.hid (hk5.has HXr.out hnb.out)
        have HB5 := Lib.hid (Kp.to_below HBr.out hk5 HBr.out.size HK.out)
        clear hbus5 hk5
        dsimp only [errNo]
        rw [if_pos rfl]
        go_wp2
        exact ⟨⟨k + 1, by omega, by go_num, HBUS5, HB5, HX5⟩, by simp [intOf]; omega⟩
      · obtain rfl : k = n := by omega
        go_wp2_with fail
        refine (send_is HBUSr.out 0 id wide _ bs (HS.out.at_below HBr.out) hi HB.out (by omega)).mono ?_
        rintro e w5 ⟨rfl, hbus5, hk5⟩
        dsimp only at hbus5 ⊢
        rw [send_full HNO.out 0 (freshA [])] at hbus5
        rw [send_full HNO.out 0 (freshA [])]
        have HBUS5 := Lib.hid hbus5
        have HX5 := Lib.hid (hk5.has HXr.out hnb.out)
        have HB5 := Lib.hid (Kp.to_below HBr.out hk5 HBr.out.size HK.out)
        clear hbus5 hk5 x0 x1 x2
        dsimp only [errNo]
        rw [if_neg (by decide)]
        have x0 : w5.cell? ⟨w.heap.size, 0, none⟩ = some (.int .u32 id) := (HX5.out.cell 0).trans rfl
        have x1 : w5.cell? ⟨w.heap.size, 1, none⟩ = some (.bool wide) := (HX5.out.cell 1).trans rfl
        have x2 : w5.cell? ⟨w.heap.size, 2, none⟩ = some (.slice A bs.length cap) := (HX5.out.cell 2).trans rfl
        have xl := HX5.out.lt
        go_wp2_with fail
        refine (send_is HBUS5.out 0 id wide _ bs (HS.out.at_below HB5.out) hi HB.out (by omega)).mono ?_
        rintro e w6 ⟨rfl, hbus6, hk6⟩
        dsimp only at hbus6 ⊢
        rw [send_full HNO.out 0 (freshA [])] at hbus6
        rw [send_full HNO.out 0 (freshA [])]
        have HBUS6 := Lib.hid hbus6
        have HX6 := Lib.hid (hk6.has HX5.out hnb.out)
        have HB6 := Lib.hid (Kp.to_below HB5.out hk6 HB5.out.size HK.out)
        clear hbus6 hk6 x0 x1 x2
        dsimp only [errNo]
        rw [if_neg (by decide)]
        go_wp2_with fail
        refine (waiting_is HBUS6.out).mono ?_
        rintro e w7 ⟨rfl, q7, rfl⟩
        dsimp only
        rw [waits_full]
        have hd7 : Below w6.heap.size w6 (w6.drewN q7) := below_drewN (Below.refl _ _) q7
        have HBUS7 := Lib.hid (HBUS6.out.below hd7)
        have HX7 := Lib.hid (HX6.out.below hd7 HX6.out.lt)
        have HB7 := Lib.hid (HB6.out.trans (hd7.mono HB6.out.size))
        generalize w6.drewN q7 = w7 at HBUS7 HX7 HB7 ⊢
        clear hd7
        go_wp2_with fail
        refine (counts_is HBUS7.out 0).mono ?_
        rintro e w8 ⟨rfl, hb8⟩
        rw [show countA (⟨[sA (id, wide, bs) k 0, freshA []], []⟩ : ABus).st 0 = (0, ⟨0, 0, 0, 0, 0⟩) from rfl]
        have HBUS8 := Lib.hid (HBUS7.out.below hb8)
        have HX8 := Lib.hid (HX7.out.below hb8 HX7.out.lt)
        have HB8 := Lib.hid (HB7.out.trans (hb8.mono HB7.out.size))
        clear hb8
        dsimp only [errNo, cnV]
        rw [if_pos rfl]
        go_wp2_with (first | (go_at_call 9; refine (isK.num_no 24 _ (by omega) (by omega)).mono ?_; rintro e w9 ⟨rfl, rfl⟩))
        obtain ⟨m, hm⟩ : ∃ m, k = m + 1 := ⟨k - 1, by omega⟩
        have hal9 : Below w8.heap.size w8 (w8.alloc (.cells #[.int .i64 0, .int .i64 0, .int .i64 0, .int .i64 0, .int .i64 0] 64)) := (Below.refl _ _).alloc (Nat.le_refl _) _
        have hnc : Hid (¬ busF b K w8.heap.size) := fun h => absurd (HBUS8.out.lt h) (Nat.lt_irrefl _)
        have HBUS9 : Hid (BusIs k (w8.alloc (.cells #[.int .i64 0, .int .i64 0, .int .i64 0, .int .i64 0, .int .i64 0] 64)) b K ⟨[sA (id, wide, bs) (m + 1) 0, ⟨[], [], [], ⟨0, 0, 0, 0, 0⟩⟩], []⟩) := by rw [← hm]; exact HBUS8.out.below hal9
        have HX9 := Lib.hid (HX8.out.below hal9 HX8.out.lt)
        have HC9 := Lib.hid (Has.new w8 64 #[.int .i64 0, .int .i64 0, .int .i64 0, .int .i64 0, .int .i64 0])
        have HB9 := Lib.hid (HB8.out.trans (hal9.mono HB8.out.size))
        have HM := Lib.hid hm
        have hmk : m < k := by omega
        clear hm hal9
        refine (tick_is HBUS9.out ⟨true, false, 0, .slice none 0 0, []⟩ (FlIs.nil_ _ _) (by simp)).mono ?_
        rintro e w10 ⟨rfl, hbus10, hk10⟩
        rw [show tickA k (⟨[sA (id, wide, bs) (m + 1) 0, ⟨[], [], [], ⟨0, 0, 0, 0, 0⟩⟩], []⟩ : ABus) (WireD.a ⟨true, false, 0, .slice none 0 0, []⟩) = _ from tick_lost HOK.out m [] [] ⟨0, 0, 0, 0, 0⟩] at hbus10
        rw [show tickA k (⟨[sA (id, wide, bs) (m + 1) 0, ⟨[], [], [], ⟨0, 0, 0, 0, 0⟩⟩], []⟩ : ABus) (WireD.a ⟨true, false, 0, .slice none 0 0, []⟩) = _ from tick_lost HOK.out m [] [] ⟨0, 0, 0, 0, 0⟩]
        have HBUS10 := Lib.hid (show BusIs k w10 b K ⟨[sA (id, wide, bs) m 1, freshA []], []⟩ from hbus10)
        have HX10 := Lib.hid (hk10.has HX9.out hnb.out)
        have HC10 := Lib.hid (hk10.has HC9.out hnc.out)
        have HB10 := Lib.hid (Kp.to_below HB9.out hk10 HB9.out.size HK.out)
        clear hbus10 hk10
        dsimp only
        have x0 : w10.cell? ⟨w.heap.size, 0, none⟩ = some (.int .u32 id) := (HX10.out.cell 0).trans rfl
        have x1 : w10.cell? ⟨w.heap.size, 1, none⟩ = some (.bool wide) := (HX10.out.cell 1).trans rfl
        have x2 : w10.cell? ⟨w.heap.size, 2, none⟩ = some (.slice A bs.length cap) := (HX10.out.cell 2).trans rfl
        go_wp2_with fail
        refine (send_is HBUS10.out 0 id wide _ bs (HS.out.at_below HB10.out) hi HB.out (by omega)).mono ?_
        rintro e w11 ⟨rfl, hbus11, hk11⟩
        dsimp only at hbus11 ⊢
        rw [send_more HNO.out hmk 1 (freshA [])] at hbus11
        rw [send_more HNO.out hmk 1 (freshA [])]
        have HBUS11 := Lib.hid (show BusIs k w11 b K ⟨[sA (id, wide, bs) k 1, freshA []], []⟩ from by have h := hbus11; rw [← HM.out] at h; exact h)
        have HX11 := Lib.hid (hk11.has HX10.out hnb.out)
        have HC11 := Lib.hid (hk11.has HC10.out hnc.out)
        have HB11 := Lib.hid (Kp.to_below HB10.out hk11 HB10.out.size HK.out)
        clear hbus11 hk11 x0 x1 x2
        dsimp only [errNo]
        rw [if_pos rfl]
        have x0 : w11.cell? ⟨w.heap.size, 0, none⟩ = some (.int .u32 id) := (HX11.out.cell 0).trans rfl
        have x1 : w11.cell? ⟨w.heap.size, 1, none⟩ = some (.bool wide) := (HX11.out.cell 1).trans rfl
        have x2 : w11.cell? ⟨w.heap.size, 2, none⟩ = some (.slice A bs.length cap) := (HX11.out.cell 2).trans rfl
        go_wp2_with fail
        refine (send_is HBUS11.out 0 id wide _ bs (HS.out.at_below HB11.out) hi HB.out (by omega)).mono ?_
        rintro e w12 ⟨rfl, hbus12, hk12⟩
        dsimp only at hbus12 ⊢
        rw [send_full HNO.out 1 (freshA [])] at hbus12
        rw [send_full HNO.out 1 (freshA [])]
        have HBUS12 := Lib.hid hbus12
        have HX12 := Lib.hid (hk12.has HX11.out hnb.out)
        have HC12 := Lib.hid (hk12.has HC11.out hnc.out)
        have HB12 := Lib.hid (Kp.to_below HB11.out hk12 HB11.out.size HK.out)
        clear hbus12 hk12 x0 x1 x2
        dsimp only [errNo]
        rw [if_neg (by decide)]
        go_wp2_with (first | (go_at_call 9; refine (isK.num_no 24 _ (by omega) (by omega)).mono ?_; rintro e w9' ⟨rfl, rfl⟩))
        have HBUS12' : Hid (BusIs k w12 b K ⟨[sA (id, wide, bs) (k - 0) ((0 + 1 : Nat) : Int), hA k (id, wide, bs) (2 * 0)], []⟩) := by
          unfold Hid
          rw [Nat.mul_zero, hA_zero]
          exact HBUS12.out
        go_loopw [16] (fun i wr => ∃ j : Nat, j ≤ k ∧ i = .int .i64 j ∧ Hid (BusIs k wr b K ⟨[sA (id, wide, bs) (k - j) ((j + 1 : Nat) : Int), hA k (id, wide, bs) (2 * j)], []⟩) ∧ Hid (Below w.heap.size w wr) ∧ Hid (Has wr w8.heap.size 64 #[.int .i64 0, .int .i64 0, .int .i64 0, .int .i64 0, .int .i64 0])) (fun i _ => k - (intOf i).toNat)
        case atStart => exact ⟨0, Nat.zero_le _, rfl, HBUS12', HB12, HC12⟩
        case round =>
          obtain ⟨j, hj, rfl, HBUSq, HBq, HCq⟩ := hrel
          by_cases hlt2 : j < k
          · go_wp2_with fail
            have ht := tick_twice (n := k) HOK.out (k - j - 1) j (j + 1) (by omega) (by omega)
            rw [show k - j - 1 + 1 = k - j from by omega] at ht
            refine (tick_is HBUSq.out ⟨false, true, 0, .slice none 0 0, []⟩ (FlIs.nil_ _ _) (by simp)).mono ?_
            rintro e w13 ⟨rfl, hbus13, hk13⟩
            rw [show tickA k _ (WireD.a ⟨false, true, 0, .slice none 0 0, []⟩) = _ from ht] at hbus13
            rw [show tickA k _ (WireD.a ⟨false, true, 0, .slice none 0 0, []⟩) = _ from ht]
            have HBUS13 : Hid (BusIs k w13 b K ⟨[sA (id, wide, bs) (k - (j + 1)) ((j + 1 + 1 : Nat) : Int), hA k (id, wide, bs) (2 * (j + 1))], []⟩) := by
              unfold Hid
              rw [show k - (j + 1) = k - j - 1 from by omega]
              exact hbus13
            have HC13 := Lib.hid (hk13.has HCq.out hnc.out)
            have HB13 := Lib.hid (Kp.to_below HBq.out hk13 HBq.out.size HK.out)
            clear hbus13 hk13 ht
            dsimp only
            go_wp2
            exact ⟨⟨j + 1, by omega, by go_num, HBUS13, HB13, HC13⟩, by simp [intOf]; omega⟩
          · obtain rfl : j = k := by omega
            go_wp2_with fail
            refine (counts_is HBUSq.out 1).mono ?_
            rintro e w14 ⟨rfl, hb14⟩
            rw [show countA (⟨[sA (id, wide, bs) (j - j) ((j + 1 : Nat) : Int), hA j (id, wide, bs) (2 * j)], []⟩ : ABus).st 1 = (0, ⟨0, (j : Int), 0, 0, (j : Int)⟩) from by rw [hA_end]; rfl]
            have hC14 := HCq.out.below hb14 HCq.out.lt
            have y0 : w14.cell? ⟨w8.heap.size, 0, none⟩ = some (.int .i64 0) := (hC14.cell 0).trans rfl
            have y1 : w14.cell? ⟨w8.heap.size, 1, none⟩ = some (.int .i64 0) := (hC14.cell 1).trans rfl
            have y2 : w14.cell? ⟨w8.heap.size, 2, none⟩ = some (.int .i64 0) := (hC14.cell 2).trans rfl
            have y3 : w14.cell? ⟨w8.heap.size, 3, none⟩ = some (.int .i64 0) := (hC14.cell 3).trans rfl
            have y4 : w14.cell? ⟨w8.heap.size, 4, none⟩ = some (.int .i64 0) := (hC14.cell 4).trans rfl
            have yf := fun i => hC14.frozen i
            have HB14 := HBq.out.trans (hb14.mono HBq.out.size)
            have hw8 : w.heap.size ≤ w8.heap.size := HB8.out.size
            clear hb14 hC14
            dsimp only [errNo, cnV]
            rw [if_pos rfl]
            go_wp2
            go_ret
            exact ⟨rfl, (by repeat' (first | (with_reducible assumption) | (with_reducible refine Below.setCell ?_ ?_ _) | (with_reducible refine Below.alloc ?_ ?_ _) | (with_reducible refine Below.drew ?_) | (with_reducible refine below_drewN ?_ _) | (with_reducible exact Below.refl _ _) | (show _ ≤ _; (try simp); (try omega); done) | exact Below.refl _ _ | assumption))⟩
/-! The row's step. -/
theorem own : ownKnob Try.prog.godebug = none := by kernel_rfl
theorem laidOut : laidOutB Try.prog = true := by kernel_rfl

set_option maxRecDepth 100000 in
theorem lifted (os : Os) (started : os.Started) (H : Type) (enc : TypeId × Value → H) :
    ReturnsInHanded {} Try.checked os 5 .any (Rows.busFullSpec.pre6 enc Try.prog Try.f5 Rows.busFullRow.domain false) (Rows.busFullSpec.post enc Try.prog Try.f5 false true false false) := by
  refine returnsInHanded_of_change_sized (C := Try.checked) own started (by kernel_rfl) Try.func5
    (ChangeSpec.witness6 (enc := enc) (C := Try.checked) false ⟨#[], #[.int .i64 0, .agg #[.int .u32 0, .bool false, .slice none 0 0]], []⟩ 8 (by kernel_rfl) (by kernel_rfl) (by kernel_rfl) (by kernel_rfl)) ?_
  intro W base args ds gs before hval0 hW hcnd hsz0 _
  have hval : ∀ (j : Nat) t v, Try.f5.params[j]? = some t → args[j]? = some v → Value.okWide Try.prog W .any base t v := hval0
  have hsz : (DataW.weightsEach Try.prog (Try.f5.params.toList ++ Rows.busFullSpec.plain.varTypes Try.prog) (ds ++ gs)).all (· ≤ reachBytes) = true := hsz0
  have hW' := hW
  obtain ⟨p, q, hA0, hV, rfl, hfz, hnd⟩ := hW
  have hA : DataW.TrodAll enc Try.prog W 0 (fun _ => true) true Try.f5.params.toList args.toList ds p := hA0
  rw [Try.params5] at hA hval hsz
  obtain ⟨v0, vs0, d0, ds0, p0, q0, hargs, rfl, rfl, h0, r0⟩ := trodAll_cons hA
  obtain ⟨v1, vs1, d1, ds1, p1, q1, rfl, rfl, rfl, h1, r1⟩ := trodAll_cons r0
  obtain ⟨rfl, rfl, rfl⟩ := trodAll_nil r1
  obtain rfl : args = #[v0, v1] := by cases args; simp_all
  obtain ⟨rfl, rfl⟩ := trodVars_none hV
  have k0 := h0
  have lt0 : ∀ x ∈ p0, x.block < W.heap.size := by obtain ⟨m, hm⟩ := h0; exact DataW.trod_lt m _ _ _ hm
  have wt0 : ∀ m ∈ d0.weights Try.prog 3, m ≤ reachBytes := fun m hm => by
    simpa using List.all_eq_true.1 hsz m (DataW.weights_mem_each (j := 0) rfl rfl m hm)
  have k1 := h1
  have lt1 : ∀ x ∈ p1, x.block < W.heap.size := by obtain ⟨m, hm⟩ := h1; exact DataW.trod_lt m _ _ _ hm
  have wt1 : ∀ m ∈ d1.weights Try.prog 35, m ≤ reachBytes := fun m hm => by
    simpa using List.all_eq_true.1 hsz m (DataW.weights_mem_each (j := 1) rfl rfl m hm)
  obtain ⟨x0, rfl, rfl, rfl, g0⟩ := open_int Try.underlying3 (hval 0 3 v0 rfl rfl) h0
  obtain ⟨id1, wd1, sv1, l1, rfl, fa1, fb1, fc1, fd1, fe1⟩ := frameA.open_frame (hval 1 35 v1 rfl rfl) h1 wt1
  clear hA0 hval0 hsz0
  refine (walk x0 id1 wd1 sv1 l1 W g0 fa1 fb1 fc1 fd1 fe1).mono fun e W' ⟨he, bel⟩ => ?_
  subst he
  exact ⟨_, rfl, _, _, _, [], _, [], hW', trodAll_mk1 (shut_bool Try.underlying4 _), (trodAll_cons_mk (shut_int Try.underlying3 g0) (trodAll_cons_mk (Below.trod laidOut (by kernel_rfl) (of_decide_eq_true (by kernel_rfl)) k1 bel lt1) trodAll_mk0)), rfl, bel.frame _, fun h => by cases h⟩

theorem over : Rows.busFullRow.holds Try.pinned (OpenSpec.ofChange Rows.busFullSpec) :=
  OpenClaim.holds_of_wide 5 Try.f5 rfl rfl rfl rfl rfl rfl rfl ⟨rfl, rfl, rfl, rfl, rfl⟩ rfl rfl rfl rfl rfl (by kernel_rfl) Try.func5 (by kernel_rfl)
    (of_decide_eq_true (by kernel_rfl)) (by unfold Func.isWrapper; first | (rw [if_pos (by decide +kernel)]; kernel_rfl) | (rw [if_neg (by decide +kernel)]; exact ⟨rfl, rfl⟩))
    (fun os started H enc _ => lifted os started H enc)

theorem proved : Rows.BusFullSaid := over
#print axioms proved
end Go.Proofs.Ytomkgnlooheibaa.busFull
