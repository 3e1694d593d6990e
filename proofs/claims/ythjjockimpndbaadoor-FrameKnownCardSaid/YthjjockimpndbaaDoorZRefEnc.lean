/- busbarref22.Bits, Encode: the document's bits of a frame and its row on the wire, or what is wrong. -/
import Derived.Test.YthjjockimpndbaaDoorZRefBits
namespace Go.Proofs.YthjjockimpndbaaDoor
open Go.RowKit Go.Bus Go.Bus.bitK
set_option linter.unusedVariables false
namespace refW
open putK Go.Bus.stuffK Go.Bus.decK
/-- A row of the document, in a list of the call's own, and no error. -/
def RefOwn (w : World) (xs : List Bool) (e : Ending) (w' : World) : Prop :=
  ∃ v, e = .returned (.tuple #[v, .int .i64 0]) ∧ w'.ownsRow w.heap.size 4 1 v xs.length (xs.map Value.bool) ∧ Below w.heap.size w w'
def RefNo (w : World) (k : Int) (e : Ending) (w' : World) : Prop := e = .returned (.tuple #[.slice none 0 0, .int .i64 k]) ∧ Below w.heap.size w w'

set_option maxRecDepth 100000 in
set_option maxHeartbeats 1000000 in
theorem rbits_id (id : Int) (wide : Bool) (A : Option Addr) (n c : Nat) (w : World) (h : 536870911 < id ∨ (wide = false ∧ 2047 < id)) :
    Calls Tryd.prog 19 #[.agg #[.int .u32 id, .bool wide, .slice A n c]] w (RefNo w 26) := by
  by_cases h1 : 536870911 < id
  · clear h
    go_enter Tryd.func19, Tryd.ntmps19
    go_wp2
    go_ret2
    exact ⟨rfl, (by repeat (first | exact Below.refl _ _ | assumption | refine Below.drew ?_ | refine below_drewN ?_ _ | (refine Below.alloc ?_ (by (try simp); (try omega)) _) | (refine Below.setCell ?_ (by (try simp); (try omega)) _)))⟩
  · obtain ⟨rfl, h2⟩ := h.resolve_left h1
    have d1 : decide (536870911 < id) = false := by simp; omega
    have d2 : decide (2047 < id) = true := by simp; omega
    go_enter Tryd.func19, Tryd.ntmps19
    go_wp2
    go_ret2
    exact ⟨rfl, (by repeat (first | exact Below.refl _ _ | assumption | refine Below.drew ?_ | refine below_drewN ?_ _ | (refine Below.alloc ?_ (by (try simp); (try omega)) _) | (refine Below.setCell ?_ (by (try simp); (try omega)) _)))⟩

set_option maxRecDepth 100000 in
set_option maxHeartbeats 1000000 in
theorem rbits_size (id : Int) (wide : Bool) (A : Option Addr) (n c : Nat) (w : World) (h : id ≤ 536870911) (h' : wide = false → id ≤ 2047) (hn : 8 < n) :
    Calls Tryd.prog 19 #[.agg #[.int .u32 id, .bool wide, .slice A n c]] w (RefNo w 15) := by
  have d1 : decide (536870911 < id) = false := by simp; omega
  have d3 : decide ((8 : Int) < (n : Int)) = true := by simp; omega
  cases wide
  · have d2 : decide (2047 < id) = false := by simp; have := h' rfl; omega
    clear h'
    go_enter Tryd.func19, Tryd.ntmps19
    go_wp2
    go_ret2
    exact ⟨rfl, (by repeat (first | exact Below.refl _ _ | assumption | refine Below.drew ?_ | refine below_drewN ?_ _ | (refine Below.alloc ?_ (by (try simp); (try omega)) _) | (refine Below.setCell ?_ (by (try simp); (try omega)) _)))⟩
  · clear h'
    go_enter Tryd.func19, Tryd.ntmps19
    go_wp2
    go_ret2
    exact ⟨rfl, (by repeat (first | exact Below.refl _ _ | assumption | refine Below.drew ?_ | refine below_drewN ?_ _ | (refine Below.alloc ?_ (by (try simp); (try omega)) _) | (refine Below.setCell ?_ (by (try simp); (try omega)) _)))⟩

set_option maxRecDepth 100000 in
set_option maxHeartbeats 1000000 in
theorem rbits_core (id : Int) (wide : Bool) (sv : Value) (l : List Int) (w : World) (hs : Sl w w.heap.size (Value.int .u8) sv l) (h0 : 0 ≤ id) (h : id ≤ 536870911) (d2 : wide = true ∨ decide (2047 < id) = false) (hn : l.length ≤ 8) (hb : ∀ x ∈ l, 0 ≤ x ∧ x < 256) :
    Calls Tryd.prog 19 #[.agg #[.int .u32 id, .bool wide, sv]] w (RefOwn w (bitsF id wide l)) := by
  obtain ⟨A, cap, rfl, hcap, hmax⟩ := hs.form
  unfold maxLen at hmax
  have d1 : decide (536870911 < id) = false := by simp; omega
  have HS := Lib.hid hs; clear hs
  have HB := Lib.hid hb; clear hb
  obtain ⟨pre, hpre⟩ : ∃ pre, pre = [false] ++ headF id wide ++ msb l.length 4 := ⟨_, rfl⟩
  have hpl : pre.length ≤ 39 := by rw [hpre]; simp [headF_length, msb_length]; split <;> omega
  have HPRE := Lib.hid hpre
  have hEnd : Hid (∀ W, Calls Tryd.prog 47 #[.agg #[.int .u32 id, .bool wide, .slice A l.length cap]] W (Own W.heap.size W pre)) := Lib.hid (by rw [hpre]; exact fun W => header_any id wide A l.length cap W h0 h hn)
  clear hpre
  have e1 : bitsF id wide l = pre ++ dataF l ++ msb (crcS (pre ++ dataF l)) 15 := by rw [HPRE.out]; rfl
  have E1 := Lib.hid e1
  clear e1
  rcases d2 with rfl | d2
  all_goals try cases wide
  all_goals
    go_enter Tryd.func19, Tryd.ntmps19
    go_wp2_with fail
    refine (hEnd.out _).mono ?_
    rintro e w1 ⟨v1, rfl, ho1, hb_w1⟩
    have HO : Hid (w1.ownsRow (w.heap.size + 1) 4 1 v1 (pre ++ dataF (l.take 0)).length ((pre ++ dataF (l.take 0)).map Value.bool)) := by
      have h9 := own_base ho1 (show w.heap.size + 1 ≤ _ by simp)
      simpa [Hid, dataF] using h9
    have K1 : Below (w.heap.size + 1) (w.alloc (.cells #[.int .u32 id, .bool _, .slice A l.length cap] 46)) w1 := hb_w1.mono (by simp)
    have hBW : Below w.heap.size w w1 := Below.trans (b := _) (by repeat (first | exact Below.refl _ _ | assumption | refine Below.drew ?_ | refine below_drewN ?_ _ | (refine Below.alloc ?_ (by (try simp); (try omega)) _) | (refine Below.setCell ?_ (by (try simp); (try omega)) _))) (K1.mono (by omega))
    have hW1 : w.heap.size + 1 ≤ w1.heap.size := by have := K1.size; simp at this; omega
    have q2 : w1.cell? ⟨w.heap.size, 2, none⟩ = some (.slice A l.length cap) := by rw [K1.cell (p := ⟨w.heap.size, 2, none⟩) (by dsimp only; omega)]; simp
    have HBW := Lib.hid hBW
    clear ho1 hb_w1 K1 hBW
    go_wp2
    go_loopw [4, 5] (fun o i wr => ∃ k : Nat, k ≤ l.length ∧ i = .int .i64 k ∧ wr.ownsRow (w.heap.size + 1) 4 1 o (pre ++ dataF (l.take k)).length ((pre ++ dataF (l.take k)).map Value.bool) ∧ Below (w.heap.size + 1) w1 wr) (fun _ i _ => l.length - (intOf i).toNat)
    case atStart => exact ⟨0, Nat.zero_le _, rfl, HO.out, Below.refl _ _⟩
    case round =>
      clear HO
      obtain ⟨k, hk, rfl, hown, K⟩ := hrel
      have hBr : w.heap.size + 1 ≤ wr.heap.size := Nat.le_trans hW1 K.size
      have hdl : (dataF (l.take k)).length ≤ 64 := by rw [dataF_length, List.length_take]; omega
      have hpl2 : (pre ++ dataF (l.take k)).length ≤ 1000 := by rw [List.length_append]; omega
      have q3 : wr.cell? ⟨w.heap.size, 2, none⟩ = some (.slice A l.length cap) := (K.cell (p := ⟨w.heap.size, 2, none⟩) (by dsimp only; omega)).trans q2
      have HO := Lib.hid hown; clear hown
      have HPL := Lib.hid hpl2; clear hpl2
      have HK := Lib.hid K; clear K
      clear q2
      by_cases hlt : k < l.length
      · obtain ⟨b, off, rfl, hbb, hc0⟩ := HS.out.at_ hlt
        have hc : wr.cell? ⟨b, off + k, none⟩ = some (.int .u8 l[k]) := ((HBW.out.trans (HK.out.mono (by omega))).cell (p := ⟨b, off + k, none⟩) hbb).trans hc0
        clear hc0
        have hk1 := (HB.out l[k] (List.getElem_mem hlt)).1
        have hk2 := (HB.out l[k] (List.getElem_mem hlt)).2
        have hs := dataF_snoc l k hlt
        have HSN := Lib.hid hs; clear hs
        generalize l[k] = x at *
        go_wp2_with fail
        refine (rput_any (w.heap.size + 1) _ (pre ++ dataF (l.take k)) _ 8 8 _ HO.out hBr rfl (by omega) (by omega) (by omega) (by have := HPL.out; omega)).mono ?_
        rintro e w9 ⟨v9, rfl, hown9, hb9⟩
        have HN : Hid (w9.ownsRow (w.heap.size + 1) 4 1 v9 (pre ++ dataF (l.take (k + 1))).length ((pre ++ dataF (l.take (k + 1))).map Value.bool)) := by
          rw [← HSN.out, ← List.append_assoc]; exact hown9
        have K9 := Lib.hid (HK.out.trans hb9)
        clear hown9 hb9 hc HO
        go_wp2
        go_roundw
        case rel => exact ⟨k + 1, by omega, by go_num, HN.out, K9.out⟩
        case measure => first | (simp [intOf]; done) | (simp [intOf]; omega)
      · obtain rfl : k = l.length := by omega
        rw [List.take_of_length_le (Nat.le_refl _)] at HO HPL
        go_wp2_with fail
        refine (with_any _ (pre ++ dataF l) _ (Sl.of_own HO.out) (by have := HPL.out; omega)).mono ?_
        rintro e w9 ⟨v9, rfl, hown9, hb9⟩
        rw [← E1.out] at hown9
        have HN := Lib.hid hown9; clear hown9
        have HB9 := Lib.hid (HBW.out.trans ((HK.out.trans (hb9.mono hBr)).mono (show w.heap.size ≤ w.heap.size + 1 by omega)))
        clear hb9
        go_wp2
        go_ret2
        exact ⟨_, rfl, own_base HN.out (by omega), HB9.out⟩

theorem rbits_ok (id : Int) (wide : Bool) (sv : Value) (l : List Int) (w : World) (hs : Sl w w.heap.size (Value.int .u8) sv l) (h0 : 0 ≤ id) (h : id ≤ 536870911) (h' : wide = false → id ≤ 2047) (hn : l.length ≤ 8) (hb : ∀ x ∈ l, 0 ≤ x ∧ x < 256) :
    Calls Tryd.prog 19 #[.agg #[.int .u32 id, .bool wide, sv]] w (RefOwn w (bitsF id wide l)) :=
  rbits_core id wide sv l w hs h0 h (by cases wide; right; simp; have := h' rfl; omega; left; rfl) hn hb

set_option maxRecDepth 100000 in
set_option maxHeartbeats 1000000 in
theorem renc_ok (id : Int) (wide : Bool) (sv : Value) (l : List Int) (w : World) (hs : Sl w w.heap.size (Value.int .u8) sv l) (h0 : 0 ≤ id) (h : id ≤ 536870911) (h' : wide = false → id ≤ 2047) (hn : l.length ≤ 8) (hb : ∀ x ∈ l, 0 ≤ x ∧ x < 256) :
    Calls Tryd.prog 20 #[.agg #[.int .u32 id, .bool wide, sv]] w (RefOwn w (onF (bitsF id wide l))) := by
  obtain ⟨A, cap, rfl, hcap, hmax⟩ := hs.form
  have hbl := bitsF_length id wide l
  have HS := Lib.hid hs; clear hs
  have H' := Lib.hid h'; clear h'
  have HB := Lib.hid hb; clear hb
  have HBL : Hid ((bitsF id wide l).length ≤ 118) := by unfold Hid; rw [hbl]; split <;> omega
  clear hbl
  go_enter Tryd.func20, Tryd.ntmps20
  go_wp2_with fail
  refine (rbits_ok id wide _ l _ (HS.out.at_below (by repeat (first | exact Below.refl _ _ | assumption | refine Below.drew ?_ | refine below_drewN ?_ _ | (refine Below.alloc ?_ (by (try simp); (try omega)) _) | (refine Below.setCell ?_ (by (try simp); (try omega)) _)))) h0 h H'.out hn HB.out).mono ?_
  rintro e w1 ⟨v1, rfl, hown1, hb_w1⟩
  have HO := Lib.hid hown1; clear hown1
  have hB1 : Below w.heap.size w w1 := Below.trans (b := _) (by repeat (first | exact Below.refl _ _ | assumption | refine Below.drew ?_ | refine below_drewN ?_ _ | (refine Below.alloc ?_ (by (try simp); (try omega)) _) | (refine Below.setCell ?_ (by (try simp); (try omega)) _))) (hb_w1.mono (by (try simp); (try omega)))
  go_wp2_with fail
  refine (rwire_any _ (bitsF id wide l) _ (Sl.of_own HO.out) (by have := HBL.out; omega)).mono ?_
  rintro e w2 ⟨v2, rfl, hown2, hb2⟩
  have HO2 := Lib.hid hown2; clear hown2
  go_wp2
  go_ret2
  exact ⟨_, rfl, own_base HO2.out hB1.size, hB1.trans (hb2.mono hB1.size)⟩

set_option maxRecDepth 100000 in
set_option maxHeartbeats 1000000 in
theorem renc_no (id : Int) (wide : Bool) (A : Option Addr) (n c : Nat) (k : Int) (w : World) (hk : k = 26 ∨ k = 15) (hB : ∀ W, Calls Tryd.prog 19 #[.agg #[.int .u32 id, .bool wide, .slice A n c]] W (RefNo W k)) :
    Calls Tryd.prog 20 #[.agg #[.int .u32 id, .bool wide, .slice A n c]] w (RefNo w k) := by
  have HB := Lib.hid hB; clear hB
  rcases hk with rfl | rfl
  all_goals
    go_enter Tryd.func20, Tryd.ntmps20
    go_wp2_with fail
    refine (HB.out _).mono ?_
    rintro e w1 ⟨rfl, hb_w1⟩
    have hB1 := Lib.hid (Below.trans (b := _) ((by repeat (first | exact Below.refl _ _ | assumption | refine Below.drew ?_ | refine below_drewN ?_ _ | (refine Below.alloc ?_ (by (try simp); (try omega)) _) | (refine Below.setCell ?_ (by (try simp); (try omega)) _))) : Below w.heap.size w _) (hb_w1.mono (by (try simp); (try omega))))
    clear hb_w1
    go_wp2
    go_ret2
    exact ⟨rfl, hB1.out⟩

set_option maxRecDepth 100000 in
set_option maxHeartbeats 1000000 in
theorem enc_no (id : Int) (wide : Bool) (A : Option Addr) (n c : Nat) (k : Int) (w : World) (hk : k = 26 ∨ k = 15)
    (hB : ∀ W, Calls Tryd.prog 17 #[.agg #[.int .u32 id, .bool wide, .slice A n c]] W fun e w' => e = .returned (.tuple #[.slice none 0 0, .iface 73 (.int .i64 k)]) ∧ Below W.heap.size W w') :
    Calls Tryd.prog 18 #[.agg #[.int .u32 id, .bool wide, .slice A n c]] w fun e w' => e = .returned (.tuple #[.slice none 0 0, .iface 73 (.int .i64 k)]) ∧ Below w.heap.size w w' := by
  have HB := Lib.hid hB; clear hB
  rcases hk with rfl | rfl
  all_goals
    go_enter Tryd.func18, Tryd.ntmps18
    go_wp2_with fail
    refine (HB.out _).mono ?_
    rintro e w1 ⟨rfl, hb_w1⟩
    have hB1 := Lib.hid (Below.trans (b := _) ((by repeat (first | exact Below.refl _ _ | assumption | refine Below.drew ?_ | refine below_drewN ?_ _ | (refine Below.alloc ?_ (by (try simp); (try omega)) _) | (refine Below.setCell ?_ (by (try simp); (try omega)) _))) : Below w.heap.size w _) (hb_w1.mono (by (try simp); (try omega))))
    clear hb_w1
    go_wp2
    go_ret2
    exact ⟨rfl, hB1.out⟩
end refW
end Go.Proofs.YthjjockimpndbaaDoor
