/- busbarref27.split of any text. Condition: the text's length. -/
import Derived.Test.YtbhhfdajaoemnaaGreatDoorDumpQb
import Derived.Test.YtbhhfdajaoemnaaGreatDoorDumpSp
import Derived.Test.YtbhhfdajaoemnaaGreatDoorRes
import Derived.Test.YtbhhfdajaoemnaaGreatDoorDumpSh
namespace Go.Proofs.YtbhhfdajaoemnaaGreatDoor
open Go.RowKit Go.Bus Go.Bus.dumpK Go.Bus.textK
set_option linter.unusedVariables false
set_option linter.unusedSimpArgs false
namespace dumpW
def SpR (S : List UInt8) (w : World) (e : Ending) (w' : World) : Prop := Below w.heap.size w w' ∧ (((pieces S = none ∨ ∃ p, pieces S = some p ∧ shaped p = false) ∧ e = .returned (.tuple #[.agg #[.string ⟨#[]⟩, .string ⟨#[]⟩, .string ⟨#[]⟩, .string ⟨#[]⟩, .string ⟨#[]⟩], .bool false])) ∨ (∃ p, pieces S = some p ∧ shaped p = true ∧ e = .returned (.tuple #[.agg #[.string ⟨p.a.toArray⟩, .string ⟨p.b.toArray⟩, .string ⟨p.c.toArray⟩, .string ⟨p.d.toArray⟩, .string ⟨p.e.toArray⟩], .bool true])))
theorem SpR.bad {S : List UInt8} {w w' : World} (h : pieces S = none ∨ ∃ p, pieces S = some p ∧ shaped p = false) (hb : Below w.heap.size w w') : SpR S w (.returned (.tuple #[.agg #[.string ⟨#[]⟩, .string ⟨#[]⟩, .string ⟨#[]⟩, .string ⟨#[]⟩, .string ⟨#[]⟩], .bool false])) w' := ⟨hb, .inl ⟨h, rfl⟩⟩
theorem SpR.good {S : List UInt8} {w w' : World} {p : Pcs} (h : pieces S = some p) (hs : shaped p = true) (hb : Below w.heap.size w w') : SpR S w (.returned (.tuple #[.agg #[.string ⟨p.a.toArray⟩, .string ⟨p.b.toArray⟩, .string ⟨p.c.toArray⟩, .string ⟨p.d.toArray⟩, .string ⟨p.e.toArray⟩], .bool true])) w' := ⟨hb, .inr ⟨p, h, hs, rfl⟩⟩
theorem has_drewN {w : World} {g : Nat} {t : TypeId} {cs : Array Value} (h : Has w g t cs) (n : Nat) : Has (w.drewN n) g t cs := h
theorem upV_yes {c : UInt8} {T x r : List UInt8} (h : cutAt c T = some (x, r)) (hl : T.length ≤ 16777216) (W : World) : Calls Tryz.prog 69 #[.string ⟨T.toArray⟩, .int .u8 (c.toNat : Nat)] W fun e w' => e = .returned (.tuple #[.string ⟨x.toArray⟩, .string ⟨r.toArray⟩, .bool true]) ∧ ∃ n, w' = W.drewN n := by
  have := upto_any T hl c W
  unfold upV at this
  rw [h] at this
  exact this
theorem upV_no {c : UInt8} {T : List UInt8} (h : cutAt c T = none) (hl : T.length ≤ 16777216) (W : World) : Calls Tryz.prog 69 #[.string ⟨T.toArray⟩, .int .u8 (c.toNat : Nat)] W fun e w' => e = .returned (.tuple #[.string ⟨#[]⟩, .string ⟨#[]⟩, .bool false]) ∧ ∃ n, w' = W.drewN n := by
  have := upto_any T hl c W
  unfold upV at this
  rw [h] at this
  exact this
theorem extract_one (x : UInt8) (r : List UInt8) : (⟨(x :: r).toArray⟩ : ByteArray).extract 1 (r.length + 1) = ⟨r.toArray⟩ := by
  apply ByteArray.ext
  simp
theorem slice_one (x : UInt8) (r S : List UInt8) (h : S = x :: r) (hl : S.length ≤ 16777216) : ∀ W, (Instr.slice 9 (.string ⟨S.toArray⟩) (some (.int .i64 1)) none none).run Tryz.prog W = .ok (.string ⟨r.toArray⟩) W := fun W => by
  have h2 : (S.length : Nat) = r.length + 1 := by rw [h]; rfl
  rw [run_slice_string_from_if W _ _ _ _ Tryz.underlying9, if_pos ⟨by omega, by show (1 : Int) ≤ ((⟨S.toArray⟩ : ByteArray).size : Int); rw [show (⟨S.toArray⟩ : ByteArray).size = S.length from by show S.toArray.size = _; simp]; omega⟩]
  subst h
  exact congrArg (fun t => Result.ok (Value.string t) W) (extract_from (x :: r) 1)
theorem shaped_no {p : Pcs} (h : ¬ shaped p = true) : shaped p = false := by cases hh : shaped p with | true => exact absurd hh h | false => rfl
set_option maxRecDepth 100000 in
set_option maxHeartbeats 4000000 in
theorem rs_nil (S : List UInt8) (hl : S.length ≤ 16777216) (w : World) (hS : S = []) :
    Calls Tryz.prog 33 #[.string ⟨S.toArray⟩] w (SpR S w) := by
  have HJ1 := Lib.hid (Has.new w 87 #[.string ⟨#[]⟩, .string ⟨#[]⟩, .string ⟨#[]⟩, .string ⟨#[]⟩, .string ⟨#[]⟩])
  have HJ := Lib.hid (HJ1.out.alloc (.cells #[.string ⟨#[]⟩, .string ⟨#[]⟩, .string ⟨#[]⟩, .string ⟨#[]⟩, .string ⟨#[]⟩] 87))
  clear HJ1
  have HN : Hid (pieces S = none) := Lib.hid (by rw [hS]; rfl)
  have zS : S.length = 0 := by rw [hS]; rfl
  clear hS
  clear hl
  go_enter Tryz.func33, Tryz.ntmps33
  go_wp2
  refine bodyPost_ret (results_block2 (g := w.heap.size) (T := 87) rfl rfl (by exact HJ.out) rfl Tryz.underlying87 rfl (by kernel_rfl)) rfl ?_
  exact SpR.bad (.inl HN.out) (by repeat' (first | (with_reducible assumption) | (with_reducible refine Below.setCell ?_ ?_ _) | (with_reducible refine Below.alloc ?_ ?_ _) | (with_reducible refine Below.drew ?_) | (with_reducible refine below_drewN ?_ _) | (with_reducible exact Below.refl _ _) | (show _ ≤ _; (try simp); (try omega); done) | exact Below.refl _ _ | assumption))
set_option maxRecDepth 100000 in
set_option maxHeartbeats 4000000 in
theorem rs_not (S : List UInt8) (hl : S.length ≤ 16777216) (w : World) (s0 : UInt8) (r0 : List UInt8) (hS : S = s0 :: r0) (hxS : s0 ≠ 40) :
    Calls Tryz.prog 33 #[.string ⟨S.toArray⟩] w (SpR S w) := by
  have HJ1 := Lib.hid (Has.new w 87 #[.string ⟨#[]⟩, .string ⟨#[]⟩, .string ⟨#[]⟩, .string ⟨#[]⟩, .string ⟨#[]⟩])
  have HJ := Lib.hid (HJ1.out.alloc (.cells #[.string ⟨#[]⟩, .string ⟨#[]⟩, .string ⟨#[]⟩, .string ⟨#[]⟩, .string ⟨#[]⟩] 87))
  clear HJ1
  have HN : Hid (pieces S = none) := Lib.hid (by rw [hS]; exact pieces_not _ hxS)
  have zS : 0 < S.length := by rw [hS]; simp
  obtain ⟨nS, hnS⟩ : ∃ n : Nat, n = s0.toNat := ⟨_, rfl⟩
  have hiS : (((⟨S.toArray⟩ : ByteArray)[0]'(by show 0 < S.toArray.size; simpa using zS)).toNat : Int) = nS := by
    have h : (⟨S.toArray⟩ : ByteArray)[0]'(by show 0 < S.toArray.size; simpa using zS) = S[0] := rfl
    rw [h, hnS]
    simp [hS]
  have eS : ((nS : Int) == 40) = false := by rw [beq_eq_false_iff_ne]; intro h; exact hxS (UInt8.toNat_inj.1 (by rw [← hnS]; exact Int.ofNat.inj h))
  have qS : ((S.length : Int) == 0) = false := by rw [beq_eq_false_iff_ne]; omega
  have qnS : (S.length == 0) = false := by rw [beq_eq_false_iff_ne]; omega
  have qmS : ¬ S = [] := fun h => by rw [h] at zS; exact absurd zS (by decide)
  clear hnS
  clear hS hxS
  clear hl
  go_enter Tryz.func33, Tryz.ntmps33
  go_wp2
  refine bodyPost_ret (results_block2 (g := w.heap.size) (T := 87) rfl rfl (by exact HJ.out) rfl Tryz.underlying87 rfl (by kernel_rfl)) rfl ?_
  exact SpR.bad (.inl HN.out) (by repeat' (first | (with_reducible assumption) | (with_reducible refine Below.setCell ?_ ?_ _) | (with_reducible refine Below.alloc ?_ ?_ _) | (with_reducible refine Below.drew ?_) | (with_reducible refine below_drewN ?_ _) | (with_reducible exact Below.refl _ _) | (show _ ≤ _; (try simp); (try omega); done) | exact Below.refl _ _ | assumption))
set_option maxRecDepth 100000 in
set_option maxHeartbeats 4000000 in
theorem rs_1 (S : List UInt8) (hl : S.length ≤ 16777216) (w : World) (s0 : UInt8) (r0 : List UInt8) (hS : S = s0 :: r0) (hxS : s0 = 40) (hc1 : cutAt 46 r0 = none) :
    Calls Tryz.prog 33 #[.string ⟨S.toArray⟩] w (SpR S w) := by
  have HJ1 := Lib.hid (Has.new w 87 #[.string ⟨#[]⟩, .string ⟨#[]⟩, .string ⟨#[]⟩, .string ⟨#[]⟩, .string ⟨#[]⟩])
  have HJ := Lib.hid (HJ1.out.alloc (.cells #[.string ⟨#[]⟩, .string ⟨#[]⟩, .string ⟨#[]⟩, .string ⟨#[]⟩, .string ⟨#[]⟩] 87))
  clear HJ1
  have l0 : S.length = r0.length + 1 := by rw [hS]; rfl
  have HN : Hid (pieces S = none) := Lib.hid (by rw [hS, hxS, pieces_P0]; unfold P0; rw [hc1])
  have zS : 0 < S.length := by rw [hS]; simp
  obtain ⟨nS, hnS⟩ : ∃ n : Nat, n = s0.toNat := ⟨_, rfl⟩
  have hiS : (((⟨S.toArray⟩ : ByteArray)[0]'(by show 0 < S.toArray.size; simpa using zS)).toNat : Int) = nS := by
    have h : (⟨S.toArray⟩ : ByteArray)[0]'(by show 0 < S.toArray.size; simpa using zS) = S[0] := rfl
    rw [h, hnS]
    simp [hS]
  have eS : ((nS : Int) == 40) = true := by rw [hnS, hxS]; rfl
  have hsS := slice_one s0 r0 S hS (by omega)
  have qS : ((S.length : Int) == 0) = false := by rw [beq_eq_false_iff_ne]; omega
  have qnS : (S.length == 0) = false := by rw [beq_eq_false_iff_ne]; omega
  have qmS : ¬ S = [] := fun h => by rw [h] at zS; exact absurd zS (by decide)
  clear hnS
  have HU1 : Hid (∀ W, Calls Tryz.prog 69 #[.string ⟨r0.toArray⟩, .int .u8 46] W fun e w' => e = .returned (.tuple #[.string ⟨#[]⟩, .string ⟨#[]⟩, .bool false]) ∧ ∃ n, w' = W.drewN n) := Lib.hid (fun W => upV_no hc1 (by omega) W)
  have HU2 : Hid (∀ W, Calls Tryz.prog 69 #[.string ⟨#[]⟩, .int .u8 41] W fun e w' => e = .returned (.tuple #[.string ⟨#[]⟩, .string ⟨#[]⟩, .bool false]) ∧ ∃ n, w' = W.drewN n) := Lib.hid (fun W => upV_no (T := []) (c := 41) rfl (by decide) W)
  clear hS hxS l0
  clear hc1
  clear hl
  go_enter Tryz.func33, Tryz.ntmps33
  go_wp2_with fail
  refine (HU1.out _).mono ?_
  rintro e w1 ⟨rfl, m1, rfl⟩
  go_wp2_with fail
  refine (HU2.out _).mono ?_
  rintro e w2 ⟨rfl, m2, rfl⟩
  go_wp2
  refine bodyPost_ret (results_block2 (g := w.heap.size) (T := 87) rfl rfl (by exact (((((has_drewN HJ.out _).set 0 _).set 1 _).set 2 _).set 3 _).set 4 _) rfl Tryz.underlying87 rfl (by kernel_rfl)) rfl ?_
  exact SpR.bad (.inl HN.out) (by repeat' (first | (with_reducible assumption) | (with_reducible refine Below.setCell ?_ ?_ _) | (with_reducible refine Below.alloc ?_ ?_ _) | (with_reducible refine Below.drew ?_) | (with_reducible refine below_drewN ?_ _) | (with_reducible exact Below.refl _ _) | (show _ ≤ _; (try simp); (try omega); done) | exact Below.refl _ _ | assumption))
set_option maxRecDepth 100000 in
set_option maxHeartbeats 4000000 in
theorem rs_2 (S : List UInt8) (hl : S.length ≤ 16777216) (w : World) (s0 : UInt8) (r0 : List UInt8) (hS : S = s0 :: r0) (hxS : s0 = 40) (pa r1 : List UInt8) (hc1 : cutAt 46 r0 = some (pa, r1)) (hc2 : cutAt 41 r1 = none) :
    Calls Tryz.prog 33 #[.string ⟨S.toArray⟩] w (SpR S w) := by
  have HJ1 := Lib.hid (Has.new w 87 #[.string ⟨#[]⟩, .string ⟨#[]⟩, .string ⟨#[]⟩, .string ⟨#[]⟩, .string ⟨#[]⟩])
  have HJ := Lib.hid (HJ1.out.alloc (.cells #[.string ⟨#[]⟩, .string ⟨#[]⟩, .string ⟨#[]⟩, .string ⟨#[]⟩, .string ⟨#[]⟩] 87))
  clear HJ1
  have l0 : S.length = r0.length + 1 := by rw [hS]; rfl
  have lu1 := cutAt_len hc1
  have HN : Hid (pieces S = none) := Lib.hid (by rw [hS, hxS, pieces_P0]; unfold P0; rw [hc1]; simp only; unfold P1; rw [hc2])
  have zS : 0 < S.length := by rw [hS]; simp
  obtain ⟨nS, hnS⟩ : ∃ n : Nat, n = s0.toNat := ⟨_, rfl⟩
  have hiS : (((⟨S.toArray⟩ : ByteArray)[0]'(by show 0 < S.toArray.size; simpa using zS)).toNat : Int) = nS := by
    have h : (⟨S.toArray⟩ : ByteArray)[0]'(by show 0 < S.toArray.size; simpa using zS) = S[0] := rfl
    rw [h, hnS]
    simp [hS]
  have eS : ((nS : Int) == 40) = true := by rw [hnS, hxS]; rfl
  have hsS := slice_one s0 r0 S hS (by omega)
  have qS : ((S.length : Int) == 0) = false := by rw [beq_eq_false_iff_ne]; omega
  have qnS : (S.length == 0) = false := by rw [beq_eq_false_iff_ne]; omega
  have qmS : ¬ S = [] := fun h => by rw [h] at zS; exact absurd zS (by decide)
  clear hnS
  have HU1 : Hid (∀ W, Calls Tryz.prog 69 #[.string ⟨r0.toArray⟩, .int .u8 46] W fun e w' => e = .returned (.tuple #[.string ⟨pa.toArray⟩, .string ⟨r1.toArray⟩, .bool true]) ∧ ∃ n, w' = W.drewN n) := Lib.hid (fun W => upV_yes hc1 (by omega) W)
  have HU2 : Hid (∀ W, Calls Tryz.prog 69 #[.string ⟨r1.toArray⟩, .int .u8 41] W fun e w' => e = .returned (.tuple #[.string ⟨#[]⟩, .string ⟨#[]⟩, .bool false]) ∧ ∃ n, w' = W.drewN n) := Lib.hid (fun W => upV_no hc2 (by omega) W)
  clear hS hxS l0
  clear hc1 hc2 lu1
  clear hl
  go_enter Tryz.func33, Tryz.ntmps33
  go_wp2_with fail
  refine (HU1.out _).mono ?_
  rintro e w1 ⟨rfl, m1, rfl⟩
  go_wp2_with fail
  refine (HU2.out _).mono ?_
  rintro e w2 ⟨rfl, m2, rfl⟩
  go_wp2
  refine bodyPost_ret (results_block2 (g := w.heap.size) (T := 87) rfl rfl (by exact (((((has_drewN HJ.out _).set 0 _).set 1 _).set 2 _).set 3 _).set 4 _) rfl Tryz.underlying87 rfl (by kernel_rfl)) rfl ?_
  exact SpR.bad (.inl HN.out) (by repeat' (first | (with_reducible assumption) | (with_reducible refine Below.setCell ?_ ?_ _) | (with_reducible refine Below.alloc ?_ ?_ _) | (with_reducible refine Below.drew ?_) | (with_reducible refine below_drewN ?_ _) | (with_reducible exact Below.refl _ _) | (show _ ≤ _; (try simp); (try omega); done) | exact Below.refl _ _ | assumption))
set_option maxRecDepth 100000 in
set_option maxHeartbeats 4000000 in
theorem rs_3 (S : List UInt8) (hl : S.length ≤ 16777216) (w : World) (s0 : UInt8) (r0 : List UInt8) (hS : S = s0 :: r0) (hxS : s0 = 40) (pa r1 : List UInt8) (hc1 : cutAt 46 r0 = some (pa, r1)) (pb r2 : List UInt8) (hc2 : cutAt 41 r1 = some (pb, r2)) (hr2 : r2 = []) :
    Calls Tryz.prog 33 #[.string ⟨S.toArray⟩] w (SpR S w) := by
  have HJ1 := Lib.hid (Has.new w 87 #[.string ⟨#[]⟩, .string ⟨#[]⟩, .string ⟨#[]⟩, .string ⟨#[]⟩, .string ⟨#[]⟩])
  have HJ := Lib.hid (HJ1.out.alloc (.cells #[.string ⟨#[]⟩, .string ⟨#[]⟩, .string ⟨#[]⟩, .string ⟨#[]⟩, .string ⟨#[]⟩] 87))
  clear HJ1
  have l0 : S.length = r0.length + 1 := by rw [hS]; rfl
  have lu1 := cutAt_len hc1
  have lu2 := cutAt_len hc2
  have HN : Hid (pieces S = none) := Lib.hid (by rw [hS, hxS, pieces_P0]; unfold P0; rw [hc1]; simp only; unfold P1; rw [hc2]; simp only; rw [hr2]; rfl)
  have zS : 0 < S.length := by rw [hS]; simp
  obtain ⟨nS, hnS⟩ : ∃ n : Nat, n = s0.toNat := ⟨_, rfl⟩
  have hiS : (((⟨S.toArray⟩ : ByteArray)[0]'(by show 0 < S.toArray.size; simpa using zS)).toNat : Int) = nS := by
    have h : (⟨S.toArray⟩ : ByteArray)[0]'(by show 0 < S.toArray.size; simpa using zS) = S[0] := rfl
    rw [h, hnS]
    simp [hS]
  have eS : ((nS : Int) == 40) = true := by rw [hnS, hxS]; rfl
  have hsS := slice_one s0 r0 S hS (by omega)
  have qS : ((S.length : Int) == 0) = false := by rw [beq_eq_false_iff_ne]; omega
  have qnS : (S.length == 0) = false := by rw [beq_eq_false_iff_ne]; omega
  have qmS : ¬ S = [] := fun h => by rw [h] at zS; exact absurd zS (by decide)
  clear hnS
  have HU1 : Hid (∀ W, Calls Tryz.prog 69 #[.string ⟨r0.toArray⟩, .int .u8 46] W fun e w' => e = .returned (.tuple #[.string ⟨pa.toArray⟩, .string ⟨r1.toArray⟩, .bool true]) ∧ ∃ n, w' = W.drewN n) := Lib.hid (fun W => upV_yes hc1 (by omega) W)
  have HU2 : Hid (∀ W, Calls Tryz.prog 69 #[.string ⟨r1.toArray⟩, .int .u8 41] W fun e w' => e = .returned (.tuple #[.string ⟨pb.toArray⟩, .string ⟨r2.toArray⟩, .bool true]) ∧ ∃ n, w' = W.drewN n) := Lib.hid (fun W => upV_yes hc2 (by omega) W)
  have zr2 : r2.length = 0 := by rw [hr2]; rfl
  clear hS hxS l0
  clear hc1 hc2 lu1 lu2 hr2
  clear hl
  go_enter Tryz.func33, Tryz.ntmps33
  go_wp2_with fail
  refine (HU1.out _).mono ?_
  rintro e w1 ⟨rfl, m1, rfl⟩
  go_wp2_with fail
  refine (HU2.out _).mono ?_
  rintro e w2 ⟨rfl, m2, rfl⟩
  go_wp2
  refine bodyPost_ret (results_block2 (g := w.heap.size) (T := 87) rfl rfl (by exact (((((has_drewN HJ.out _).set 0 _).set 1 _).set 2 _).set 3 _).set 4 _) rfl Tryz.underlying87 rfl (by kernel_rfl)) rfl ?_
  exact SpR.bad (.inl HN.out) (by repeat' (first | (with_reducible assumption) | (with_reducible refine Below.setCell ?_ ?_ _) | (with_reducible refine Below.alloc ?_ ?_ _) | (with_reducible refine Below.drew ?_) | (with_reducible refine below_drewN ?_ _) | (with_reducible exact Below.refl _ _) | (show _ ≤ _; (try simp); (try omega); done) | exact Below.refl _ _ | assumption))
set_option maxRecDepth 100000 in
set_option maxHeartbeats 4000000 in
theorem rs_4 (S : List UInt8) (hl : S.length ≤ 16777216) (w : World) (s0 : UInt8) (r0 : List UInt8) (hS : S = s0 :: r0) (hxS : s0 = 40) (pa r1 : List UInt8) (hc1 : cutAt 46 r0 = some (pa, r1)) (pb r2 : List UInt8) (hc2 : cutAt 41 r1 = some (pb, r2)) (y : UInt8) (r3 : List UInt8) (hr2 : r2 = y :: r3) (hxr2 : y ≠ 32) :
    Calls Tryz.prog 33 #[.string ⟨S.toArray⟩] w (SpR S w) := by
  have HJ1 := Lib.hid (Has.new w 87 #[.string ⟨#[]⟩, .string ⟨#[]⟩, .string ⟨#[]⟩, .string ⟨#[]⟩, .string ⟨#[]⟩])
  have HJ := Lib.hid (HJ1.out.alloc (.cells #[.string ⟨#[]⟩, .string ⟨#[]⟩, .string ⟨#[]⟩, .string ⟨#[]⟩, .string ⟨#[]⟩] 87))
  clear HJ1
  have l0 : S.length = r0.length + 1 := by rw [hS]; rfl
  have lu1 := cutAt_len hc1
  have lu2 := cutAt_len hc2
  have HN : Hid (pieces S = none) := Lib.hid (by rw [hS, hxS, pieces_P0]; unfold P0; rw [hc1]; simp only; unfold P1; rw [hc2]; simp only; rw [hr2]; unfold P2; simp only; rw [if_neg hxr2])
  have zS : 0 < S.length := by rw [hS]; simp
  obtain ⟨nS, hnS⟩ : ∃ n : Nat, n = s0.toNat := ⟨_, rfl⟩
  have hiS : (((⟨S.toArray⟩ : ByteArray)[0]'(by show 0 < S.toArray.size; simpa using zS)).toNat : Int) = nS := by
    have h : (⟨S.toArray⟩ : ByteArray)[0]'(by show 0 < S.toArray.size; simpa using zS) = S[0] := rfl
    rw [h, hnS]
    simp [hS]
  have eS : ((nS : Int) == 40) = true := by rw [hnS, hxS]; rfl
  have hsS := slice_one s0 r0 S hS (by omega)
  have qS : ((S.length : Int) == 0) = false := by rw [beq_eq_false_iff_ne]; omega
  have qnS : (S.length == 0) = false := by rw [beq_eq_false_iff_ne]; omega
  have qmS : ¬ S = [] := fun h => by rw [h] at zS; exact absurd zS (by decide)
  clear hnS
  have zr2 : 0 < r2.length := by rw [hr2]; simp
  obtain ⟨nr2, hnr2⟩ : ∃ n : Nat, n = y.toNat := ⟨_, rfl⟩
  have hir2 : (((⟨r2.toArray⟩ : ByteArray)[0]'(by show 0 < r2.toArray.size; simpa using zr2)).toNat : Int) = nr2 := by
    have h : (⟨r2.toArray⟩ : ByteArray)[0]'(by show 0 < r2.toArray.size; simpa using zr2) = r2[0] := rfl
    rw [h, hnr2]
    simp [hr2]
  have er2 : ((nr2 : Int) == 32) = false := by rw [beq_eq_false_iff_ne]; intro h; exact hxr2 (UInt8.toNat_inj.1 (by rw [← hnr2]; exact Int.ofNat.inj h))
  have qr2 : ((r2.length : Int) == 0) = false := by rw [beq_eq_false_iff_ne]; omega
  have qnr2 : (r2.length == 0) = false := by rw [beq_eq_false_iff_ne]; omega
  have qmr2 : ¬ r2 = [] := fun h => by rw [h] at zr2; exact absurd zr2 (by decide)
  clear hnr2
  have HU1 : Hid (∀ W, Calls Tryz.prog 69 #[.string ⟨r0.toArray⟩, .int .u8 46] W fun e w' => e = .returned (.tuple #[.string ⟨pa.toArray⟩, .string ⟨r1.toArray⟩, .bool true]) ∧ ∃ n, w' = W.drewN n) := Lib.hid (fun W => upV_yes hc1 (by omega) W)
  have HU2 : Hid (∀ W, Calls Tryz.prog 69 #[.string ⟨r1.toArray⟩, .int .u8 41] W fun e w' => e = .returned (.tuple #[.string ⟨pb.toArray⟩, .string ⟨r2.toArray⟩, .bool true]) ∧ ∃ n, w' = W.drewN n) := Lib.hid (fun W => upV_yes hc2 (by omega) W)
  clear hS hxS l0
  clear hc1 hc2 lu1 lu2 hr2 hxr2
  clear hl
  go_enter Tryz.func33, Tryz.ntmps33
  go_wp2_with fail
  refine (HU1.out _).mono ?_
  rintro e w1 ⟨rfl, m1, rfl⟩
  go_wp2_with fail
  refine (HU2.out _).mono ?_
  rintro e w2 ⟨rfl, m2, rfl⟩
  go_wp2
  refine bodyPost_ret (results_block2 (g := w.heap.size) (T := 87) rfl rfl (by exact (((((has_drewN HJ.out _).set 0 _).set 1 _).set 2 _).set 3 _).set 4 _) rfl Tryz.underlying87 rfl (by kernel_rfl)) rfl ?_
  exact SpR.bad (.inl HN.out) (by repeat' (first | (with_reducible assumption) | (with_reducible refine Below.setCell ?_ ?_ _) | (with_reducible refine Below.alloc ?_ ?_ _) | (with_reducible refine Below.drew ?_) | (with_reducible refine below_drewN ?_ _) | (with_reducible exact Below.refl _ _) | (show _ ≤ _; (try simp); (try omega); done) | exact Below.refl _ _ | assumption))
set_option maxRecDepth 100000 in
set_option maxHeartbeats 4000000 in
theorem rs_5 (S : List UInt8) (hl : S.length ≤ 16777216) (w : World) (s0 : UInt8) (r0 : List UInt8) (hS : S = s0 :: r0) (hxS : s0 = 40) (pa r1 : List UInt8) (hc1 : cutAt 46 r0 = some (pa, r1)) (pb r2 : List UInt8) (hc2 : cutAt 41 r1 = some (pb, r2)) (y : UInt8) (r3 : List UInt8) (hr2 : r2 = y :: r3) (hxr2 : y = 32) (hc3 : cutAt 32 r3 = none) :
    Calls Tryz.prog 33 #[.string ⟨S.toArray⟩] w (SpR S w) := by
  have HJ1 := Lib.hid (Has.new w 87 #[.string ⟨#[]⟩, .string ⟨#[]⟩, .string ⟨#[]⟩, .string ⟨#[]⟩, .string ⟨#[]⟩])
  have HJ := Lib.hid (HJ1.out.alloc (.cells #[.string ⟨#[]⟩, .string ⟨#[]⟩, .string ⟨#[]⟩, .string ⟨#[]⟩, .string ⟨#[]⟩] 87))
  clear HJ1
  have l0 : S.length = r0.length + 1 := by rw [hS]; rfl
  have lu1 := cutAt_len hc1
  have lu2 := cutAt_len hc2
  have l3 : r2.length = r3.length + 1 := by rw [hr2]; rfl
  have HN : Hid (pieces S = none) := Lib.hid (by rw [hS, hxS, pieces_P0]; unfold P0; rw [hc1]; simp only; unfold P1; rw [hc2]; simp only; rw [hr2]; unfold P2; simp only; rw [if_pos hxr2]; unfold P3; rw [hc3])
  have zS : 0 < S.length := by rw [hS]; simp
  obtain ⟨nS, hnS⟩ : ∃ n : Nat, n = s0.toNat := ⟨_, rfl⟩
  have hiS : (((⟨S.toArray⟩ : ByteArray)[0]'(by show 0 < S.toArray.size; simpa using zS)).toNat : Int) = nS := by
    have h : (⟨S.toArray⟩ : ByteArray)[0]'(by show 0 < S.toArray.size; simpa using zS) = S[0] := rfl
    rw [h, hnS]
    simp [hS]
  have eS : ((nS : Int) == 40) = true := by rw [hnS, hxS]; rfl
  have hsS := slice_one s0 r0 S hS (by omega)
  have qS : ((S.length : Int) == 0) = false := by rw [beq_eq_false_iff_ne]; omega
  have qnS : (S.length == 0) = false := by rw [beq_eq_false_iff_ne]; omega
  have qmS : ¬ S = [] := fun h => by rw [h] at zS; exact absurd zS (by decide)
  clear hnS
  have zr2 : 0 < r2.length := by rw [hr2]; simp
  obtain ⟨nr2, hnr2⟩ : ∃ n : Nat, n = y.toNat := ⟨_, rfl⟩
  have hir2 : (((⟨r2.toArray⟩ : ByteArray)[0]'(by show 0 < r2.toArray.size; simpa using zr2)).toNat : Int) = nr2 := by
    have h : (⟨r2.toArray⟩ : ByteArray)[0]'(by show 0 < r2.toArray.size; simpa using zr2) = r2[0] := rfl
    rw [h, hnr2]
    simp [hr2]
  have er2 : ((nr2 : Int) == 32) = true := by rw [hnr2, hxr2]; rfl
  have hsr2 := slice_one y r3 r2 hr2 (by omega)
  have qr2 : ((r2.length : Int) == 0) = false := by rw [beq_eq_false_iff_ne]; omega
  have qnr2 : (r2.length == 0) = false := by rw [beq_eq_false_iff_ne]; omega
  have qmr2 : ¬ r2 = [] := fun h => by rw [h] at zr2; exact absurd zr2 (by decide)
  clear hnr2
  have HU1 : Hid (∀ W, Calls Tryz.prog 69 #[.string ⟨r0.toArray⟩, .int .u8 46] W fun e w' => e = .returned (.tuple #[.string ⟨pa.toArray⟩, .string ⟨r1.toArray⟩, .bool true]) ∧ ∃ n, w' = W.drewN n) := Lib.hid (fun W => upV_yes hc1 (by omega) W)
  have HU2 : Hid (∀ W, Calls Tryz.prog 69 #[.string ⟨r1.toArray⟩, .int .u8 41] W fun e w' => e = .returned (.tuple #[.string ⟨pb.toArray⟩, .string ⟨r2.toArray⟩, .bool true]) ∧ ∃ n, w' = W.drewN n) := Lib.hid (fun W => upV_yes hc2 (by omega) W)
  have HU3 : Hid (∀ W, Calls Tryz.prog 69 #[.string ⟨r3.toArray⟩, .int .u8 32] W fun e w' => e = .returned (.tuple #[.string ⟨#[]⟩, .string ⟨#[]⟩, .bool false]) ∧ ∃ n, w' = W.drewN n) := Lib.hid (fun W => upV_no hc3 (by omega) W)
  have HU4 : Hid (∀ W, Calls Tryz.prog 69 #[.string ⟨#[]⟩, .int .u8 35] W fun e w' => e = .returned (.tuple #[.string ⟨#[]⟩, .string ⟨#[]⟩, .bool false]) ∧ ∃ n, w' = W.drewN n) := Lib.hid (fun W => upV_no (T := []) (c := 35) rfl (by decide) W)
  clear hS hxS l0
  clear hc1 hc2 hc3 lu1 lu2 l3 hr2 hxr2
  clear hl
  go_enter Tryz.func33, Tryz.ntmps33
  go_wp2_with fail
  refine (HU1.out _).mono ?_
  rintro e w1 ⟨rfl, m1, rfl⟩
  go_wp2_with fail
  refine (HU2.out _).mono ?_
  rintro e w2 ⟨rfl, m2, rfl⟩
  go_wp2_with fail
  refine (HU3.out _).mono ?_
  rintro e w3 ⟨rfl, m3, rfl⟩
  go_wp2_with fail
  refine (HU4.out _).mono ?_
  rintro e w4 ⟨rfl, m4, rfl⟩
  go_wp2
  refine bodyPost_ret (results_block2 (g := w.heap.size) (T := 87) rfl rfl (by exact (((((has_drewN HJ.out _).set 0 _).set 1 _).set 2 _).set 3 _).set 4 _) rfl Tryz.underlying87 rfl (by kernel_rfl)) rfl ?_
  exact SpR.bad (.inl HN.out) (by repeat' (first | (with_reducible assumption) | (with_reducible refine Below.setCell ?_ ?_ _) | (with_reducible refine Below.alloc ?_ ?_ _) | (with_reducible refine Below.drew ?_) | (with_reducible refine below_drewN ?_ _) | (with_reducible exact Below.refl _ _) | (show _ ≤ _; (try simp); (try omega); done) | exact Below.refl _ _ | assumption))
set_option maxRecDepth 100000 in
set_option maxHeartbeats 4000000 in
theorem rs_6 (S : List UInt8) (hl : S.length ≤ 16777216) (w : World) (s0 : UInt8) (r0 : List UInt8) (hS : S = s0 :: r0) (hxS : s0 = 40) (pa r1 : List UInt8) (hc1 : cutAt 46 r0 = some (pa, r1)) (pb r2 : List UInt8) (hc2 : cutAt 41 r1 = some (pb, r2)) (y : UInt8) (r3 : List UInt8) (hr2 : r2 = y :: r3) (hxr2 : y = 32) (pc r4 : List UInt8) (hc3 : cutAt 32 r3 = some (pc, r4)) (hc4 : cutAt 35 r4 = none) :
    Calls Tryz.prog 33 #[.string ⟨S.toArray⟩] w (SpR S w) := by
  have HJ1 := Lib.hid (Has.new w 87 #[.string ⟨#[]⟩, .string ⟨#[]⟩, .string ⟨#[]⟩, .string ⟨#[]⟩, .string ⟨#[]⟩])
  have HJ := Lib.hid (HJ1.out.alloc (.cells #[.string ⟨#[]⟩, .string ⟨#[]⟩, .string ⟨#[]⟩, .string ⟨#[]⟩, .string ⟨#[]⟩] 87))
  clear HJ1
  have l0 : S.length = r0.length + 1 := by rw [hS]; rfl
  have lu1 := cutAt_len hc1
  have lu2 := cutAt_len hc2
  have l3 : r2.length = r3.length + 1 := by rw [hr2]; rfl
  have lu3 := cutAt_len hc3
  have HN : Hid (pieces S = none) := Lib.hid (by rw [hS, hxS, pieces_P0]; unfold P0; rw [hc1]; simp only; unfold P1; rw [hc2]; simp only; rw [hr2]; unfold P2; simp only; rw [if_pos hxr2]; unfold P3; rw [hc3]; unfold P4; simp only; rw [hc4])
  have zS : 0 < S.length := by rw [hS]; simp
  obtain ⟨nS, hnS⟩ : ∃ n : Nat, n = s0.toNat := ⟨_, rfl⟩
  have hiS : (((⟨S.toArray⟩ : ByteArray)[0]'(by show 0 < S.toArray.size; simpa using zS)).toNat : Int) = nS := by
    have h : (⟨S.toArray⟩ : ByteArray)[0]'(by show 0 < S.toArray.size; simpa using zS) = S[0] := rfl
    rw [h, hnS]
    simp [hS]
  have eS : ((nS : Int) == 40) = true := by rw [hnS, hxS]; rfl
  have hsS := slice_one s0 r0 S hS (by omega)
  have qS : ((S.length : Int) == 0) = false := by rw [beq_eq_false_iff_ne]; omega
  have qnS : (S.length == 0) = false := by rw [beq_eq_false_iff_ne]; omega
  have qmS : ¬ S = [] := fun h => by rw [h] at zS; exact absurd zS (by decide)
  clear hnS
  have zr2 : 0 < r2.length := by rw [hr2]; simp
  obtain ⟨nr2, hnr2⟩ : ∃ n : Nat, n = y.toNat := ⟨_, rfl⟩
  have hir2 : (((⟨r2.toArray⟩ : ByteArray)[0]'(by show 0 < r2.toArray.size; simpa using zr2)).toNat : Int) = nr2 := by
    have h : (⟨r2.toArray⟩ : ByteArray)[0]'(by show 0 < r2.toArray.size; simpa using zr2) = r2[0] := rfl
    rw [h, hnr2]
    simp [hr2]
  have er2 : ((nr2 : Int) == 32) = true := by rw [hnr2, hxr2]; rfl
  have hsr2 := slice_one y r3 r2 hr2 (by omega)
  have qr2 : ((r2.length : Int) == 0) = false := by rw [beq_eq_false_iff_ne]; omega
  have qnr2 : (r2.length == 0) = false := by rw [beq_eq_false_iff_ne]; omega
  have qmr2 : ¬ r2 = [] := fun h => by rw [h] at zr2; exact absurd zr2 (by decide)
  clear hnr2
  have HU1 : Hid (∀ W, Calls Tryz.prog 69 #[.string ⟨r0.toArray⟩, .int .u8 46] W fun e w' => e = .returned (.tuple #[.string ⟨pa.toArray⟩, .string ⟨r1.toArray⟩, .bool true]) ∧ ∃ n, w' = W.drewN n) := Lib.hid (fun W => upV_yes hc1 (by omega) W)
  have HU2 : Hid (∀ W, Calls Tryz.prog 69 #[.string ⟨r1.toArray⟩, .int .u8 41] W fun e w' => e = .returned (.tuple #[.string ⟨pb.toArray⟩, .string ⟨r2.toArray⟩, .bool true]) ∧ ∃ n, w' = W.drewN n) := Lib.hid (fun W => upV_yes hc2 (by omega) W)
  have HU3 : Hid (∀ W, Calls Tryz.prog 69 #[.string ⟨r3.toArray⟩, .int .u8 32] W fun e w' => e = .returned (.tuple #[.string ⟨pc.toArray⟩, .string ⟨r4.toArray⟩, .bool true]) ∧ ∃ n, w' = W.drewN n) := Lib.hid (fun W => upV_yes hc3 (by omega) W)
  have HU4 : Hid (∀ W, Calls Tryz.prog 69 #[.string ⟨r4.toArray⟩, .int .u8 35] W fun e w' => e = .returned (.tuple #[.string ⟨#[]⟩, .string ⟨#[]⟩, .bool false]) ∧ ∃ n, w' = W.drewN n) := Lib.hid (fun W => upV_no hc4 (by omega) W)
  clear hS hxS l0
  clear hc1 hc2 hc3 hc4 lu1 lu2 lu3 l3 hr2 hxr2
  clear hl
  go_enter Tryz.func33, Tryz.ntmps33
  go_wp2_with fail
  refine (HU1.out _).mono ?_
  rintro e w1 ⟨rfl, m1, rfl⟩
  go_wp2_with fail
  refine (HU2.out _).mono ?_
  rintro e w2 ⟨rfl, m2, rfl⟩
  go_wp2_with fail
  refine (HU3.out _).mono ?_
  rintro e w3 ⟨rfl, m3, rfl⟩
  go_wp2_with fail
  refine (HU4.out _).mono ?_
  rintro e w4 ⟨rfl, m4, rfl⟩
  go_wp2
  refine bodyPost_ret (results_block2 (g := w.heap.size) (T := 87) rfl rfl (by exact (((((has_drewN HJ.out _).set 0 _).set 1 _).set 2 _).set 3 _).set 4 _) rfl Tryz.underlying87 rfl (by kernel_rfl)) rfl ?_
  exact SpR.bad (.inl HN.out) (by repeat' (first | (with_reducible assumption) | (with_reducible refine Below.setCell ?_ ?_ _) | (with_reducible refine Below.alloc ?_ ?_ _) | (with_reducible refine Below.drew ?_) | (with_reducible refine below_drewN ?_ _) | (with_reducible exact Below.refl _ _) | (show _ ≤ _; (try simp); (try omega); done) | exact Below.refl _ _ | assumption))
set_option maxRecDepth 100000 in
set_option maxHeartbeats 4000000 in
theorem rs_t1 (S : List UInt8) (hl : S.length ≤ 16777216) (w : World) (s0 : UInt8) (r0 : List UInt8) (hS : S = s0 :: r0) (hxS : s0 = 40) (pa r1 : List UInt8) (hc1 : cutAt 46 r0 = some (pa, r1)) (pb r2 : List UInt8) (hc2 : cutAt 41 r1 = some (pb, r2)) (y : UInt8) (r3 : List UInt8) (hr2 : r2 = y :: r3) (hxr2 : y = 32) (pc r4 : List UInt8) (hc3 : cutAt 32 r3 = some (pc, r4)) (pd pe : List UInt8) (hc4 : cutAt 35 r4 = some (pd, pe))  (h1 : pa.length = 0) :
    Calls Tryz.prog 33 #[.string ⟨S.toArray⟩] w (SpR S w) := by
  have HJ1 := Lib.hid (Has.new w 87 #[.string ⟨#[]⟩, .string ⟨#[]⟩, .string ⟨#[]⟩, .string ⟨#[]⟩, .string ⟨#[]⟩])
  have HJ := Lib.hid (HJ1.out.alloc (.cells #[.string ⟨#[]⟩, .string ⟨#[]⟩, .string ⟨#[]⟩, .string ⟨#[]⟩, .string ⟨#[]⟩] 87))
  clear HJ1
  have l0 : S.length = r0.length + 1 := by rw [hS]; rfl
  have lu1 := cutAt_len hc1
  have lu2 := cutAt_len hc2
  have l3 : r2.length = r3.length + 1 := by rw [hr2]; rfl
  have lu3 := cutAt_len hc3
  have lu4 := cutAt_len hc4
  have HPS : Hid (pieces S = some ⟨pa, pb, pc, pd, pe⟩) := Lib.hid (by rw [hS, hxS, pieces_P0]; unfold P0; rw [hc1]; simp only; unfold P1; rw [hc2]; simp only; rw [hr2]; unfold P2; simp only; rw [if_pos hxr2]; unfold P3; rw [hc3]; unfold P4; simp only; rw [hc4])
  have HSH : Hid (shaped ⟨pa, pb, pc, pd, pe⟩ = false) := Lib.hid (shaped_no (fun h => by obtain ⟨⟨g1, g2, g3⟩, g4, g5, g6, g7, g8, g9, g10⟩ := (shaped_iff _).1 h; simp only at g1 g2 g3 g4 g5 g6 g7 g8 g9 g10; omega))
  have zS : 0 < S.length := by rw [hS]; simp
  obtain ⟨nS, hnS⟩ : ∃ n : Nat, n = s0.toNat := ⟨_, rfl⟩
  have hiS : (((⟨S.toArray⟩ : ByteArray)[0]'(by show 0 < S.toArray.size; simpa using zS)).toNat : Int) = nS := by
    have h : (⟨S.toArray⟩ : ByteArray)[0]'(by show 0 < S.toArray.size; simpa using zS) = S[0] := rfl
    rw [h, hnS]
    simp [hS]
  have eS : ((nS : Int) == 40) = true := by rw [hnS, hxS]; rfl
  have hsS := slice_one s0 r0 S hS (by omega)
  have qS : ((S.length : Int) == 0) = false := by rw [beq_eq_false_iff_ne]; omega
  have qnS : (S.length == 0) = false := by rw [beq_eq_false_iff_ne]; omega
  have qmS : ¬ S = [] := fun h => by rw [h] at zS; exact absurd zS (by decide)
  clear hnS
  have zr2 : 0 < r2.length := by rw [hr2]; simp
  obtain ⟨nr2, hnr2⟩ : ∃ n : Nat, n = y.toNat := ⟨_, rfl⟩
  have hir2 : (((⟨r2.toArray⟩ : ByteArray)[0]'(by show 0 < r2.toArray.size; simpa using zr2)).toNat : Int) = nr2 := by
    have h : (⟨r2.toArray⟩ : ByteArray)[0]'(by show 0 < r2.toArray.size; simpa using zr2) = r2[0] := rfl
    rw [h, hnr2]
    simp [hr2]
  have er2 : ((nr2 : Int) == 32) = true := by rw [hnr2, hxr2]; rfl
  have hsr2 := slice_one y r3 r2 hr2 (by omega)
  have qr2 : ((r2.length : Int) == 0) = false := by rw [beq_eq_false_iff_ne]; omega
  have qnr2 : (r2.length == 0) = false := by rw [beq_eq_false_iff_ne]; omega
  have qmr2 : ¬ r2 = [] := fun h => by rw [h] at zr2; exact absurd zr2 (by decide)
  clear hnr2
  have HU1 : Hid (∀ W, Calls Tryz.prog 69 #[.string ⟨r0.toArray⟩, .int .u8 46] W fun e w' => e = .returned (.tuple #[.string ⟨pa.toArray⟩, .string ⟨r1.toArray⟩, .bool true]) ∧ ∃ n, w' = W.drewN n) := Lib.hid (fun W => upV_yes hc1 (by omega) W)
  have HU2 : Hid (∀ W, Calls Tryz.prog 69 #[.string ⟨r1.toArray⟩, .int .u8 41] W fun e w' => e = .returned (.tuple #[.string ⟨pb.toArray⟩, .string ⟨r2.toArray⟩, .bool true]) ∧ ∃ n, w' = W.drewN n) := Lib.hid (fun W => upV_yes hc2 (by omega) W)
  have HU3 : Hid (∀ W, Calls Tryz.prog 69 #[.string ⟨r3.toArray⟩, .int .u8 32] W fun e w' => e = .returned (.tuple #[.string ⟨pc.toArray⟩, .string ⟨r4.toArray⟩, .bool true]) ∧ ∃ n, w' = W.drewN n) := Lib.hid (fun W => upV_yes hc3 (by omega) W)
  have HU4 : Hid (∀ W, Calls Tryz.prog 69 #[.string ⟨r4.toArray⟩, .int .u8 35] W fun e w' => e = .returned (.tuple #[.string ⟨pd.toArray⟩, .string ⟨pe.toArray⟩, .bool true]) ∧ ∃ n, w' = W.drewN n) := Lib.hid (fun W => upV_yes hc4 (by omega) W)
  clear hS hxS l0
  clear hc1 hc2 hc3 hc4 lu1 lu2 lu3 lu4 l3 hr2 hxr2
  clear hl
  go_enter Tryz.func33, Tryz.ntmps33
  go_wp2_with fail
  refine (HU1.out _).mono ?_
  rintro e w1 ⟨rfl, m1, rfl⟩
  go_wp2_with fail
  refine (HU2.out _).mono ?_
  rintro e w2 ⟨rfl, m2, rfl⟩
  go_wp2_with fail
  refine (HU3.out _).mono ?_
  rintro e w3 ⟨rfl, m3, rfl⟩
  go_wp2_with fail
  refine (HU4.out _).mono ?_
  rintro e w4 ⟨rfl, m4, rfl⟩
  go_wp2
  refine bodyPost_ret (results_block2 (g := w.heap.size) (T := 87) rfl rfl (by exact (((((has_drewN HJ.out _).set 0 _).set 1 _).set 2 _).set 3 _).set 4 _) rfl Tryz.underlying87 rfl (by kernel_rfl)) rfl ?_
  exact SpR.bad (.inr ⟨_, HPS.out, HSH.out⟩) (by repeat' (first | (with_reducible assumption) | (with_reducible refine Below.setCell ?_ ?_ _) | (with_reducible refine Below.alloc ?_ ?_ _) | (with_reducible refine Below.drew ?_) | (with_reducible refine below_drewN ?_ _) | (with_reducible exact Below.refl _ _) | (show _ ≤ _; (try simp); (try omega); done) | exact Below.refl _ _ | assumption))
set_option maxRecDepth 100000 in
set_option maxHeartbeats 4000000 in
theorem rs_t2 (S : List UInt8) (hl : S.length ≤ 16777216) (w : World) (s0 : UInt8) (r0 : List UInt8) (hS : S = s0 :: r0) (hxS : s0 = 40) (pa r1 : List UInt8) (hc1 : cutAt 46 r0 = some (pa, r1)) (pb r2 : List UInt8) (hc2 : cutAt 41 r1 = some (pb, r2)) (y : UInt8) (r3 : List UInt8) (hr2 : r2 = y :: r3) (hxr2 : y = 32) (pc r4 : List UInt8) (hc3 : cutAt 32 r3 = some (pc, r4)) (pd pe : List UInt8) (hc4 : cutAt 35 r4 = some (pd, pe)) (h1 : 0 < pa.length) (h2 : allD 10 pa = false) :
    Calls Tryz.prog 33 #[.string ⟨S.toArray⟩] w (SpR S w) := by
  have HJ1 := Lib.hid (Has.new w 87 #[.string ⟨#[]⟩, .string ⟨#[]⟩, .string ⟨#[]⟩, .string ⟨#[]⟩, .string ⟨#[]⟩])
  have HJ := Lib.hid (HJ1.out.alloc (.cells #[.string ⟨#[]⟩, .string ⟨#[]⟩, .string ⟨#[]⟩, .string ⟨#[]⟩, .string ⟨#[]⟩] 87))
  clear HJ1
  have l0 : S.length = r0.length + 1 := by rw [hS]; rfl
  have lu1 := cutAt_len hc1
  have lu2 := cutAt_len hc2
  have l3 : r2.length = r3.length + 1 := by rw [hr2]; rfl
  have lu3 := cutAt_len hc3
  have lu4 := cutAt_len hc4
  have HPS : Hid (pieces S = some ⟨pa, pb, pc, pd, pe⟩) := Lib.hid (by rw [hS, hxS, pieces_P0]; unfold P0; rw [hc1]; simp only; unfold P1; rw [hc2]; simp only; rw [hr2]; unfold P2; simp only; rw [if_pos hxr2]; unfold P3; rw [hc3]; unfold P4; simp only; rw [hc4])
  have HSH : Hid (shaped ⟨pa, pb, pc, pd, pe⟩ = false) := Lib.hid (shaped_no (fun h => by obtain ⟨⟨g1, g2, g3⟩, g4, g5, g6, g7, g8, g9, g10⟩ := (shaped_iff _).1 h; simp only at g1 g2 g3 g4 g5 g6 g7 g8 g9 g10; rw [h2] at g2; cases g2))
  have y1 : ((pa.length : Int) == 0) = false := by rw [beq_eq_false_iff_ne]; omega
  have yn1 : (pa.length == 0) = false := by rw [beq_eq_false_iff_ne]; omega
  have ym1 : ¬ pa = [] := fun h => by rw [h] at h1; exact absurd h1 (by decide)
  have zS : 0 < S.length := by rw [hS]; simp
  obtain ⟨nS, hnS⟩ : ∃ n : Nat, n = s0.toNat := ⟨_, rfl⟩
  have hiS : (((⟨S.toArray⟩ : ByteArray)[0]'(by show 0 < S.toArray.size; simpa using zS)).toNat : Int) = nS := by
    have h : (⟨S.toArray⟩ : ByteArray)[0]'(by show 0 < S.toArray.size; simpa using zS) = S[0] := rfl
    rw [h, hnS]
    simp [hS]
  have eS : ((nS : Int) == 40) = true := by rw [hnS, hxS]; rfl
  have hsS := slice_one s0 r0 S hS (by omega)
  have qS : ((S.length : Int) == 0) = false := by rw [beq_eq_false_iff_ne]; omega
  have qnS : (S.length == 0) = false := by rw [beq_eq_false_iff_ne]; omega
  have qmS : ¬ S = [] := fun h => by rw [h] at zS; exact absurd zS (by decide)
  clear hnS
  have zr2 : 0 < r2.length := by rw [hr2]; simp
  obtain ⟨nr2, hnr2⟩ : ∃ n : Nat, n = y.toNat := ⟨_, rfl⟩
  have hir2 : (((⟨r2.toArray⟩ : ByteArray)[0]'(by show 0 < r2.toArray.size; simpa using zr2)).toNat : Int) = nr2 := by
    have h : (⟨r2.toArray⟩ : ByteArray)[0]'(by show 0 < r2.toArray.size; simpa using zr2) = r2[0] := rfl
    rw [h, hnr2]
    simp [hr2]
  have er2 : ((nr2 : Int) == 32) = true := by rw [hnr2, hxr2]; rfl
  have hsr2 := slice_one y r3 r2 hr2 (by omega)
  have qr2 : ((r2.length : Int) == 0) = false := by rw [beq_eq_false_iff_ne]; omega
  have qnr2 : (r2.length == 0) = false := by rw [beq_eq_false_iff_ne]; omega
  have qmr2 : ¬ r2 = [] := fun h => by rw [h] at zr2; exact absurd zr2 (by decide)
  clear hnr2
  have HU1 : Hid (∀ W, Calls Tryz.prog 69 #[.string ⟨r0.toArray⟩, .int .u8 46] W fun e w' => e = .returned (.tuple #[.string ⟨pa.toArray⟩, .string ⟨r1.toArray⟩, .bool true]) ∧ ∃ n, w' = W.drewN n) := Lib.hid (fun W => upV_yes hc1 (by omega) W)
  have HU2 : Hid (∀ W, Calls Tryz.prog 69 #[.string ⟨r1.toArray⟩, .int .u8 41] W fun e w' => e = .returned (.tuple #[.string ⟨pb.toArray⟩, .string ⟨r2.toArray⟩, .bool true]) ∧ ∃ n, w' = W.drewN n) := Lib.hid (fun W => upV_yes hc2 (by omega) W)
  have HU3 : Hid (∀ W, Calls Tryz.prog 69 #[.string ⟨r3.toArray⟩, .int .u8 32] W fun e w' => e = .returned (.tuple #[.string ⟨pc.toArray⟩, .string ⟨r4.toArray⟩, .bool true]) ∧ ∃ n, w' = W.drewN n) := Lib.hid (fun W => upV_yes hc3 (by omega) W)
  have HU4 : Hid (∀ W, Calls Tryz.prog 69 #[.string ⟨r4.toArray⟩, .int .u8 35] W fun e w' => e = .returned (.tuple #[.string ⟨pd.toArray⟩, .string ⟨pe.toArray⟩, .bool true]) ∧ ∃ n, w' = W.drewN n) := Lib.hid (fun W => upV_yes hc4 (by omega) W)
  have HApa : Hid (∀ W, Calls Tryz.prog 70 #[.string ⟨pa.toArray⟩, .int .i64 10] W fun e w' => e = .returned (.bool false) ∧ W = w') := Lib.hid (fun W => by have h := all_any pa (by omega) 10 W; rw [h2] at h; exact h)
  clear hS hxS l0
  clear hc1 hc2 hc3 hc4 lu1 lu2 lu3 lu4 l3 hr2 hxr2
  clear h2
  clear hl
  go_enter Tryz.func33, Tryz.ntmps33
  go_wp2_with fail
  refine (HU1.out _).mono ?_
  rintro e w1 ⟨rfl, m1, rfl⟩
  go_wp2_with fail
  refine (HU2.out _).mono ?_
  rintro e w2 ⟨rfl, m2, rfl⟩
  go_wp2_with fail
  refine (HU3.out _).mono ?_
  rintro e w3 ⟨rfl, m3, rfl⟩
  go_wp2_with fail
  refine (HU4.out _).mono ?_
  rintro e w4 ⟨rfl, m4, rfl⟩
  go_wp2_with fail
  refine (HApa.out _).mono ?_
  rintro e w' ⟨rfl, rfl⟩
  go_wp2
  refine bodyPost_ret (results_block2 (g := w.heap.size) (T := 87) rfl rfl (by exact (((((has_drewN HJ.out _).set 0 _).set 1 _).set 2 _).set 3 _).set 4 _) rfl Tryz.underlying87 rfl (by kernel_rfl)) rfl ?_
  exact SpR.bad (.inr ⟨_, HPS.out, HSH.out⟩) (by repeat' (first | (with_reducible assumption) | (with_reducible refine Below.setCell ?_ ?_ _) | (with_reducible refine Below.alloc ?_ ?_ _) | (with_reducible refine Below.drew ?_) | (with_reducible refine below_drewN ?_ _) | (with_reducible exact Below.refl _ _) | (show _ ≤ _; (try simp); (try omega); done) | exact Below.refl _ _ | assumption))
set_option maxRecDepth 100000 in
set_option maxHeartbeats 4000000 in
theorem rs_t3 (S : List UInt8) (hl : S.length ≤ 16777216) (w : World) (s0 : UInt8) (r0 : List UInt8) (hS : S = s0 :: r0) (hxS : s0 = 40) (pa r1 : List UInt8) (hc1 : cutAt 46 r0 = some (pa, r1)) (pb r2 : List UInt8) (hc2 : cutAt 41 r1 = some (pb, r2)) (y : UInt8) (r3 : List UInt8) (hr2 : r2 = y :: r3) (hxr2 : y = 32) (pc r4 : List UInt8) (hc3 : cutAt 32 r3 = some (pc, r4)) (pd pe : List UInt8) (hc4 : cutAt 35 r4 = some (pd, pe)) (h1 : 0 < pa.length) (h2 : allD 10 pa = true) (h3 : 1 < pa.length) (h3b : pa.head? = some 48) :
    Calls Tryz.prog 33 #[.string ⟨S.toArray⟩] w (SpR S w) := by
  have HJ1 := Lib.hid (Has.new w 87 #[.string ⟨#[]⟩, .string ⟨#[]⟩, .string ⟨#[]⟩, .string ⟨#[]⟩, .string ⟨#[]⟩])
  have HJ := Lib.hid (HJ1.out.alloc (.cells #[.string ⟨#[]⟩, .string ⟨#[]⟩, .string ⟨#[]⟩, .string ⟨#[]⟩, .string ⟨#[]⟩] 87))
  clear HJ1
  have l0 : S.length = r0.length + 1 := by rw [hS]; rfl
  have lu1 := cutAt_len hc1
  have lu2 := cutAt_len hc2
  have l3 : r2.length = r3.length + 1 := by rw [hr2]; rfl
  have lu3 := cutAt_len hc3
  have lu4 := cutAt_len hc4
  have HPS : Hid (pieces S = some ⟨pa, pb, pc, pd, pe⟩) := Lib.hid (by rw [hS, hxS, pieces_P0]; unfold P0; rw [hc1]; simp only; unfold P1; rw [hc2]; simp only; rw [hr2]; unfold P2; simp only; rw [if_pos hxr2]; unfold P3; rw [hc3]; unfold P4; simp only; rw [hc4])
  have HSH : Hid (shaped ⟨pa, pb, pc, pd, pe⟩ = false) := Lib.hid (shaped_no (fun h => by obtain ⟨⟨g1, g2, g3⟩, g4, g5, g6, g7, g8, g9, g10⟩ := (shaped_iff _).1 h; simp only at g1 g2 g3 g4 g5 g6 g7 g8 g9 g10; rcases g3 with g3 | g3; omega; exact g3 h3b))
  have y1 : ((pa.length : Int) == 0) = false := by rw [beq_eq_false_iff_ne]; omega
  have yn1 : (pa.length == 0) = false := by rw [beq_eq_false_iff_ne]; omega
  have ym1 : ¬ pa = [] := fun h => by rw [h] at h1; exact absurd h1 (by decide)
  have zS : 0 < S.length := by rw [hS]; simp
  obtain ⟨nS, hnS⟩ : ∃ n : Nat, n = s0.toNat := ⟨_, rfl⟩
  have hiS : (((⟨S.toArray⟩ : ByteArray)[0]'(by show 0 < S.toArray.size; simpa using zS)).toNat : Int) = nS := by
    have h : (⟨S.toArray⟩ : ByteArray)[0]'(by show 0 < S.toArray.size; simpa using zS) = S[0] := rfl
    rw [h, hnS]
    simp [hS]
  have eS : ((nS : Int) == 40) = true := by rw [hnS, hxS]; rfl
  have hsS := slice_one s0 r0 S hS (by omega)
  have qS : ((S.length : Int) == 0) = false := by rw [beq_eq_false_iff_ne]; omega
  have qnS : (S.length == 0) = false := by rw [beq_eq_false_iff_ne]; omega
  have qmS : ¬ S = [] := fun h => by rw [h] at zS; exact absurd zS (by decide)
  clear hnS
  have zr2 : 0 < r2.length := by rw [hr2]; simp
  obtain ⟨nr2, hnr2⟩ : ∃ n : Nat, n = y.toNat := ⟨_, rfl⟩
  have hir2 : (((⟨r2.toArray⟩ : ByteArray)[0]'(by show 0 < r2.toArray.size; simpa using zr2)).toNat : Int) = nr2 := by
    have h : (⟨r2.toArray⟩ : ByteArray)[0]'(by show 0 < r2.toArray.size; simpa using zr2) = r2[0] := rfl
    rw [h, hnr2]
    simp [hr2]
  have er2 : ((nr2 : Int) == 32) = true := by rw [hnr2, hxr2]; rfl
  have hsr2 := slice_one y r3 r2 hr2 (by omega)
  have qr2 : ((r2.length : Int) == 0) = false := by rw [beq_eq_false_iff_ne]; omega
  have qnr2 : (r2.length == 0) = false := by rw [beq_eq_false_iff_ne]; omega
  have qmr2 : ¬ r2 = [] := fun h => by rw [h] at zr2; exact absurd zr2 (by decide)
  clear hnr2
  have HU1 : Hid (∀ W, Calls Tryz.prog 69 #[.string ⟨r0.toArray⟩, .int .u8 46] W fun e w' => e = .returned (.tuple #[.string ⟨pa.toArray⟩, .string ⟨r1.toArray⟩, .bool true]) ∧ ∃ n, w' = W.drewN n) := Lib.hid (fun W => upV_yes hc1 (by omega) W)
  have HU2 : Hid (∀ W, Calls Tryz.prog 69 #[.string ⟨r1.toArray⟩, .int .u8 41] W fun e w' => e = .returned (.tuple #[.string ⟨pb.toArray⟩, .string ⟨r2.toArray⟩, .bool true]) ∧ ∃ n, w' = W.drewN n) := Lib.hid (fun W => upV_yes hc2 (by omega) W)
  have HU3 : Hid (∀ W, Calls Tryz.prog 69 #[.string ⟨r3.toArray⟩, .int .u8 32] W fun e w' => e = .returned (.tuple #[.string ⟨pc.toArray⟩, .string ⟨r4.toArray⟩, .bool true]) ∧ ∃ n, w' = W.drewN n) := Lib.hid (fun W => upV_yes hc3 (by omega) W)
  have HU4 : Hid (∀ W, Calls Tryz.prog 69 #[.string ⟨r4.toArray⟩, .int .u8 35] W fun e w' => e = .returned (.tuple #[.string ⟨pd.toArray⟩, .string ⟨pe.toArray⟩, .bool true]) ∧ ∃ n, w' = W.drewN n) := Lib.hid (fun W => upV_yes hc4 (by omega) W)
  have HApa : Hid (∀ W, Calls Tryz.prog 70 #[.string ⟨pa.toArray⟩, .int .i64 10] W fun e w' => e = .returned (.bool true) ∧ W = w') := Lib.hid (fun W => by have h := all_any pa (by omega) 10 W; rw [h2] at h; exact h)
  obtain ⟨na, hna⟩ : ∃ n : Nat, n = (pa[0]'(by omega)).toNat := ⟨_, rfl⟩
  have hia : (((⟨pa.toArray⟩ : ByteArray)[0]'(by show 0 < pa.toArray.size; simp; omega)).toNat : Int) = na := by rw [hna]; rfl
  have ea : ((na : Int) == 48) = true := by
    rw [hna]
    have h : pa[0]'(by omega) = 48 := by rw [List.head?_eq_getElem?, List.getElem?_eq_getElem (by omega)] at h3b; exact Option.some.inj h3b
    rw [h]; rfl
  clear hna
  have d3 : decide ((1 : Int) < (pa.length : Int)) = true := by simp; omega
  clear h3b
  clear hS hxS l0
  clear hc1 hc2 hc3 hc4 lu1 lu2 lu3 lu4 l3 hr2 hxr2
  clear h2
  clear hl
  go_enter Tryz.func33, Tryz.ntmps33
  go_wp2_with fail
  refine (HU1.out _).mono ?_
  rintro e w1 ⟨rfl, m1, rfl⟩
  go_wp2_with fail
  refine (HU2.out _).mono ?_
  rintro e w2 ⟨rfl, m2, rfl⟩
  go_wp2_with fail
  refine (HU3.out _).mono ?_
  rintro e w3 ⟨rfl, m3, rfl⟩
  go_wp2_with fail
  refine (HU4.out _).mono ?_
  rintro e w4 ⟨rfl, m4, rfl⟩
  go_wp2_with fail
  refine (HApa.out _).mono ?_
  rintro e w' ⟨rfl, rfl⟩
  go_wp2
  refine bodyPost_ret (results_block2 (g := w.heap.size) (T := 87) rfl rfl (by exact (((((has_drewN HJ.out _).set 0 _).set 1 _).set 2 _).set 3 _).set 4 _) rfl Tryz.underlying87 rfl (by kernel_rfl)) rfl ?_
  exact SpR.bad (.inr ⟨_, HPS.out, HSH.out⟩) (by repeat' (first | (with_reducible assumption) | (with_reducible refine Below.setCell ?_ ?_ _) | (with_reducible refine Below.alloc ?_ ?_ _) | (with_reducible refine Below.drew ?_) | (with_reducible refine below_drewN ?_ _) | (with_reducible exact Below.refl _ _) | (show _ ≤ _; (try simp); (try omega); done) | exact Below.refl _ _ | assumption))
set_option maxRecDepth 100000 in
set_option maxHeartbeats 4000000 in
theorem rs_t4 (S : List UInt8) (hl : S.length ≤ 16777216) (w : World) (s0 : UInt8) (r0 : List UInt8) (hS : S = s0 :: r0) (hxS : s0 = 40) (pa r1 : List UInt8) (hc1 : cutAt 46 r0 = some (pa, r1)) (pb r2 : List UInt8) (hc2 : cutAt 41 r1 = some (pb, r2)) (y : UInt8) (r3 : List UInt8) (hr2 : r2 = y :: r3) (hxr2 : y = 32) (pc r4 : List UInt8) (hc3 : cutAt 32 r3 = some (pc, r4)) (pd pe : List UInt8) (hc4 : cutAt 35 r4 = some (pd, pe)) (h1 : 0 < pa.length) (h2 : allD 10 pa = true) (h3 : pa.length = 1 ∨ (1 < pa.length ∧ pa.head? ≠ some 48)) (h4 : pb.length ≠ 6) :
    Calls Tryz.prog 33 #[.string ⟨S.toArray⟩] w (SpR S w) := by
  have HJ1 := Lib.hid (Has.new w 87 #[.string ⟨#[]⟩, .string ⟨#[]⟩, .string ⟨#[]⟩, .string ⟨#[]⟩, .string ⟨#[]⟩])
  have HJ := Lib.hid (HJ1.out.alloc (.cells #[.string ⟨#[]⟩, .string ⟨#[]⟩, .string ⟨#[]⟩, .string ⟨#[]⟩, .string ⟨#[]⟩] 87))
  clear HJ1
  have l0 : S.length = r0.length + 1 := by rw [hS]; rfl
  have lu1 := cutAt_len hc1
  have lu2 := cutAt_len hc2
  have l3 : r2.length = r3.length + 1 := by rw [hr2]; rfl
  have lu3 := cutAt_len hc3
  have lu4 := cutAt_len hc4
  have HPS : Hid (pieces S = some ⟨pa, pb, pc, pd, pe⟩) := Lib.hid (by rw [hS, hxS, pieces_P0]; unfold P0; rw [hc1]; simp only; unfold P1; rw [hc2]; simp only; rw [hr2]; unfold P2; simp only; rw [if_pos hxr2]; unfold P3; rw [hc3]; unfold P4; simp only; rw [hc4])
  have HSH : Hid (shaped ⟨pa, pb, pc, pd, pe⟩ = false) := Lib.hid (shaped_no (fun h => by obtain ⟨⟨g1, g2, g3⟩, g4, g5, g6, g7, g8, g9, g10⟩ := (shaped_iff _).1 h; simp only at g1 g2 g3 g4 g5 g6 g7 g8 g9 g10; omega))
  have y1 : ((pa.length : Int) == 0) = false := by rw [beq_eq_false_iff_ne]; omega
  have yn1 : (pa.length == 0) = false := by rw [beq_eq_false_iff_ne]; omega
  have ym1 : ¬ pa = [] := fun h => by rw [h] at h1; exact absurd h1 (by decide)
  have y4 : ((pb.length : Int) == 6) = false := by rw [beq_eq_false_iff_ne]; omega
  have yn4 : (pb.length == 6) = false := by rw [beq_eq_false_iff_ne]; omega
  have zS : 0 < S.length := by rw [hS]; simp
  obtain ⟨nS, hnS⟩ : ∃ n : Nat, n = s0.toNat := ⟨_, rfl⟩
  have hiS : (((⟨S.toArray⟩ : ByteArray)[0]'(by show 0 < S.toArray.size; simpa using zS)).toNat : Int) = nS := by
    have h : (⟨S.toArray⟩ : ByteArray)[0]'(by show 0 < S.toArray.size; simpa using zS) = S[0] := rfl
    rw [h, hnS]
    simp [hS]
  have eS : ((nS : Int) == 40) = true := by rw [hnS, hxS]; rfl
  have hsS := slice_one s0 r0 S hS (by omega)
  have qS : ((S.length : Int) == 0) = false := by rw [beq_eq_false_iff_ne]; omega
  have qnS : (S.length == 0) = false := by rw [beq_eq_false_iff_ne]; omega
  have qmS : ¬ S = [] := fun h => by rw [h] at zS; exact absurd zS (by decide)
  clear hnS
  have zr2 : 0 < r2.length := by rw [hr2]; simp
  obtain ⟨nr2, hnr2⟩ : ∃ n : Nat, n = y.toNat := ⟨_, rfl⟩
  have hir2 : (((⟨r2.toArray⟩ : ByteArray)[0]'(by show 0 < r2.toArray.size; simpa using zr2)).toNat : Int) = nr2 := by
    have h : (⟨r2.toArray⟩ : ByteArray)[0]'(by show 0 < r2.toArray.size; simpa using zr2) = r2[0] := rfl
    rw [h, hnr2]
    simp [hr2]
  have er2 : ((nr2 : Int) == 32) = true := by rw [hnr2, hxr2]; rfl
  have hsr2 := slice_one y r3 r2 hr2 (by omega)
  have qr2 : ((r2.length : Int) == 0) = false := by rw [beq_eq_false_iff_ne]; omega
  have qnr2 : (r2.length == 0) = false := by rw [beq_eq_false_iff_ne]; omega
  have qmr2 : ¬ r2 = [] := fun h => by rw [h] at zr2; exact absurd zr2 (by decide)
  clear hnr2
  have HU1 : Hid (∀ W, Calls Tryz.prog 69 #[.string ⟨r0.toArray⟩, .int .u8 46] W fun e w' => e = .returned (.tuple #[.string ⟨pa.toArray⟩, .string ⟨r1.toArray⟩, .bool true]) ∧ ∃ n, w' = W.drewN n) := Lib.hid (fun W => upV_yes hc1 (by omega) W)
  have HU2 : Hid (∀ W, Calls Tryz.prog 69 #[.string ⟨r1.toArray⟩, .int .u8 41] W fun e w' => e = .returned (.tuple #[.string ⟨pb.toArray⟩, .string ⟨r2.toArray⟩, .bool true]) ∧ ∃ n, w' = W.drewN n) := Lib.hid (fun W => upV_yes hc2 (by omega) W)
  have HU3 : Hid (∀ W, Calls Tryz.prog 69 #[.string ⟨r3.toArray⟩, .int .u8 32] W fun e w' => e = .returned (.tuple #[.string ⟨pc.toArray⟩, .string ⟨r4.toArray⟩, .bool true]) ∧ ∃ n, w' = W.drewN n) := Lib.hid (fun W => upV_yes hc3 (by omega) W)
  have HU4 : Hid (∀ W, Calls Tryz.prog 69 #[.string ⟨r4.toArray⟩, .int .u8 35] W fun e w' => e = .returned (.tuple #[.string ⟨pd.toArray⟩, .string ⟨pe.toArray⟩, .bool true]) ∧ ∃ n, w' = W.drewN n) := Lib.hid (fun W => upV_yes hc4 (by omega) W)
  have HApa : Hid (∀ W, Calls Tryz.prog 70 #[.string ⟨pa.toArray⟩, .int .i64 10] W fun e w' => e = .returned (.bool true) ∧ W = w') := Lib.hid (fun W => by have h := all_any pa (by omega) 10 W; rw [h2] at h; exact h)
  clear hS hxS l0
  clear hc1 hc2 hc3 hc4 lu1 lu2 lu3 lu4 l3 hr2 hxr2
  clear h2
  clear hl
  rcases h3 with h3 | ⟨h3, h3b⟩
  · have d3 : decide ((1 : Int) < (pa.length : Int)) = false := by simp; omega
    go_enter Tryz.func33, Tryz.ntmps33
    go_wp2_with fail
    refine (HU1.out _).mono ?_
    rintro e w1 ⟨rfl, m1, rfl⟩
    go_wp2_with fail
    refine (HU2.out _).mono ?_
    rintro e w2 ⟨rfl, m2, rfl⟩
    go_wp2_with fail
    refine (HU3.out _).mono ?_
    rintro e w3 ⟨rfl, m3, rfl⟩
    go_wp2_with fail
    refine (HU4.out _).mono ?_
    rintro e w4 ⟨rfl, m4, rfl⟩
    go_wp2_with fail
    refine (HApa.out _).mono ?_
    rintro e w' ⟨rfl, rfl⟩
    go_wp2
    refine bodyPost_ret (results_block2 (g := w.heap.size) (T := 87) rfl rfl (by exact (((((has_drewN HJ.out _).set 0 _).set 1 _).set 2 _).set 3 _).set 4 _) rfl Tryz.underlying87 rfl (by kernel_rfl)) rfl ?_
    exact SpR.bad (.inr ⟨_, HPS.out, HSH.out⟩) (by repeat' (first | (with_reducible assumption) | (with_reducible refine Below.setCell ?_ ?_ _) | (with_reducible refine Below.alloc ?_ ?_ _) | (with_reducible refine Below.drew ?_) | (with_reducible refine below_drewN ?_ _) | (with_reducible exact Below.refl _ _) | (show _ ≤ _; (try simp); (try omega); done) | exact Below.refl _ _ | assumption))
  · obtain ⟨na, hna⟩ : ∃ n : Nat, n = (pa[0]'(by omega)).toNat := ⟨_, rfl⟩
    have hia : (((⟨pa.toArray⟩ : ByteArray)[0]'(by show 0 < pa.toArray.size; simp; omega)).toNat : Int) = na := by rw [hna]; rfl
    have ea : ((na : Int) == 48) = false := by
      rw [hna]
      rw [beq_eq_false_iff_ne]
      intro h
      exact h3b (by rw [List.head?_eq_getElem?, List.getElem?_eq_getElem (by omega)]; exact congrArg some (UInt8.toNat_inj.1 (Int.ofNat.inj h)))
    clear hna
    have d3 : decide ((1 : Int) < (pa.length : Int)) = true := by simp; omega
    clear h3b
    go_enter Tryz.func33, Tryz.ntmps33
    go_wp2_with fail
    refine (HU1.out _).mono ?_
    rintro e w1 ⟨rfl, m1, rfl⟩
    go_wp2_with fail
    refine (HU2.out _).mono ?_
    rintro e w2 ⟨rfl, m2, rfl⟩
    go_wp2_with fail
    refine (HU3.out _).mono ?_
    rintro e w3 ⟨rfl, m3, rfl⟩
    go_wp2_with fail
    refine (HU4.out _).mono ?_
    rintro e w4 ⟨rfl, m4, rfl⟩
    go_wp2_with fail
    refine (HApa.out _).mono ?_
    rintro e w' ⟨rfl, rfl⟩
    go_wp2
    refine bodyPost_ret (results_block2 (g := w.heap.size) (T := 87) rfl rfl (by exact (((((has_drewN HJ.out _).set 0 _).set 1 _).set 2 _).set 3 _).set 4 _) rfl Tryz.underlying87 rfl (by kernel_rfl)) rfl ?_
    exact SpR.bad (.inr ⟨_, HPS.out, HSH.out⟩) (by repeat' (first | (with_reducible assumption) | (with_reducible refine Below.setCell ?_ ?_ _) | (with_reducible refine Below.alloc ?_ ?_ _) | (with_reducible refine Below.drew ?_) | (with_reducible refine below_drewN ?_ _) | (with_reducible exact Below.refl _ _) | (show _ ≤ _; (try simp); (try omega); done) | exact Below.refl _ _ | assumption))
set_option maxRecDepth 100000 in
set_option maxHeartbeats 4000000 in
theorem rs_t5 (S : List UInt8) (hl : S.length ≤ 16777216) (w : World) (s0 : UInt8) (r0 : List UInt8) (hS : S = s0 :: r0) (hxS : s0 = 40) (pa r1 : List UInt8) (hc1 : cutAt 46 r0 = some (pa, r1)) (pb r2 : List UInt8) (hc2 : cutAt 41 r1 = some (pb, r2)) (y : UInt8) (r3 : List UInt8) (hr2 : r2 = y :: r3) (hxr2 : y = 32) (pc r4 : List UInt8) (hc3 : cutAt 32 r3 = some (pc, r4)) (pd pe : List UInt8) (hc4 : cutAt 35 r4 = some (pd, pe)) (h1 : 0 < pa.length) (h2 : allD 10 pa = true) (h3 : pa.length = 1 ∨ (1 < pa.length ∧ pa.head? ≠ some 48)) (h4 : pb.length = 6) (h5 : allD 10 pb = false) :
    Calls Tryz.prog 33 #[.string ⟨S.toArray⟩] w (SpR S w) := by
  have HJ1 := Lib.hid (Has.new w 87 #[.string ⟨#[]⟩, .string ⟨#[]⟩, .string ⟨#[]⟩, .string ⟨#[]⟩, .string ⟨#[]⟩])
  have HJ := Lib.hid (HJ1.out.alloc (.cells #[.string ⟨#[]⟩, .string ⟨#[]⟩, .string ⟨#[]⟩, .string ⟨#[]⟩, .string ⟨#[]⟩] 87))
  clear HJ1
  have l0 : S.length = r0.length + 1 := by rw [hS]; rfl
  have lu1 := cutAt_len hc1
  have lu2 := cutAt_len hc2
  have l3 : r2.length = r3.length + 1 := by rw [hr2]; rfl
  have lu3 := cutAt_len hc3
  have lu4 := cutAt_len hc4
  have HPS : Hid (pieces S = some ⟨pa, pb, pc, pd, pe⟩) := Lib.hid (by rw [hS, hxS, pieces_P0]; unfold P0; rw [hc1]; simp only; unfold P1; rw [hc2]; simp only; rw [hr2]; unfold P2; simp only; rw [if_pos hxr2]; unfold P3; rw [hc3]; unfold P4; simp only; rw [hc4])
  have HSH : Hid (shaped ⟨pa, pb, pc, pd, pe⟩ = false) := Lib.hid (shaped_no (fun h => by obtain ⟨⟨g1, g2, g3⟩, g4, g5, g6, g7, g8, g9, g10⟩ := (shaped_iff _).1 h; simp only at g1 g2 g3 g4 g5 g6 g7 g8 g9 g10; rw [h5] at g5; cases g5))
  have y1 : ((pa.length : Int) == 0) = false := by rw [beq_eq_false_iff_ne]; omega
  have yn1 : (pa.length == 0) = false := by rw [beq_eq_false_iff_ne]; omega
  have ym1 : ¬ pa = [] := fun h => by rw [h] at h1; exact absurd h1 (by decide)
  have y4 : ((pb.length : Int) == 6) = true := by rw [beq_iff_eq]; omega
  have yn4 : (pb.length == 6) = true := by rw [beq_iff_eq]; omega
  have zS : 0 < S.length := by rw [hS]; simp
  obtain ⟨nS, hnS⟩ : ∃ n : Nat, n = s0.toNat := ⟨_, rfl⟩
  have hiS : (((⟨S.toArray⟩ : ByteArray)[0]'(by show 0 < S.toArray.size; simpa using zS)).toNat : Int) = nS := by
    have h : (⟨S.toArray⟩ : ByteArray)[0]'(by show 0 < S.toArray.size; simpa using zS) = S[0] := rfl
    rw [h, hnS]
    simp [hS]
  have eS : ((nS : Int) == 40) = true := by rw [hnS, hxS]; rfl
  have hsS := slice_one s0 r0 S hS (by omega)
  have qS : ((S.length : Int) == 0) = false := by rw [beq_eq_false_iff_ne]; omega
  have qnS : (S.length == 0) = false := by rw [beq_eq_false_iff_ne]; omega
  have qmS : ¬ S = [] := fun h => by rw [h] at zS; exact absurd zS (by decide)
  clear hnS
  have zr2 : 0 < r2.length := by rw [hr2]; simp
  obtain ⟨nr2, hnr2⟩ : ∃ n : Nat, n = y.toNat := ⟨_, rfl⟩
  have hir2 : (((⟨r2.toArray⟩ : ByteArray)[0]'(by show 0 < r2.toArray.size; simpa using zr2)).toNat : Int) = nr2 := by
    have h : (⟨r2.toArray⟩ : ByteArray)[0]'(by show 0 < r2.toArray.size; simpa using zr2) = r2[0] := rfl
    rw [h, hnr2]
    simp [hr2]
  have er2 : ((nr2 : Int) == 32) = true := by rw [hnr2, hxr2]; rfl
  have hsr2 := slice_one y r3 r2 hr2 (by omega)
  have qr2 : ((r2.length : Int) == 0) = false := by rw [beq_eq_false_iff_ne]; omega
  have qnr2 : (r2.length == 0) = false := by rw [beq_eq_false_iff_ne]; omega
  have qmr2 : ¬ r2 = [] := fun h => by rw [h] at zr2; exact absurd zr2 (by decide)
  clear hnr2
  have HU1 : Hid (∀ W, Calls Tryz.prog 69 #[.string ⟨r0.toArray⟩, .int .u8 46] W fun e w' => e = .returned (.tuple #[.string ⟨pa.toArray⟩, .string ⟨r1.toArray⟩, .bool true]) ∧ ∃ n, w' = W.drewN n) := Lib.hid (fun W => upV_yes hc1 (by omega) W)
  have HU2 : Hid (∀ W, Calls Tryz.prog 69 #[.string ⟨r1.toArray⟩, .int .u8 41] W fun e w' => e = .returned (.tuple #[.string ⟨pb.toArray⟩, .string ⟨r2.toArray⟩, .bool true]) ∧ ∃ n, w' = W.drewN n) := Lib.hid (fun W => upV_yes hc2 (by omega) W)
  have HU3 : Hid (∀ W, Calls Tryz.prog 69 #[.string ⟨r3.toArray⟩, .int .u8 32] W fun e w' => e = .returned (.tuple #[.string ⟨pc.toArray⟩, .string ⟨r4.toArray⟩, .bool true]) ∧ ∃ n, w' = W.drewN n) := Lib.hid (fun W => upV_yes hc3 (by omega) W)
  have HU4 : Hid (∀ W, Calls Tryz.prog 69 #[.string ⟨r4.toArray⟩, .int .u8 35] W fun e w' => e = .returned (.tuple #[.string ⟨pd.toArray⟩, .string ⟨pe.toArray⟩, .bool true]) ∧ ∃ n, w' = W.drewN n) := Lib.hid (fun W => upV_yes hc4 (by omega) W)
  have HApa : Hid (∀ W, Calls Tryz.prog 70 #[.string ⟨pa.toArray⟩, .int .i64 10] W fun e w' => e = .returned (.bool true) ∧ W = w') := Lib.hid (fun W => by have h := all_any pa (by omega) 10 W; rw [h2] at h; exact h)
  have HApb : Hid (∀ W, Calls Tryz.prog 70 #[.string ⟨pb.toArray⟩, .int .i64 10] W fun e w' => e = .returned (.bool false) ∧ W = w') := Lib.hid (fun W => by have h := all_any pb (by omega) 10 W; rw [h5] at h; exact h)
  clear hS hxS l0
  clear hc1 hc2 hc3 hc4 lu1 lu2 lu3 lu4 l3 hr2 hxr2
  clear h2
  clear h5
  clear hl
  rcases h3 with h3 | ⟨h3, h3b⟩
  · have d3 : decide ((1 : Int) < (pa.length : Int)) = false := by simp; omega
    go_enter Tryz.func33, Tryz.ntmps33
    go_wp2_with fail
    refine (HU1.out _).mono ?_
    rintro e w1 ⟨rfl, m1, rfl⟩
    go_wp2_with fail
    refine (HU2.out _).mono ?_
    rintro e w2 ⟨rfl, m2, rfl⟩
    go_wp2_with fail
    refine (HU3.out _).mono ?_
    rintro e w3 ⟨rfl, m3, rfl⟩
    go_wp2_with fail
    refine (HU4.out _).mono ?_
    rintro e w4 ⟨rfl, m4, rfl⟩
    go_wp2_with fail
    refine (HApa.out _).mono ?_
    rintro e w' ⟨rfl, rfl⟩
    go_wp2_with fail
    refine (HApb.out _).mono ?_
    rintro e w' ⟨rfl, rfl⟩
    go_wp2
    refine bodyPost_ret (results_block2 (g := w.heap.size) (T := 87) rfl rfl (by exact (((((has_drewN HJ.out _).set 0 _).set 1 _).set 2 _).set 3 _).set 4 _) rfl Tryz.underlying87 rfl (by kernel_rfl)) rfl ?_
    exact SpR.bad (.inr ⟨_, HPS.out, HSH.out⟩) (by repeat' (first | (with_reducible assumption) | (with_reducible refine Below.setCell ?_ ?_ _) | (with_reducible refine Below.alloc ?_ ?_ _) | (with_reducible refine Below.drew ?_) | (with_reducible refine below_drewN ?_ _) | (with_reducible exact Below.refl _ _) | (show _ ≤ _; (try simp); (try omega); done) | exact Below.refl _ _ | assumption))
  · obtain ⟨na, hna⟩ : ∃ n : Nat, n = (pa[0]'(by omega)).toNat := ⟨_, rfl⟩
    have hia : (((⟨pa.toArray⟩ : ByteArray)[0]'(by show 0 < pa.toArray.size; simp; omega)).toNat : Int) = na := by rw [hna]; rfl
    have ea : ((na : Int) == 48) = false := by
      rw [hna]
      rw [beq_eq_false_iff_ne]
      intro h
      exact h3b (by rw [List.head?_eq_getElem?, List.getElem?_eq_getElem (by omega)]; exact congrArg some (UInt8.toNat_inj.1 (Int.ofNat.inj h)))
    clear hna
    have d3 : decide ((1 : Int) < (pa.length : Int)) = true := by simp; omega
    clear h3b
    go_enter Tryz.func33, Tryz.ntmps33
    go_wp2_with fail
    refine (HU1.out _).mono ?_
    rintro e w1 ⟨rfl, m1, rfl⟩
    go_wp2_with fail
    refine (HU2.out _).mono ?_
    rintro e w2 ⟨rfl, m2, rfl⟩
    go_wp2_with fail
    refine (HU3.out _).mono ?_
    rintro e w3 ⟨rfl, m3, rfl⟩
    go_wp2_with fail
    refine (HU4.out _).mono ?_
    rintro e w4 ⟨rfl, m4, rfl⟩
    go_wp2_with fail
    refine (HApa.out _).mono ?_
    rintro e w' ⟨rfl, rfl⟩
    go_wp2_with fail
    refine (HApb.out _).mono ?_
    rintro e w' ⟨rfl, rfl⟩
    go_wp2
    refine bodyPost_ret (results_block2 (g := w.heap.size) (T := 87) rfl rfl (by exact (((((has_drewN HJ.out _).set 0 _).set 1 _).set 2 _).set 3 _).set 4 _) rfl Tryz.underlying87 rfl (by kernel_rfl)) rfl ?_
    exact SpR.bad (.inr ⟨_, HPS.out, HSH.out⟩) (by repeat' (first | (with_reducible assumption) | (with_reducible refine Below.setCell ?_ ?_ _) | (with_reducible refine Below.alloc ?_ ?_ _) | (with_reducible refine Below.drew ?_) | (with_reducible refine below_drewN ?_ _) | (with_reducible exact Below.refl _ _) | (show _ ≤ _; (try simp); (try omega); done) | exact Below.refl _ _ | assumption))
set_option maxRecDepth 100000 in
set_option maxHeartbeats 4000000 in
theorem rs_t6 (S : List UInt8) (hl : S.length ≤ 16777216) (w : World) (s0 : UInt8) (r0 : List UInt8) (hS : S = s0 :: r0) (hxS : s0 = 40) (pa r1 : List UInt8) (hc1 : cutAt 46 r0 = some (pa, r1)) (pb r2 : List UInt8) (hc2 : cutAt 41 r1 = some (pb, r2)) (y : UInt8) (r3 : List UInt8) (hr2 : r2 = y :: r3) (hxr2 : y = 32) (pc r4 : List UInt8) (hc3 : cutAt 32 r3 = some (pc, r4)) (pd pe : List UInt8) (hc4 : cutAt 35 r4 = some (pd, pe)) (h1 : 0 < pa.length) (h2 : allD 10 pa = true) (h3 : pa.length = 1 ∨ (1 < pa.length ∧ pa.head? ≠ some 48)) (h4 : pb.length = 6) (h5 : allD 10 pb = true) (h6 : pc.length = 0) :
    Calls Tryz.prog 33 #[.string ⟨S.toArray⟩] w (SpR S w) := by
  have HJ1 := Lib.hid (Has.new w 87 #[.string ⟨#[]⟩, .string ⟨#[]⟩, .string ⟨#[]⟩, .string ⟨#[]⟩, .string ⟨#[]⟩])
  have HJ := Lib.hid (HJ1.out.alloc (.cells #[.string ⟨#[]⟩, .string ⟨#[]⟩, .string ⟨#[]⟩, .string ⟨#[]⟩, .string ⟨#[]⟩] 87))
  clear HJ1
  have l0 : S.length = r0.length + 1 := by rw [hS]; rfl
  have lu1 := cutAt_len hc1
  have lu2 := cutAt_len hc2
  have l3 : r2.length = r3.length + 1 := by rw [hr2]; rfl
  have lu3 := cutAt_len hc3
  have lu4 := cutAt_len hc4
  have HPS : Hid (pieces S = some ⟨pa, pb, pc, pd, pe⟩) := Lib.hid (by rw [hS, hxS, pieces_P0]; unfold P0; rw [hc1]; simp only; unfold P1; rw [hc2]; simp only; rw [hr2]; unfold P2; simp only; rw [if_pos hxr2]; unfold P3; rw [hc3]; unfold P4; simp only; rw [hc4])
  have HSH : Hid (shaped ⟨pa, pb, pc, pd, pe⟩ = false) := Lib.hid (shaped_no (fun h => by obtain ⟨⟨g1, g2, g3⟩, g4, g5, g6, g7, g8, g9, g10⟩ := (shaped_iff _).1 h; simp only at g1 g2 g3 g4 g5 g6 g7 g8 g9 g10; omega))
  have y1 : ((pa.length : Int) == 0) = false := by rw [beq_eq_false_iff_ne]; omega
  have yn1 : (pa.length == 0) = false := by rw [beq_eq_false_iff_ne]; omega
  have ym1 : ¬ pa = [] := fun h => by rw [h] at h1; exact absurd h1 (by decide)
  have y4 : ((pb.length : Int) == 6) = true := by rw [beq_iff_eq]; omega
  have yn4 : (pb.length == 6) = true := by rw [beq_iff_eq]; omega
  have zS : 0 < S.length := by rw [hS]; simp
  obtain ⟨nS, hnS⟩ : ∃ n : Nat, n = s0.toNat := ⟨_, rfl⟩
  have hiS : (((⟨S.toArray⟩ : ByteArray)[0]'(by show 0 < S.toArray.size; simpa using zS)).toNat : Int) = nS := by
    have h : (⟨S.toArray⟩ : ByteArray)[0]'(by show 0 < S.toArray.size; simpa using zS) = S[0] := rfl
    rw [h, hnS]
    simp [hS]
  have eS : ((nS : Int) == 40) = true := by rw [hnS, hxS]; rfl
  have hsS := slice_one s0 r0 S hS (by omega)
  have qS : ((S.length : Int) == 0) = false := by rw [beq_eq_false_iff_ne]; omega
  have qnS : (S.length == 0) = false := by rw [beq_eq_false_iff_ne]; omega
  have qmS : ¬ S = [] := fun h => by rw [h] at zS; exact absurd zS (by decide)
  clear hnS
  have zr2 : 0 < r2.length := by rw [hr2]; simp
  obtain ⟨nr2, hnr2⟩ : ∃ n : Nat, n = y.toNat := ⟨_, rfl⟩
  have hir2 : (((⟨r2.toArray⟩ : ByteArray)[0]'(by show 0 < r2.toArray.size; simpa using zr2)).toNat : Int) = nr2 := by
    have h : (⟨r2.toArray⟩ : ByteArray)[0]'(by show 0 < r2.toArray.size; simpa using zr2) = r2[0] := rfl
    rw [h, hnr2]
    simp [hr2]
  have er2 : ((nr2 : Int) == 32) = true := by rw [hnr2, hxr2]; rfl
  have hsr2 := slice_one y r3 r2 hr2 (by omega)
  have qr2 : ((r2.length : Int) == 0) = false := by rw [beq_eq_false_iff_ne]; omega
  have qnr2 : (r2.length == 0) = false := by rw [beq_eq_false_iff_ne]; omega
  have qmr2 : ¬ r2 = [] := fun h => by rw [h] at zr2; exact absurd zr2 (by decide)
  clear hnr2
  have HU1 : Hid (∀ W, Calls Tryz.prog 69 #[.string ⟨r0.toArray⟩, .int .u8 46] W fun e w' => e = .returned (.tuple #[.string ⟨pa.toArray⟩, .string ⟨r1.toArray⟩, .bool true]) ∧ ∃ n, w' = W.drewN n) := Lib.hid (fun W => upV_yes hc1 (by omega) W)
  have HU2 : Hid (∀ W, Calls Tryz.prog 69 #[.string ⟨r1.toArray⟩, .int .u8 41] W fun e w' => e = .returned (.tuple #[.string ⟨pb.toArray⟩, .string ⟨r2.toArray⟩, .bool true]) ∧ ∃ n, w' = W.drewN n) := Lib.hid (fun W => upV_yes hc2 (by omega) W)
  have HU3 : Hid (∀ W, Calls Tryz.prog 69 #[.string ⟨r3.toArray⟩, .int .u8 32] W fun e w' => e = .returned (.tuple #[.string ⟨pc.toArray⟩, .string ⟨r4.toArray⟩, .bool true]) ∧ ∃ n, w' = W.drewN n) := Lib.hid (fun W => upV_yes hc3 (by omega) W)
  have HU4 : Hid (∀ W, Calls Tryz.prog 69 #[.string ⟨r4.toArray⟩, .int .u8 35] W fun e w' => e = .returned (.tuple #[.string ⟨pd.toArray⟩, .string ⟨pe.toArray⟩, .bool true]) ∧ ∃ n, w' = W.drewN n) := Lib.hid (fun W => upV_yes hc4 (by omega) W)
  have HApa : Hid (∀ W, Calls Tryz.prog 70 #[.string ⟨pa.toArray⟩, .int .i64 10] W fun e w' => e = .returned (.bool true) ∧ W = w') := Lib.hid (fun W => by have h := all_any pa (by omega) 10 W; rw [h2] at h; exact h)
  have HApb : Hid (∀ W, Calls Tryz.prog 70 #[.string ⟨pb.toArray⟩, .int .i64 10] W fun e w' => e = .returned (.bool true) ∧ W = w') := Lib.hid (fun W => by have h := all_any pb (by omega) 10 W; rw [h5] at h; exact h)
  clear hS hxS l0
  clear hc1 hc2 hc3 hc4 lu1 lu2 lu3 lu4 l3 hr2 hxr2
  clear h2
  clear h5
  clear hl
  rcases h3 with h3 | ⟨h3, h3b⟩
  · have d3 : decide ((1 : Int) < (pa.length : Int)) = false := by simp; omega
    go_enter Tryz.func33, Tryz.ntmps33
    go_wp2_with fail
    refine (HU1.out _).mono ?_
    rintro e w1 ⟨rfl, m1, rfl⟩
    go_wp2_with fail
    refine (HU2.out _).mono ?_
    rintro e w2 ⟨rfl, m2, rfl⟩
    go_wp2_with fail
    refine (HU3.out _).mono ?_
    rintro e w3 ⟨rfl, m3, rfl⟩
    go_wp2_with fail
    refine (HU4.out _).mono ?_
    rintro e w4 ⟨rfl, m4, rfl⟩
    go_wp2_with fail
    refine (HApa.out _).mono ?_
    rintro e w' ⟨rfl, rfl⟩
    go_wp2_with fail
    refine (HApb.out _).mono ?_
    rintro e w' ⟨rfl, rfl⟩
    go_wp2
    refine bodyPost_ret (results_block2 (g := w.heap.size) (T := 87) rfl rfl (by exact (((((has_drewN HJ.out _).set 0 _).set 1 _).set 2 _).set 3 _).set 4 _) rfl Tryz.underlying87 rfl (by kernel_rfl)) rfl ?_
    exact SpR.bad (.inr ⟨_, HPS.out, HSH.out⟩) (by repeat' (first | (with_reducible assumption) | (with_reducible refine Below.setCell ?_ ?_ _) | (with_reducible refine Below.alloc ?_ ?_ _) | (with_reducible refine Below.drew ?_) | (with_reducible refine below_drewN ?_ _) | (with_reducible exact Below.refl _ _) | (show _ ≤ _; (try simp); (try omega); done) | exact Below.refl _ _ | assumption))
  · obtain ⟨na, hna⟩ : ∃ n : Nat, n = (pa[0]'(by omega)).toNat := ⟨_, rfl⟩
    have hia : (((⟨pa.toArray⟩ : ByteArray)[0]'(by show 0 < pa.toArray.size; simp; omega)).toNat : Int) = na := by rw [hna]; rfl
    have ea : ((na : Int) == 48) = false := by
      rw [hna]
      rw [beq_eq_false_iff_ne]
      intro h
      exact h3b (by rw [List.head?_eq_getElem?, List.getElem?_eq_getElem (by omega)]; exact congrArg some (UInt8.toNat_inj.1 (Int.ofNat.inj h)))
    clear hna
    have d3 : decide ((1 : Int) < (pa.length : Int)) = true := by simp; omega
    clear h3b
    go_enter Tryz.func33, Tryz.ntmps33
    go_wp2_with fail
    refine (HU1.out _).mono ?_
    rintro e w1 ⟨rfl, m1, rfl⟩
    go_wp2_with fail
    refine (HU2.out _).mono ?_
    rintro e w2 ⟨rfl, m2, rfl⟩
    go_wp2_with fail
    refine (HU3.out _).mono ?_
    rintro e w3 ⟨rfl, m3, rfl⟩
    go_wp2_with fail
    refine (HU4.out _).mono ?_
    rintro e w4 ⟨rfl, m4, rfl⟩
    go_wp2_with fail
    refine (HApa.out _).mono ?_
    rintro e w' ⟨rfl, rfl⟩
    go_wp2_with fail
    refine (HApb.out _).mono ?_
    rintro e w' ⟨rfl, rfl⟩
    go_wp2
    refine bodyPost_ret (results_block2 (g := w.heap.size) (T := 87) rfl rfl (by exact (((((has_drewN HJ.out _).set 0 _).set 1 _).set 2 _).set 3 _).set 4 _) rfl Tryz.underlying87 rfl (by kernel_rfl)) rfl ?_
    exact SpR.bad (.inr ⟨_, HPS.out, HSH.out⟩) (by repeat' (first | (with_reducible assumption) | (with_reducible refine Below.setCell ?_ ?_ _) | (with_reducible refine Below.alloc ?_ ?_ _) | (with_reducible refine Below.drew ?_) | (with_reducible refine below_drewN ?_ _) | (with_reducible exact Below.refl _ _) | (show _ ≤ _; (try simp); (try omega); done) | exact Below.refl _ _ | assumption))
set_option maxRecDepth 100000 in
set_option maxHeartbeats 4000000 in
theorem rs_t7 (S : List UInt8) (hl : S.length ≤ 16777216) (w : World) (s0 : UInt8) (r0 : List UInt8) (hS : S = s0 :: r0) (hxS : s0 = 40) (pa r1 : List UInt8) (hc1 : cutAt 46 r0 = some (pa, r1)) (pb r2 : List UInt8) (hc2 : cutAt 41 r1 = some (pb, r2)) (y : UInt8) (r3 : List UInt8) (hr2 : r2 = y :: r3) (hxr2 : y = 32) (pc r4 : List UInt8) (hc3 : cutAt 32 r3 = some (pc, r4)) (pd pe : List UInt8) (hc4 : cutAt 35 r4 = some (pd, pe)) (h1 : 0 < pa.length) (h2 : allD 10 pa = true) (h3 : pa.length = 1 ∨ (1 < pa.length ∧ pa.head? ≠ some 48)) (h4 : pb.length = 6) (h5 : allD 10 pb = true) (h6 : 0 < pc.length) (h7 : pd.length ≠ 3) (h7b : pd.length ≠ 8) :
    Calls Tryz.prog 33 #[.string ⟨S.toArray⟩] w (SpR S w) := by
  have HJ1 := Lib.hid (Has.new w 87 #[.string ⟨#[]⟩, .string ⟨#[]⟩, .string ⟨#[]⟩, .string ⟨#[]⟩, .string ⟨#[]⟩])
  have HJ := Lib.hid (HJ1.out.alloc (.cells #[.string ⟨#[]⟩, .string ⟨#[]⟩, .string ⟨#[]⟩, .string ⟨#[]⟩, .string ⟨#[]⟩] 87))
  clear HJ1
  have l0 : S.length = r0.length + 1 := by rw [hS]; rfl
  have lu1 := cutAt_len hc1
  have lu2 := cutAt_len hc2
  have l3 : r2.length = r3.length + 1 := by rw [hr2]; rfl
  have lu3 := cutAt_len hc3
  have lu4 := cutAt_len hc4
  have HPS : Hid (pieces S = some ⟨pa, pb, pc, pd, pe⟩) := Lib.hid (by rw [hS, hxS, pieces_P0]; unfold P0; rw [hc1]; simp only; unfold P1; rw [hc2]; simp only; rw [hr2]; unfold P2; simp only; rw [if_pos hxr2]; unfold P3; rw [hc3]; unfold P4; simp only; rw [hc4])
  have HSH : Hid (shaped ⟨pa, pb, pc, pd, pe⟩ = false) := Lib.hid (shaped_no (fun h => by obtain ⟨⟨g1, g2, g3⟩, g4, g5, g6, g7, g8, g9, g10⟩ := (shaped_iff _).1 h; simp only at g1 g2 g3 g4 g5 g6 g7 g8 g9 g10; omega))
  have y1 : ((pa.length : Int) == 0) = false := by rw [beq_eq_false_iff_ne]; omega
  have yn1 : (pa.length == 0) = false := by rw [beq_eq_false_iff_ne]; omega
  have ym1 : ¬ pa = [] := fun h => by rw [h] at h1; exact absurd h1 (by decide)
  have y4 : ((pb.length : Int) == 6) = true := by rw [beq_iff_eq]; omega
  have yn4 : (pb.length == 6) = true := by rw [beq_iff_eq]; omega
  have y6 : ((pc.length : Int) == 0) = false := by rw [beq_eq_false_iff_ne]; omega
  have yn6 : (pc.length == 0) = false := by rw [beq_eq_false_iff_ne]; omega
  have ym6 : ¬ pc = [] := fun h => by rw [h] at h6; exact absurd h6 (by decide)
  have y7 : ((pd.length : Int) == 3) = false := by rw [beq_eq_false_iff_ne]; omega
  have yn7 : (pd.length == 3) = false := by rw [beq_eq_false_iff_ne]; omega
  have y7b : ((pd.length : Int) == 8) = false := by rw [beq_eq_false_iff_ne]; omega
  have yn7b : (pd.length == 8) = false := by rw [beq_eq_false_iff_ne]; omega
  have zS : 0 < S.length := by rw [hS]; simp
  obtain ⟨nS, hnS⟩ : ∃ n : Nat, n = s0.toNat := ⟨_, rfl⟩
  have hiS : (((⟨S.toArray⟩ : ByteArray)[0]'(by show 0 < S.toArray.size; simpa using zS)).toNat : Int) = nS := by
    have h : (⟨S.toArray⟩ : ByteArray)[0]'(by show 0 < S.toArray.size; simpa using zS) = S[0] := rfl
    rw [h, hnS]
    simp [hS]
  have eS : ((nS : Int) == 40) = true := by rw [hnS, hxS]; rfl
  have hsS := slice_one s0 r0 S hS (by omega)
  have qS : ((S.length : Int) == 0) = false := by rw [beq_eq_false_iff_ne]; omega
  have qnS : (S.length == 0) = false := by rw [beq_eq_false_iff_ne]; omega
  have qmS : ¬ S = [] := fun h => by rw [h] at zS; exact absurd zS (by decide)
  clear hnS
  have zr2 : 0 < r2.length := by rw [hr2]; simp
  obtain ⟨nr2, hnr2⟩ : ∃ n : Nat, n = y.toNat := ⟨_, rfl⟩
  have hir2 : (((⟨r2.toArray⟩ : ByteArray)[0]'(by show 0 < r2.toArray.size; simpa using zr2)).toNat : Int) = nr2 := by
    have h : (⟨r2.toArray⟩ : ByteArray)[0]'(by show 0 < r2.toArray.size; simpa using zr2) = r2[0] := rfl
    rw [h, hnr2]
    simp [hr2]
  have er2 : ((nr2 : Int) == 32) = true := by rw [hnr2, hxr2]; rfl
  have hsr2 := slice_one y r3 r2 hr2 (by omega)
  have qr2 : ((r2.length : Int) == 0) = false := by rw [beq_eq_false_iff_ne]; omega
  have qnr2 : (r2.length == 0) = false := by rw [beq_eq_false_iff_ne]; omega
  have qmr2 : ¬ r2 = [] := fun h => by rw [h] at zr2; exact absurd zr2 (by decide)
  clear hnr2
  have HU1 : Hid (∀ W, Calls Tryz.prog 69 #[.string ⟨r0.toArray⟩, .int .u8 46] W fun e w' => e = .returned (.tuple #[.string ⟨pa.toArray⟩, .string ⟨r1.toArray⟩, .bool true]) ∧ ∃ n, w' = W.drewN n) := Lib.hid (fun W => upV_yes hc1 (by omega) W)
  have HU2 : Hid (∀ W, Calls Tryz.prog 69 #[.string ⟨r1.toArray⟩, .int .u8 41] W fun e w' => e = .returned (.tuple #[.string ⟨pb.toArray⟩, .string ⟨r2.toArray⟩, .bool true]) ∧ ∃ n, w' = W.drewN n) := Lib.hid (fun W => upV_yes hc2 (by omega) W)
  have HU3 : Hid (∀ W, Calls Tryz.prog 69 #[.string ⟨r3.toArray⟩, .int .u8 32] W fun e w' => e = .returned (.tuple #[.string ⟨pc.toArray⟩, .string ⟨r4.toArray⟩, .bool true]) ∧ ∃ n, w' = W.drewN n) := Lib.hid (fun W => upV_yes hc3 (by omega) W)
  have HU4 : Hid (∀ W, Calls Tryz.prog 69 #[.string ⟨r4.toArray⟩, .int .u8 35] W fun e w' => e = .returned (.tuple #[.string ⟨pd.toArray⟩, .string ⟨pe.toArray⟩, .bool true]) ∧ ∃ n, w' = W.drewN n) := Lib.hid (fun W => upV_yes hc4 (by omega) W)
  have HApa : Hid (∀ W, Calls Tryz.prog 70 #[.string ⟨pa.toArray⟩, .int .i64 10] W fun e w' => e = .returned (.bool true) ∧ W = w') := Lib.hid (fun W => by have h := all_any pa (by omega) 10 W; rw [h2] at h; exact h)
  have HApb : Hid (∀ W, Calls Tryz.prog 70 #[.string ⟨pb.toArray⟩, .int .i64 10] W fun e w' => e = .returned (.bool true) ∧ W = w') := Lib.hid (fun W => by have h := all_any pb (by omega) 10 W; rw [h5] at h; exact h)
  clear hS hxS l0
  clear hc1 hc2 hc3 hc4 lu1 lu2 lu3 lu4 l3 hr2 hxr2
  clear h2
  clear h5
  clear hl
  rcases h3 with h3 | ⟨h3, h3b⟩
  · have d3 : decide ((1 : Int) < (pa.length : Int)) = false := by simp; omega
    go_enter Tryz.func33, Tryz.ntmps33
    go_wp2_with fail
    refine (HU1.out _).mono ?_
    rintro e w1 ⟨rfl, m1, rfl⟩
    go_wp2_with fail
    refine (HU2.out _).mono ?_
    rintro e w2 ⟨rfl, m2, rfl⟩
    go_wp2_with fail
    refine (HU3.out _).mono ?_
    rintro e w3 ⟨rfl, m3, rfl⟩
    go_wp2_with fail
    refine (HU4.out _).mono ?_
    rintro e w4 ⟨rfl, m4, rfl⟩
    go_wp2_with fail
    refine (HApa.out _).mono ?_
    rintro e w' ⟨rfl, rfl⟩
    go_wp2_with fail
    refine (HApb.out _).mono ?_
    rintro e w' ⟨rfl, rfl⟩
    go_wp2
    refine bodyPost_ret (results_block2 (g := w.heap.size) (T := 87) rfl rfl (by exact (((((has_drewN HJ.out _).set 0 _).set 1 _).set 2 _).set 3 _).set 4 _) rfl Tryz.underlying87 rfl (by kernel_rfl)) rfl ?_
    exact SpR.bad (.inr ⟨_, HPS.out, HSH.out⟩) (by repeat' (first | (with_reducible assumption) | (with_reducible refine Below.setCell ?_ ?_ _) | (with_reducible refine Below.alloc ?_ ?_ _) | (with_reducible refine Below.drew ?_) | (with_reducible refine below_drewN ?_ _) | (with_reducible exact Below.refl _ _) | (show _ ≤ _; (try simp); (try omega); done) | exact Below.refl _ _ | assumption))
  · obtain ⟨na, hna⟩ : ∃ n : Nat, n = (pa[0]'(by omega)).toNat := ⟨_, rfl⟩
    have hia : (((⟨pa.toArray⟩ : ByteArray)[0]'(by show 0 < pa.toArray.size; simp; omega)).toNat : Int) = na := by rw [hna]; rfl
    have ea : ((na : Int) == 48) = false := by
      rw [hna]
      rw [beq_eq_false_iff_ne]
      intro h
      exact h3b (by rw [List.head?_eq_getElem?, List.getElem?_eq_getElem (by omega)]; exact congrArg some (UInt8.toNat_inj.1 (Int.ofNat.inj h)))
    clear hna
    have d3 : decide ((1 : Int) < (pa.length : Int)) = true := by simp; omega
    clear h3b
    go_enter Tryz.func33, Tryz.ntmps33
    go_wp2_with fail
    refine (HU1.out _).mono ?_
    rintro e w1 ⟨rfl, m1, rfl⟩
    go_wp2_with fail
    refine (HU2.out _).mono ?_
    rintro e w2 ⟨rfl, m2, rfl⟩
    go_wp2_with fail
    refine (HU3.out _).mono ?_
    rintro e w3 ⟨rfl, m3, rfl⟩
    go_wp2_with fail
    refine (HU4.out _).mono ?_
    rintro e w4 ⟨rfl, m4, rfl⟩
    go_wp2_with fail
    refine (HApa.out _).mono ?_
    rintro e w' ⟨rfl, rfl⟩
    go_wp2_with fail
    refine (HApb.out _).mono ?_
    rintro e w' ⟨rfl, rfl⟩
    go_wp2
    refine bodyPost_ret (results_block2 (g := w.heap.size) (T := 87) rfl rfl (by exact (((((has_drewN HJ.out _).set 0 _).set 1 _).set 2 _).set 3 _).set 4 _) rfl Tryz.underlying87 rfl (by kernel_rfl)) rfl ?_
    exact SpR.bad (.inr ⟨_, HPS.out, HSH.out⟩) (by repeat' (first | (with_reducible assumption) | (with_reducible refine Below.setCell ?_ ?_ _) | (with_reducible refine Below.alloc ?_ ?_ _) | (with_reducible refine Below.drew ?_) | (with_reducible refine below_drewN ?_ _) | (with_reducible exact Below.refl _ _) | (show _ ≤ _; (try simp); (try omega); done) | exact Below.refl _ _ | assumption))
set_option maxRecDepth 100000 in
set_option maxHeartbeats 4000000 in
theorem rs_t8 (S : List UInt8) (hl : S.length ≤ 16777216) (w : World) (s0 : UInt8) (r0 : List UInt8) (hS : S = s0 :: r0) (hxS : s0 = 40) (pa r1 : List UInt8) (hc1 : cutAt 46 r0 = some (pa, r1)) (pb r2 : List UInt8) (hc2 : cutAt 41 r1 = some (pb, r2)) (y : UInt8) (r3 : List UInt8) (hr2 : r2 = y :: r3) (hxr2 : y = 32) (pc r4 : List UInt8) (hc3 : cutAt 32 r3 = some (pc, r4)) (pd pe : List UInt8) (hc4 : cutAt 35 r4 = some (pd, pe)) (h1 : 0 < pa.length) (h2 : allD 10 pa = true) (h3 : pa.length = 1 ∨ (1 < pa.length ∧ pa.head? ≠ some 48)) (h4 : pb.length = 6) (h5 : allD 10 pb = true) (h6 : 0 < pc.length) (h7 : pd.length = 3 ∨ pd.length = 8) (h8 : allD 16 pd = false) :
    Calls Tryz.prog 33 #[.string ⟨S.toArray⟩] w (SpR S w) := by
  have HJ1 := Lib.hid (Has.new w 87 #[.string ⟨#[]⟩, .string ⟨#[]⟩, .string ⟨#[]⟩, .string ⟨#[]⟩, .string ⟨#[]⟩])
  have HJ := Lib.hid (HJ1.out.alloc (.cells #[.string ⟨#[]⟩, .string ⟨#[]⟩, .string ⟨#[]⟩, .string ⟨#[]⟩, .string ⟨#[]⟩] 87))
  clear HJ1
  have l0 : S.length = r0.length + 1 := by rw [hS]; rfl
  have lu1 := cutAt_len hc1
  have lu2 := cutAt_len hc2
  have l3 : r2.length = r3.length + 1 := by rw [hr2]; rfl
  have lu3 := cutAt_len hc3
  have lu4 := cutAt_len hc4
  have HPS : Hid (pieces S = some ⟨pa, pb, pc, pd, pe⟩) := Lib.hid (by rw [hS, hxS, pieces_P0]; unfold P0; rw [hc1]; simp only; unfold P1; rw [hc2]; simp only; rw [hr2]; unfold P2; simp only; rw [if_pos hxr2]; unfold P3; rw [hc3]; unfold P4; simp only; rw [hc4])
  have HSH : Hid (shaped ⟨pa, pb, pc, pd, pe⟩ = false) := Lib.hid (shaped_no (fun h => by obtain ⟨⟨g1, g2, g3⟩, g4, g5, g6, g7, g8, g9, g10⟩ := (shaped_iff _).1 h; simp only at g1 g2 g3 g4 g5 g6 g7 g8 g9 g10; rw [h8] at g8; cases g8))
  have y1 : ((pa.length : Int) == 0) = false := by rw [beq_eq_false_iff_ne]; omega
  have yn1 : (pa.length == 0) = false := by rw [beq_eq_false_iff_ne]; omega
  have ym1 : ¬ pa = [] := fun h => by rw [h] at h1; exact absurd h1 (by decide)
  have y4 : ((pb.length : Int) == 6) = true := by rw [beq_iff_eq]; omega
  have yn4 : (pb.length == 6) = true := by rw [beq_iff_eq]; omega
  have y6 : ((pc.length : Int) == 0) = false := by rw [beq_eq_false_iff_ne]; omega
  have yn6 : (pc.length == 0) = false := by rw [beq_eq_false_iff_ne]; omega
  have ym6 : ¬ pc = [] := fun h => by rw [h] at h6; exact absurd h6 (by decide)
  have zS : 0 < S.length := by rw [hS]; simp
  obtain ⟨nS, hnS⟩ : ∃ n : Nat, n = s0.toNat := ⟨_, rfl⟩
  have hiS : (((⟨S.toArray⟩ : ByteArray)[0]'(by show 0 < S.toArray.size; simpa using zS)).toNat : Int) = nS := by
    have h : (⟨S.toArray⟩ : ByteArray)[0]'(by show 0 < S.toArray.size; simpa using zS) = S[0] := rfl
    rw [h, hnS]
    simp [hS]
  have eS : ((nS : Int) == 40) = true := by rw [hnS, hxS]; rfl
  have hsS := slice_one s0 r0 S hS (by omega)
  have qS : ((S.length : Int) == 0) = false := by rw [beq_eq_false_iff_ne]; omega
  have qnS : (S.length == 0) = false := by rw [beq_eq_false_iff_ne]; omega
  have qmS : ¬ S = [] := fun h => by rw [h] at zS; exact absurd zS (by decide)
  clear hnS
  have zr2 : 0 < r2.length := by rw [hr2]; simp
  obtain ⟨nr2, hnr2⟩ : ∃ n : Nat, n = y.toNat := ⟨_, rfl⟩
  have hir2 : (((⟨r2.toArray⟩ : ByteArray)[0]'(by show 0 < r2.toArray.size; simpa using zr2)).toNat : Int) = nr2 := by
    have h : (⟨r2.toArray⟩ : ByteArray)[0]'(by show 0 < r2.toArray.size; simpa using zr2) = r2[0] := rfl
    rw [h, hnr2]
    simp [hr2]
  have er2 : ((nr2 : Int) == 32) = true := by rw [hnr2, hxr2]; rfl
  have hsr2 := slice_one y r3 r2 hr2 (by omega)
  have qr2 : ((r2.length : Int) == 0) = false := by rw [beq_eq_false_iff_ne]; omega
  have qnr2 : (r2.length == 0) = false := by rw [beq_eq_false_iff_ne]; omega
  have qmr2 : ¬ r2 = [] := fun h => by rw [h] at zr2; exact absurd zr2 (by decide)
  clear hnr2
  have HU1 : Hid (∀ W, Calls Tryz.prog 69 #[.string ⟨r0.toArray⟩, .int .u8 46] W fun e w' => e = .returned (.tuple #[.string ⟨pa.toArray⟩, .string ⟨r1.toArray⟩, .bool true]) ∧ ∃ n, w' = W.drewN n) := Lib.hid (fun W => upV_yes hc1 (by omega) W)
  have HU2 : Hid (∀ W, Calls Tryz.prog 69 #[.string ⟨r1.toArray⟩, .int .u8 41] W fun e w' => e = .returned (.tuple #[.string ⟨pb.toArray⟩, .string ⟨r2.toArray⟩, .bool true]) ∧ ∃ n, w' = W.drewN n) := Lib.hid (fun W => upV_yes hc2 (by omega) W)
  have HU3 : Hid (∀ W, Calls Tryz.prog 69 #[.string ⟨r3.toArray⟩, .int .u8 32] W fun e w' => e = .returned (.tuple #[.string ⟨pc.toArray⟩, .string ⟨r4.toArray⟩, .bool true]) ∧ ∃ n, w' = W.drewN n) := Lib.hid (fun W => upV_yes hc3 (by omega) W)
  have HU4 : Hid (∀ W, Calls Tryz.prog 69 #[.string ⟨r4.toArray⟩, .int .u8 35] W fun e w' => e = .returned (.tuple #[.string ⟨pd.toArray⟩, .string ⟨pe.toArray⟩, .bool true]) ∧ ∃ n, w' = W.drewN n) := Lib.hid (fun W => upV_yes hc4 (by omega) W)
  have HApa : Hid (∀ W, Calls Tryz.prog 70 #[.string ⟨pa.toArray⟩, .int .i64 10] W fun e w' => e = .returned (.bool true) ∧ W = w') := Lib.hid (fun W => by have h := all_any pa (by omega) 10 W; rw [h2] at h; exact h)
  have HApb : Hid (∀ W, Calls Tryz.prog 70 #[.string ⟨pb.toArray⟩, .int .i64 10] W fun e w' => e = .returned (.bool true) ∧ W = w') := Lib.hid (fun W => by have h := all_any pb (by omega) 10 W; rw [h5] at h; exact h)
  have HApd : Hid (∀ W, Calls Tryz.prog 70 #[.string ⟨pd.toArray⟩, .int .i64 16] W fun e w' => e = .returned (.bool false) ∧ W = w') := Lib.hid (fun W => by have h := all_any pd (by omega) 16 W; rw [h8] at h; exact h)
  clear hS hxS l0
  clear hc1 hc2 hc3 hc4 lu1 lu2 lu3 lu4 l3 hr2 hxr2
  clear h2
  clear h5
  clear h8
  clear hl
  rcases h3 with h3 | ⟨h3, h3b⟩
  · have d3 : decide ((1 : Int) < (pa.length : Int)) = false := by simp; omega
    rcases h7 with h7 | h7
    · have y7 : ((pd.length : Int) == 3) = true := by rw [beq_iff_eq]; omega
      have yn7 : (pd.length == 3) = true := by rw [beq_iff_eq]; omega
      have y7b : ((pd.length : Int) == 8) = false := by rw [beq_eq_false_iff_ne]; omega
      have yn7b : (pd.length == 8) = false := by rw [beq_eq_false_iff_ne]; omega
      go_enter Tryz.func33, Tryz.ntmps33
      go_wp2_with fail
      refine (HU1.out _).mono ?_
      rintro e w1 ⟨rfl, m1, rfl⟩
      go_wp2_with fail
      refine (HU2.out _).mono ?_
      rintro e w2 ⟨rfl, m2, rfl⟩
      go_wp2_with fail
      refine (HU3.out _).mono ?_
      rintro e w3 ⟨rfl, m3, rfl⟩
      go_wp2_with fail
      refine (HU4.out _).mono ?_
      rintro e w4 ⟨rfl, m4, rfl⟩
      go_wp2_with fail
      refine (HApa.out _).mono ?_
      rintro e w' ⟨rfl, rfl⟩
      go_wp2_with fail
      refine (HApb.out _).mono ?_
      rintro e w' ⟨rfl, rfl⟩
      go_wp2_with fail
      refine (HApd.out _).mono ?_
      rintro e w' ⟨rfl, rfl⟩
      go_wp2
      refine bodyPost_ret (results_block2 (g := w.heap.size) (T := 87) rfl rfl (by exact (((((has_drewN HJ.out _).set 0 _).set 1 _).set 2 _).set 3 _).set 4 _) rfl Tryz.underlying87 rfl (by kernel_rfl)) rfl ?_
      exact SpR.bad (.inr ⟨_, HPS.out, HSH.out⟩) (by repeat' (first | (with_reducible assumption) | (with_reducible refine Below.setCell ?_ ?_ _) | (with_reducible refine Below.alloc ?_ ?_ _) | (with_reducible refine Below.drew ?_) | (with_reducible refine below_drewN ?_ _) | (with_reducible exact Below.refl _ _) | (show _ ≤ _; (try simp); (try omega); done) | exact Below.refl _ _ | assumption))
    · have y7 : ((pd.length : Int) == 3) = false := by rw [beq_eq_false_iff_ne]; omega
      have yn7 : (pd.length == 3) = false := by rw [beq_eq_false_iff_ne]; omega
      have y7b : ((pd.length : Int) == 8) = true := by rw [beq_iff_eq]; omega
      have yn7b : (pd.length == 8) = true := by rw [beq_iff_eq]; omega
      go_enter Tryz.func33, Tryz.ntmps33
      go_wp2_with fail
      refine (HU1.out _).mono ?_
      rintro e w1 ⟨rfl, m1, rfl⟩
      go_wp2_with fail
      refine (HU2.out _).mono ?_
      rintro e w2 ⟨rfl, m2, rfl⟩
      go_wp2_with fail
      refine (HU3.out _).mono ?_
      rintro e w3 ⟨rfl, m3, rfl⟩
      go_wp2_with fail
      refine (HU4.out _).mono ?_
      rintro e w4 ⟨rfl, m4, rfl⟩
      go_wp2_with fail
      refine (HApa.out _).mono ?_
      rintro e w' ⟨rfl, rfl⟩
      go_wp2_with fail
      refine (HApb.out _).mono ?_
      rintro e w' ⟨rfl, rfl⟩
      go_wp2_with fail
      refine (HApd.out _).mono ?_
      rintro e w' ⟨rfl, rfl⟩
      go_wp2
      refine bodyPost_ret (results_block2 (g := w.heap.size) (T := 87) rfl rfl (by exact (((((has_drewN HJ.out _).set 0 _).set 1 _).set 2 _).set 3 _).set 4 _) rfl Tryz.underlying87 rfl (by kernel_rfl)) rfl ?_
      exact SpR.bad (.inr ⟨_, HPS.out, HSH.out⟩) (by repeat' (first | (with_reducible assumption) | (with_reducible refine Below.setCell ?_ ?_ _) | (with_reducible refine Below.alloc ?_ ?_ _) | (with_reducible refine Below.drew ?_) | (with_reducible refine below_drewN ?_ _) | (with_reducible exact Below.refl _ _) | (show _ ≤ _; (try simp); (try omega); done) | exact Below.refl _ _ | assumption))
  · obtain ⟨na, hna⟩ : ∃ n : Nat, n = (pa[0]'(by omega)).toNat := ⟨_, rfl⟩
    have hia : (((⟨pa.toArray⟩ : ByteArray)[0]'(by show 0 < pa.toArray.size; simp; omega)).toNat : Int) = na := by rw [hna]; rfl
    have ea : ((na : Int) == 48) = false := by
      rw [hna]
      rw [beq_eq_false_iff_ne]
      intro h
      exact h3b (by rw [List.head?_eq_getElem?, List.getElem?_eq_getElem (by omega)]; exact congrArg some (UInt8.toNat_inj.1 (Int.ofNat.inj h)))
    clear hna
    have d3 : decide ((1 : Int) < (pa.length : Int)) = true := by simp; omega
    clear h3b
    rcases h7 with h7 | h7
    · have y7 : ((pd.length : Int) == 3) = true := by rw [beq_iff_eq]; omega
      have yn7 : (pd.length == 3) = true := by rw [beq_iff_eq]; omega
      have y7b : ((pd.length : Int) == 8) = false := by rw [beq_eq_false_iff_ne]; omega
      have yn7b : (pd.length == 8) = false := by rw [beq_eq_false_iff_ne]; omega
      go_enter Tryz.func33, Tryz.ntmps33
      go_wp2_with fail
      refine (HU1.out _).mono ?_
      rintro e w1 ⟨rfl, m1, rfl⟩
      go_wp2_with fail
      refine (HU2.out _).mono ?_
      rintro e w2 ⟨rfl, m2, rfl⟩
      go_wp2_with fail
      refine (HU3.out _).mono ?_
      rintro e w3 ⟨rfl, m3, rfl⟩
      go_wp2_with fail
      refine (HU4.out _).mono ?_
      rintro e w4 ⟨rfl, m4, rfl⟩
      go_wp2_with fail
      refine (HApa.out _).mono ?_
      rintro e w' ⟨rfl, rfl⟩
      go_wp2_with fail
      refine (HApb.out _).mono ?_
      rintro e w' ⟨rfl, rfl⟩
      go_wp2_with fail
      refine (HApd.out _).mono ?_
      rintro e w' ⟨rfl, rfl⟩
      go_wp2
      refine bodyPost_ret (results_block2 (g := w.heap.size) (T := 87) rfl rfl (by exact (((((has_drewN HJ.out _).set 0 _).set 1 _).set 2 _).set 3 _).set 4 _) rfl Tryz.underlying87 rfl (by kernel_rfl)) rfl ?_
      exact SpR.bad (.inr ⟨_, HPS.out, HSH.out⟩) (by repeat' (first | (with_reducible assumption) | (with_reducible refine Below.setCell ?_ ?_ _) | (with_reducible refine Below.alloc ?_ ?_ _) | (with_reducible refine Below.drew ?_) | (with_reducible refine below_drewN ?_ _) | (with_reducible exact Below.refl _ _) | (show _ ≤ _; (try simp); (try omega); done) | exact Below.refl _ _ | assumption))
    · have y7 : ((pd.length : Int) == 3) = false := by rw [beq_eq_false_iff_ne]; omega
      have yn7 : (pd.length == 3) = false := by rw [beq_eq_false_iff_ne]; omega
      have y7b : ((pd.length : Int) == 8) = true := by rw [beq_iff_eq]; omega
      have yn7b : (pd.length == 8) = true := by rw [beq_iff_eq]; omega
      go_enter Tryz.func33, Tryz.ntmps33
      go_wp2_with fail
      refine (HU1.out _).mono ?_
      rintro e w1 ⟨rfl, m1, rfl⟩
      go_wp2_with fail
      refine (HU2.out _).mono ?_
      rintro e w2 ⟨rfl, m2, rfl⟩
      go_wp2_with fail
      refine (HU3.out _).mono ?_
      rintro e w3 ⟨rfl, m3, rfl⟩
      go_wp2_with fail
      refine (HU4.out _).mono ?_
      rintro e w4 ⟨rfl, m4, rfl⟩
      go_wp2_with fail
      refine (HApa.out _).mono ?_
      rintro e w' ⟨rfl, rfl⟩
      go_wp2_with fail
      refine (HApb.out _).mono ?_
      rintro e w' ⟨rfl, rfl⟩
      go_wp2_with fail
      refine (HApd.out _).mono ?_
      rintro e w' ⟨rfl, rfl⟩
      go_wp2
      refine bodyPost_ret (results_block2 (g := w.heap.size) (T := 87) rfl rfl (by exact (((((has_drewN HJ.out _).set 0 _).set 1 _).set 2 _).set 3 _).set 4 _) rfl Tryz.underlying87 rfl (by kernel_rfl)) rfl ?_
      exact SpR.bad (.inr ⟨_, HPS.out, HSH.out⟩) (by repeat' (first | (with_reducible assumption) | (with_reducible refine Below.setCell ?_ ?_ _) | (with_reducible refine Below.alloc ?_ ?_ _) | (with_reducible refine Below.drew ?_) | (with_reducible refine below_drewN ?_ _) | (with_reducible exact Below.refl _ _) | (show _ ≤ _; (try simp); (try omega); done) | exact Below.refl _ _ | assumption))
set_option maxRecDepth 100000 in
set_option maxHeartbeats 4000000 in
theorem rs_t9 (S : List UInt8) (hl : S.length ≤ 16777216) (w : World) (s0 : UInt8) (r0 : List UInt8) (hS : S = s0 :: r0) (hxS : s0 = 40) (pa r1 : List UInt8) (hc1 : cutAt 46 r0 = some (pa, r1)) (pb r2 : List UInt8) (hc2 : cutAt 41 r1 = some (pb, r2)) (y : UInt8) (r3 : List UInt8) (hr2 : r2 = y :: r3) (hxr2 : y = 32) (pc r4 : List UInt8) (hc3 : cutAt 32 r3 = some (pc, r4)) (pd pe : List UInt8) (hc4 : cutAt 35 r4 = some (pd, pe)) (h1 : 0 < pa.length) (h2 : allD 10 pa = true) (h3 : pa.length = 1 ∨ (1 < pa.length ∧ pa.head? ≠ some 48)) (h4 : pb.length = 6) (h5 : allD 10 pb = true) (h6 : 0 < pc.length) (h7 : pd.length = 3 ∨ pd.length = 8) (h8 : allD 16 pd = true) (h9 : pe.length % 2 ≠ 0) :
    Calls Tryz.prog 33 #[.string ⟨S.toArray⟩] w (SpR S w) := by
  have HJ1 := Lib.hid (Has.new w 87 #[.string ⟨#[]⟩, .string ⟨#[]⟩, .string ⟨#[]⟩, .string ⟨#[]⟩, .string ⟨#[]⟩])
  have HJ := Lib.hid (HJ1.out.alloc (.cells #[.string ⟨#[]⟩, .string ⟨#[]⟩, .string ⟨#[]⟩, .string ⟨#[]⟩, .string ⟨#[]⟩] 87))
  clear HJ1
  have l0 : S.length = r0.length + 1 := by rw [hS]; rfl
  have lu1 := cutAt_len hc1
  have lu2 := cutAt_len hc2
  have l3 : r2.length = r3.length + 1 := by rw [hr2]; rfl
  have lu3 := cutAt_len hc3
  have lu4 := cutAt_len hc4
  have HPS : Hid (pieces S = some ⟨pa, pb, pc, pd, pe⟩) := Lib.hid (by rw [hS, hxS, pieces_P0]; unfold P0; rw [hc1]; simp only; unfold P1; rw [hc2]; simp only; rw [hr2]; unfold P2; simp only; rw [if_pos hxr2]; unfold P3; rw [hc3]; unfold P4; simp only; rw [hc4])
  have HSH : Hid (shaped ⟨pa, pb, pc, pd, pe⟩ = false) := Lib.hid (shaped_no (fun h => by obtain ⟨⟨g1, g2, g3⟩, g4, g5, g6, g7, g8, g9, g10⟩ := (shaped_iff _).1 h; simp only at g1 g2 g3 g4 g5 g6 g7 g8 g9 g10; omega))
  have y1 : ((pa.length : Int) == 0) = false := by rw [beq_eq_false_iff_ne]; omega
  have yn1 : (pa.length == 0) = false := by rw [beq_eq_false_iff_ne]; omega
  have ym1 : ¬ pa = [] := fun h => by rw [h] at h1; exact absurd h1 (by decide)
  have y4 : ((pb.length : Int) == 6) = true := by rw [beq_iff_eq]; omega
  have yn4 : (pb.length == 6) = true := by rw [beq_iff_eq]; omega
  have y6 : ((pc.length : Int) == 0) = false := by rw [beq_eq_false_iff_ne]; omega
  have yn6 : (pc.length == 0) = false := by rw [beq_eq_false_iff_ne]; omega
  have ym6 : ¬ pc = [] := fun h => by rw [h] at h6; exact absurd h6 (by decide)
  have y9 : ((pe.length : Int) % 2 == 0) = false := by rw [beq_eq_false_iff_ne]; omega
  have yn9 : (pe.length % 2 == 0) = false := by rw [beq_eq_false_iff_ne]; omega
  have zS : 0 < S.length := by rw [hS]; simp
  obtain ⟨nS, hnS⟩ : ∃ n : Nat, n = s0.toNat := ⟨_, rfl⟩
  have hiS : (((⟨S.toArray⟩ : ByteArray)[0]'(by show 0 < S.toArray.size; simpa using zS)).toNat : Int) = nS := by
    have h : (⟨S.toArray⟩ : ByteArray)[0]'(by show 0 < S.toArray.size; simpa using zS) = S[0] := rfl
    rw [h, hnS]
    simp [hS]
  have eS : ((nS : Int) == 40) = true := by rw [hnS, hxS]; rfl
  have hsS := slice_one s0 r0 S hS (by omega)
  have qS : ((S.length : Int) == 0) = false := by rw [beq_eq_false_iff_ne]; omega
  have qnS : (S.length == 0) = false := by rw [beq_eq_false_iff_ne]; omega
  have qmS : ¬ S = [] := fun h => by rw [h] at zS; exact absurd zS (by decide)
  clear hnS
  have zr2 : 0 < r2.length := by rw [hr2]; simp
  obtain ⟨nr2, hnr2⟩ : ∃ n : Nat, n = y.toNat := ⟨_, rfl⟩
  have hir2 : (((⟨r2.toArray⟩ : ByteArray)[0]'(by show 0 < r2.toArray.size; simpa using zr2)).toNat : Int) = nr2 := by
    have h : (⟨r2.toArray⟩ : ByteArray)[0]'(by show 0 < r2.toArray.size; simpa using zr2) = r2[0] := rfl
    rw [h, hnr2]
    simp [hr2]
  have er2 : ((nr2 : Int) == 32) = true := by rw [hnr2, hxr2]; rfl
  have hsr2 := slice_one y r3 r2 hr2 (by omega)
  have qr2 : ((r2.length : Int) == 0) = false := by rw [beq_eq_false_iff_ne]; omega
  have qnr2 : (r2.length == 0) = false := by rw [beq_eq_false_iff_ne]; omega
  have qmr2 : ¬ r2 = [] := fun h => by rw [h] at zr2; exact absurd zr2 (by decide)
  clear hnr2
  have HU1 : Hid (∀ W, Calls Tryz.prog 69 #[.string ⟨r0.toArray⟩, .int .u8 46] W fun e w' => e = .returned (.tuple #[.string ⟨pa.toArray⟩, .string ⟨r1.toArray⟩, .bool true]) ∧ ∃ n, w' = W.drewN n) := Lib.hid (fun W => upV_yes hc1 (by omega) W)
  have HU2 : Hid (∀ W, Calls Tryz.prog 69 #[.string ⟨r1.toArray⟩, .int .u8 41] W fun e w' => e = .returned (.tuple #[.string ⟨pb.toArray⟩, .string ⟨r2.toArray⟩, .bool true]) ∧ ∃ n, w' = W.drewN n) := Lib.hid (fun W => upV_yes hc2 (by omega) W)
  have HU3 : Hid (∀ W, Calls Tryz.prog 69 #[.string ⟨r3.toArray⟩, .int .u8 32] W fun e w' => e = .returned (.tuple #[.string ⟨pc.toArray⟩, .string ⟨r4.toArray⟩, .bool true]) ∧ ∃ n, w' = W.drewN n) := Lib.hid (fun W => upV_yes hc3 (by omega) W)
  have HU4 : Hid (∀ W, Calls Tryz.prog 69 #[.string ⟨r4.toArray⟩, .int .u8 35] W fun e w' => e = .returned (.tuple #[.string ⟨pd.toArray⟩, .string ⟨pe.toArray⟩, .bool true]) ∧ ∃ n, w' = W.drewN n) := Lib.hid (fun W => upV_yes hc4 (by omega) W)
  have HApa : Hid (∀ W, Calls Tryz.prog 70 #[.string ⟨pa.toArray⟩, .int .i64 10] W fun e w' => e = .returned (.bool true) ∧ W = w') := Lib.hid (fun W => by have h := all_any pa (by omega) 10 W; rw [h2] at h; exact h)
  have HApb : Hid (∀ W, Calls Tryz.prog 70 #[.string ⟨pb.toArray⟩, .int .i64 10] W fun e w' => e = .returned (.bool true) ∧ W = w') := Lib.hid (fun W => by have h := all_any pb (by omega) 10 W; rw [h5] at h; exact h)
  have HApd : Hid (∀ W, Calls Tryz.prog 70 #[.string ⟨pd.toArray⟩, .int .i64 16] W fun e w' => e = .returned (.bool true) ∧ W = w') := Lib.hid (fun W => by have h := all_any pd (by omega) 16 W; rw [h8] at h; exact h)
  clear hS hxS l0
  clear hc1 hc2 hc3 hc4 lu1 lu2 lu3 lu4 l3 hr2 hxr2
  clear h2
  clear h5
  clear h8
  clear hl
  rcases h3 with h3 | ⟨h3, h3b⟩
  · have d3 : decide ((1 : Int) < (pa.length : Int)) = false := by simp; omega
    rcases h7 with h7 | h7
    · have y7 : ((pd.length : Int) == 3) = true := by rw [beq_iff_eq]; omega
      have yn7 : (pd.length == 3) = true := by rw [beq_iff_eq]; omega
      have y7b : ((pd.length : Int) == 8) = false := by rw [beq_eq_false_iff_ne]; omega
      have yn7b : (pd.length == 8) = false := by rw [beq_eq_false_iff_ne]; omega
      go_enter Tryz.func33, Tryz.ntmps33
      go_wp2_with fail
      refine (HU1.out _).mono ?_
      rintro e w1 ⟨rfl, m1, rfl⟩
      go_wp2_with fail
      refine (HU2.out _).mono ?_
      rintro e w2 ⟨rfl, m2, rfl⟩
      go_wp2_with fail
      refine (HU3.out _).mono ?_
      rintro e w3 ⟨rfl, m3, rfl⟩
      go_wp2_with fail
      refine (HU4.out _).mono ?_
      rintro e w4 ⟨rfl, m4, rfl⟩
      go_wp2_with fail
      refine (HApa.out _).mono ?_
      rintro e w' ⟨rfl, rfl⟩
      go_wp2_with fail
      refine (HApb.out _).mono ?_
      rintro e w' ⟨rfl, rfl⟩
      go_wp2_with fail
      refine (HApd.out _).mono ?_
      rintro e w' ⟨rfl, rfl⟩
      go_wp2
      refine bodyPost_ret (results_block2 (g := w.heap.size) (T := 87) rfl rfl (by exact (((((has_drewN HJ.out _).set 0 _).set 1 _).set 2 _).set 3 _).set 4 _) rfl Tryz.underlying87 rfl (by kernel_rfl)) rfl ?_
      exact SpR.bad (.inr ⟨_, HPS.out, HSH.out⟩) (by repeat' (first | (with_reducible assumption) | (with_reducible refine Below.setCell ?_ ?_ _) | (with_reducible refine Below.alloc ?_ ?_ _) | (with_reducible refine Below.drew ?_) | (with_reducible refine below_drewN ?_ _) | (with_reducible exact Below.refl _ _) | (show _ ≤ _; (try simp); (try omega); done) | exact Below.refl _ _ | assumption))
    · have y7 : ((pd.length : Int) == 3) = false := by rw [beq_eq_false_iff_ne]; omega
      have yn7 : (pd.length == 3) = false := by rw [beq_eq_false_iff_ne]; omega
      have y7b : ((pd.length : Int) == 8) = true := by rw [beq_iff_eq]; omega
      have yn7b : (pd.length == 8) = true := by rw [beq_iff_eq]; omega
      go_enter Tryz.func33, Tryz.ntmps33
      go_wp2_with fail
      refine (HU1.out _).mono ?_
      rintro e w1 ⟨rfl, m1, rfl⟩
      go_wp2_with fail
      refine (HU2.out _).mono ?_
      rintro e w2 ⟨rfl, m2, rfl⟩
      go_wp2_with fail
      refine (HU3.out _).mono ?_
      rintro e w3 ⟨rfl, m3, rfl⟩
      go_wp2_with fail
      refine (HU4.out _).mono ?_
      rintro e w4 ⟨rfl, m4, rfl⟩
      go_wp2_with fail
      refine (HApa.out _).mono ?_
      rintro e w' ⟨rfl, rfl⟩
      go_wp2_with fail
      refine (HApb.out _).mono ?_
      rintro e w' ⟨rfl, rfl⟩
      go_wp2_with fail
      refine (HApd.out _).mono ?_
      rintro e w' ⟨rfl, rfl⟩
      go_wp2
      refine bodyPost_ret (results_block2 (g := w.heap.size) (T := 87) rfl rfl (by exact (((((has_drewN HJ.out _).set 0 _).set 1 _).set 2 _).set 3 _).set 4 _) rfl Tryz.underlying87 rfl (by kernel_rfl)) rfl ?_
      exact SpR.bad (.inr ⟨_, HPS.out, HSH.out⟩) (by repeat' (first | (with_reducible assumption) | (with_reducible refine Below.setCell ?_ ?_ _) | (with_reducible refine Below.alloc ?_ ?_ _) | (with_reducible refine Below.drew ?_) | (with_reducible refine below_drewN ?_ _) | (with_reducible exact Below.refl _ _) | (show _ ≤ _; (try simp); (try omega); done) | exact Below.refl _ _ | assumption))
  · obtain ⟨na, hna⟩ : ∃ n : Nat, n = (pa[0]'(by omega)).toNat := ⟨_, rfl⟩
    have hia : (((⟨pa.toArray⟩ : ByteArray)[0]'(by show 0 < pa.toArray.size; simp; omega)).toNat : Int) = na := by rw [hna]; rfl
    have ea : ((na : Int) == 48) = false := by
      rw [hna]
      rw [beq_eq_false_iff_ne]
      intro h
      exact h3b (by rw [List.head?_eq_getElem?, List.getElem?_eq_getElem (by omega)]; exact congrArg some (UInt8.toNat_inj.1 (Int.ofNat.inj h)))
    clear hna
    have d3 : decide ((1 : Int) < (pa.length : Int)) = true := by simp; omega
    clear h3b
    rcases h7 with h7 | h7
    · have y7 : ((pd.length : Int) == 3) = true := by rw [beq_iff_eq]; omega
      have yn7 : (pd.length == 3) = true := by rw [beq_iff_eq]; omega
      have y7b : ((pd.length : Int) == 8) = false := by rw [beq_eq_false_iff_ne]; omega
      have yn7b : (pd.length == 8) = false := by rw [beq_eq_false_iff_ne]; omega
      go_enter Tryz.func33, Tryz.ntmps33
      go_wp2_with fail
      refine (HU1.out _).mono ?_
      rintro e w1 ⟨rfl, m1, rfl⟩
      go_wp2_with fail
      refine (HU2.out _).mono ?_
      rintro e w2 ⟨rfl, m2, rfl⟩
      go_wp2_with fail
      refine (HU3.out _).mono ?_
      rintro e w3 ⟨rfl, m3, rfl⟩
      go_wp2_with fail
      refine (HU4.out _).mono ?_
      rintro e w4 ⟨rfl, m4, rfl⟩
      go_wp2_with fail
      refine (HApa.out _).mono ?_
      rintro e w' ⟨rfl, rfl⟩
      go_wp2_with fail
      refine (HApb.out _).mono ?_
      rintro e w' ⟨rfl, rfl⟩
      go_wp2_with fail
      refine (HApd.out _).mono ?_
      rintro e w' ⟨rfl, rfl⟩
      go_wp2
      refine bodyPost_ret (results_block2 (g := w.heap.size) (T := 87) rfl rfl (by exact (((((has_drewN HJ.out _).set 0 _).set 1 _).set 2 _).set 3 _).set 4 _) rfl Tryz.underlying87 rfl (by kernel_rfl)) rfl ?_
      exact SpR.bad (.inr ⟨_, HPS.out, HSH.out⟩) (by repeat' (first | (with_reducible assumption) | (with_reducible refine Below.setCell ?_ ?_ _) | (with_reducible refine Below.alloc ?_ ?_ _) | (with_reducible refine Below.drew ?_) | (with_reducible refine below_drewN ?_ _) | (with_reducible exact Below.refl _ _) | (show _ ≤ _; (try simp); (try omega); done) | exact Below.refl _ _ | assumption))
    · have y7 : ((pd.length : Int) == 3) = false := by rw [beq_eq_false_iff_ne]; omega
      have yn7 : (pd.length == 3) = false := by rw [beq_eq_false_iff_ne]; omega
      have y7b : ((pd.length : Int) == 8) = true := by rw [beq_iff_eq]; omega
      have yn7b : (pd.length == 8) = true := by rw [beq_iff_eq]; omega
      go_enter Tryz.func33, Tryz.ntmps33
      go_wp2_with fail
      refine (HU1.out _).mono ?_
      rintro e w1 ⟨rfl, m1, rfl⟩
      go_wp2_with fail
      refine (HU2.out _).mono ?_
      rintro e w2 ⟨rfl, m2, rfl⟩
      go_wp2_with fail
      refine (HU3.out _).mono ?_
      rintro e w3 ⟨rfl, m3, rfl⟩
      go_wp2_with fail
      refine (HU4.out _).mono ?_
      rintro e w4 ⟨rfl, m4, rfl⟩
      go_wp2_with fail
      refine (HApa.out _).mono ?_
      rintro e w' ⟨rfl, rfl⟩
      go_wp2_with fail
      refine (HApb.out _).mono ?_
      rintro e w' ⟨rfl, rfl⟩
      go_wp2_with fail
      refine (HApd.out _).mono ?_
      rintro e w' ⟨rfl, rfl⟩
      go_wp2
      refine bodyPost_ret (results_block2 (g := w.heap.size) (T := 87) rfl rfl (by exact (((((has_drewN HJ.out _).set 0 _).set 1 _).set 2 _).set 3 _).set 4 _) rfl Tryz.underlying87 rfl (by kernel_rfl)) rfl ?_
      exact SpR.bad (.inr ⟨_, HPS.out, HSH.out⟩) (by repeat' (first | (with_reducible assumption) | (with_reducible refine Below.setCell ?_ ?_ _) | (with_reducible refine Below.alloc ?_ ?_ _) | (with_reducible refine Below.drew ?_) | (with_reducible refine below_drewN ?_ _) | (with_reducible exact Below.refl _ _) | (show _ ≤ _; (try simp); (try omega); done) | exact Below.refl _ _ | assumption))
set_option maxRecDepth 100000 in
set_option maxHeartbeats 4000000 in
theorem rs_t10 (S : List UInt8) (hl : S.length ≤ 16777216) (w : World) (s0 : UInt8) (r0 : List UInt8) (hS : S = s0 :: r0) (hxS : s0 = 40) (pa r1 : List UInt8) (hc1 : cutAt 46 r0 = some (pa, r1)) (pb r2 : List UInt8) (hc2 : cutAt 41 r1 = some (pb, r2)) (y : UInt8) (r3 : List UInt8) (hr2 : r2 = y :: r3) (hxr2 : y = 32) (pc r4 : List UInt8) (hc3 : cutAt 32 r3 = some (pc, r4)) (pd pe : List UInt8) (hc4 : cutAt 35 r4 = some (pd, pe)) (h1 : 0 < pa.length) (h2 : allD 10 pa = true) (h3 : pa.length = 1 ∨ (1 < pa.length ∧ pa.head? ≠ some 48)) (h4 : pb.length = 6) (h5 : allD 10 pb = true) (h6 : 0 < pc.length) (h7 : pd.length = 3 ∨ pd.length = 8) (h8 : allD 16 pd = true) (h9 : pe.length % 2 = 0) (h10 : allD 16 pe = false) :
    Calls Tryz.prog 33 #[.string ⟨S.toArray⟩] w (SpR S w) := by
  have HJ1 := Lib.hid (Has.new w 87 #[.string ⟨#[]⟩, .string ⟨#[]⟩, .string ⟨#[]⟩, .string ⟨#[]⟩, .string ⟨#[]⟩])
  have HJ := Lib.hid (HJ1.out.alloc (.cells #[.string ⟨#[]⟩, .string ⟨#[]⟩, .string ⟨#[]⟩, .string ⟨#[]⟩, .string ⟨#[]⟩] 87))
  clear HJ1
  have l0 : S.length = r0.length + 1 := by rw [hS]; rfl
  have lu1 := cutAt_len hc1
  have lu2 := cutAt_len hc2
  have l3 : r2.length = r3.length + 1 := by rw [hr2]; rfl
  have lu3 := cutAt_len hc3
  have lu4 := cutAt_len hc4
  have HPS : Hid (pieces S = some ⟨pa, pb, pc, pd, pe⟩) := Lib.hid (by rw [hS, hxS, pieces_P0]; unfold P0; rw [hc1]; simp only; unfold P1; rw [hc2]; simp only; rw [hr2]; unfold P2; simp only; rw [if_pos hxr2]; unfold P3; rw [hc3]; unfold P4; simp only; rw [hc4])
  have HSH : Hid (shaped ⟨pa, pb, pc, pd, pe⟩ = false) := Lib.hid (shaped_no (fun h => by obtain ⟨⟨g1, g2, g3⟩, g4, g5, g6, g7, g8, g9, g10⟩ := (shaped_iff _).1 h; simp only at g1 g2 g3 g4 g5 g6 g7 g8 g9 g10; rw [h10] at g10; cases g10))
  have y1 : ((pa.length : Int) == 0) = false := by rw [beq_eq_false_iff_ne]; omega
  have yn1 : (pa.length == 0) = false := by rw [beq_eq_false_iff_ne]; omega
  have ym1 : ¬ pa = [] := fun h => by rw [h] at h1; exact absurd h1 (by decide)
  have y4 : ((pb.length : Int) == 6) = true := by rw [beq_iff_eq]; omega
  have yn4 : (pb.length == 6) = true := by rw [beq_iff_eq]; omega
  have y6 : ((pc.length : Int) == 0) = false := by rw [beq_eq_false_iff_ne]; omega
  have yn6 : (pc.length == 0) = false := by rw [beq_eq_false_iff_ne]; omega
  have ym6 : ¬ pc = [] := fun h => by rw [h] at h6; exact absurd h6 (by decide)
  have y9 : ((pe.length : Int) % 2 == 0) = true := by rw [beq_iff_eq]; omega
  have yn9 : (pe.length % 2 == 0) = true := by rw [beq_iff_eq]; omega
  have zS : 0 < S.length := by rw [hS]; simp
  obtain ⟨nS, hnS⟩ : ∃ n : Nat, n = s0.toNat := ⟨_, rfl⟩
  have hiS : (((⟨S.toArray⟩ : ByteArray)[0]'(by show 0 < S.toArray.size; simpa using zS)).toNat : Int) = nS := by
    have h : (⟨S.toArray⟩ : ByteArray)[0]'(by show 0 < S.toArray.size; simpa using zS) = S[0] := rfl
    rw [h, hnS]
    simp [hS]
  have eS : ((nS : Int) == 40) = true := by rw [hnS, hxS]; rfl
  have hsS := slice_one s0 r0 S hS (by omega)
  have qS : ((S.length : Int) == 0) = false := by rw [beq_eq_false_iff_ne]; omega
  have qnS : (S.length == 0) = false := by rw [beq_eq_false_iff_ne]; omega
  have qmS : ¬ S = [] := fun h => by rw [h] at zS; exact absurd zS (by decide)
  clear hnS
  have zr2 : 0 < r2.length := by rw [hr2]; simp
  obtain ⟨nr2, hnr2⟩ : ∃ n : Nat, n = y.toNat := ⟨_, rfl⟩
  have hir2 : (((⟨r2.toArray⟩ : ByteArray)[0]'(by show 0 < r2.toArray.size; simpa using zr2)).toNat : Int) = nr2 := by
    have h : (⟨r2.toArray⟩ : ByteArray)[0]'(by show 0 < r2.toArray.size; simpa using zr2) = r2[0] := rfl
    rw [h, hnr2]
    simp [hr2]
  have er2 : ((nr2 : Int) == 32) = true := by rw [hnr2, hxr2]; rfl
  have hsr2 := slice_one y r3 r2 hr2 (by omega)
  have qr2 : ((r2.length : Int) == 0) = false := by rw [beq_eq_false_iff_ne]; omega
  have qnr2 : (r2.length == 0) = false := by rw [beq_eq_false_iff_ne]; omega
  have qmr2 : ¬ r2 = [] := fun h => by rw [h] at zr2; exact absurd zr2 (by decide)
  clear hnr2
  have HU1 : Hid (∀ W, Calls Tryz.prog 69 #[.string ⟨r0.toArray⟩, .int .u8 46] W fun e w' => e = .returned (.tuple #[.string ⟨pa.toArray⟩, .string ⟨r1.toArray⟩, .bool true]) ∧ ∃ n, w' = W.drewN n) := Lib.hid (fun W => upV_yes hc1 (by omega) W)
  have HU2 : Hid (∀ W, Calls Tryz.prog 69 #[.string ⟨r1.toArray⟩, .int .u8 41] W fun e w' => e = .returned (.tuple #[.string ⟨pb.toArray⟩, .string ⟨r2.toArray⟩, .bool true]) ∧ ∃ n, w' = W.drewN n) := Lib.hid (fun W => upV_yes hc2 (by omega) W)
  have HU3 : Hid (∀ W, Calls Tryz.prog 69 #[.string ⟨r3.toArray⟩, .int .u8 32] W fun e w' => e = .returned (.tuple #[.string ⟨pc.toArray⟩, .string ⟨r4.toArray⟩, .bool true]) ∧ ∃ n, w' = W.drewN n) := Lib.hid (fun W => upV_yes hc3 (by omega) W)
  have HU4 : Hid (∀ W, Calls Tryz.prog 69 #[.string ⟨r4.toArray⟩, .int .u8 35] W fun e w' => e = .returned (.tuple #[.string ⟨pd.toArray⟩, .string ⟨pe.toArray⟩, .bool true]) ∧ ∃ n, w' = W.drewN n) := Lib.hid (fun W => upV_yes hc4 (by omega) W)
  have HApa : Hid (∀ W, Calls Tryz.prog 70 #[.string ⟨pa.toArray⟩, .int .i64 10] W fun e w' => e = .returned (.bool true) ∧ W = w') := Lib.hid (fun W => by have h := all_any pa (by omega) 10 W; rw [h2] at h; exact h)
  have HApb : Hid (∀ W, Calls Tryz.prog 70 #[.string ⟨pb.toArray⟩, .int .i64 10] W fun e w' => e = .returned (.bool true) ∧ W = w') := Lib.hid (fun W => by have h := all_any pb (by omega) 10 W; rw [h5] at h; exact h)
  have HApd : Hid (∀ W, Calls Tryz.prog 70 #[.string ⟨pd.toArray⟩, .int .i64 16] W fun e w' => e = .returned (.bool true) ∧ W = w') := Lib.hid (fun W => by have h := all_any pd (by omega) 16 W; rw [h8] at h; exact h)
  have HApe : Hid (∀ W, Calls Tryz.prog 70 #[.string ⟨pe.toArray⟩, .int .i64 16] W fun e w' => e = .returned (.bool false) ∧ W = w') := Lib.hid (fun W => by have h := all_any pe (by omega) 16 W; rw [h10] at h; exact h)
  clear hS hxS l0
  clear hc1 hc2 hc3 hc4 lu1 lu2 lu3 lu4 l3 hr2 hxr2
  clear h2
  clear h5
  clear h8
  clear h10
  clear hl
  rcases h3 with h3 | ⟨h3, h3b⟩
  · have d3 : decide ((1 : Int) < (pa.length : Int)) = false := by simp; omega
    rcases h7 with h7 | h7
    · have y7 : ((pd.length : Int) == 3) = true := by rw [beq_iff_eq]; omega
      have yn7 : (pd.length == 3) = true := by rw [beq_iff_eq]; omega
      have y7b : ((pd.length : Int) == 8) = false := by rw [beq_eq_false_iff_ne]; omega
      have yn7b : (pd.length == 8) = false := by rw [beq_eq_false_iff_ne]; omega
      go_enter Tryz.func33, Tryz.ntmps33
      go_wp2_with fail
      refine (HU1.out _).mono ?_
      rintro e w1 ⟨rfl, m1, rfl⟩
      go_wp2_with fail
      refine (HU2.out _).mono ?_
      rintro e w2 ⟨rfl, m2, rfl⟩
      go_wp2_with fail
      refine (HU3.out _).mono ?_
      rintro e w3 ⟨rfl, m3, rfl⟩
      go_wp2_with fail
      refine (HU4.out _).mono ?_
      rintro e w4 ⟨rfl, m4, rfl⟩
      go_wp2_with fail
      refine (HApa.out _).mono ?_
      rintro e w' ⟨rfl, rfl⟩
      go_wp2_with fail
      refine (HApb.out _).mono ?_
      rintro e w' ⟨rfl, rfl⟩
      go_wp2_with fail
      refine (HApd.out _).mono ?_
      rintro e w' ⟨rfl, rfl⟩
      go_wp2_with fail
      refine (HApe.out _).mono ?_
      rintro e w' ⟨rfl, rfl⟩
      go_wp2
      refine bodyPost_ret (results_block2 (g := w.heap.size) (T := 87) rfl rfl (by exact (((((has_drewN HJ.out _).set 0 _).set 1 _).set 2 _).set 3 _).set 4 _) rfl Tryz.underlying87 rfl (by kernel_rfl)) rfl ?_
      exact SpR.bad (.inr ⟨_, HPS.out, HSH.out⟩) (by repeat' (first | (with_reducible assumption) | (with_reducible refine Below.setCell ?_ ?_ _) | (with_reducible refine Below.alloc ?_ ?_ _) | (with_reducible refine Below.drew ?_) | (with_reducible refine below_drewN ?_ _) | (with_reducible exact Below.refl _ _) | (show _ ≤ _; (try simp); (try omega); done) | exact Below.refl _ _ | assumption))
    · have y7 : ((pd.length : Int) == 3) = false := by rw [beq_eq_false_iff_ne]; omega
      have yn7 : (pd.length == 3) = false := by rw [beq_eq_false_iff_ne]; omega
      have y7b : ((pd.length : Int) == 8) = true := by rw [beq_iff_eq]; omega
      have yn7b : (pd.length == 8) = true := by rw [beq_iff_eq]; omega
      go_enter Tryz.func33, Tryz.ntmps33
      go_wp2_with fail
      refine (HU1.out _).mono ?_
      rintro e w1 ⟨rfl, m1, rfl⟩
      go_wp2_with fail
      refine (HU2.out _).mono ?_
      rintro e w2 ⟨rfl, m2, rfl⟩
      go_wp2_with fail
      refine (HU3.out _).mono ?_
      rintro e w3 ⟨rfl, m3, rfl⟩
      go_wp2_with fail
      refine (HU4.out _).mono ?_
      rintro e w4 ⟨rfl, m4, rfl⟩
      go_wp2_with fail
      refine (HApa.out _).mono ?_
      rintro e w' ⟨rfl, rfl⟩
      go_wp2_with fail
      refine (HApb.out _).mono ?_
      rintro e w' ⟨rfl, rfl⟩
      go_wp2_with fail
      refine (HApd.out _).mono ?_
      rintro e w' ⟨rfl, rfl⟩
      go_wp2_with fail
      refine (HApe.out _).mono ?_
      rintro e w' ⟨rfl, rfl⟩
      go_wp2
      refine bodyPost_ret (results_block2 (g := w.heap.size) (T := 87) rfl rfl (by exact (((((has_drewN HJ.out _).set 0 _).set 1 _).set 2 _).set 3 _).set 4 _) rfl Tryz.underlying87 rfl (by kernel_rfl)) rfl ?_
      exact SpR.bad (.inr ⟨_, HPS.out, HSH.out⟩) (by repeat' (first | (with_reducible assumption) | (with_reducible refine Below.setCell ?_ ?_ _) | (with_reducible refine Below.alloc ?_ ?_ _) | (with_reducible refine Below.drew ?_) | (with_reducible refine below_drewN ?_ _) | (with_reducible exact Below.refl _ _) | (show _ ≤ _; (try simp); (try omega); done) | exact Below.refl _ _ | assumption))
  · obtain ⟨na, hna⟩ : ∃ n : Nat, n = (pa[0]'(by omega)).toNat := ⟨_, rfl⟩
    have hia : (((⟨pa.toArray⟩ : ByteArray)[0]'(by show 0 < pa.toArray.size; simp; omega)).toNat : Int) = na := by rw [hna]; rfl
    have ea : ((na : Int) == 48) = false := by
      rw [hna]
      rw [beq_eq_false_iff_ne]
      intro h
      exact h3b (by rw [List.head?_eq_getElem?, List.getElem?_eq_getElem (by omega)]; exact congrArg some (UInt8.toNat_inj.1 (Int.ofNat.inj h)))
    clear hna
    have d3 : decide ((1 : Int) < (pa.length : Int)) = true := by simp; omega
    clear h3b
    rcases h7 with h7 | h7
    · have y7 : ((pd.length : Int) == 3) = true := by rw [beq_iff_eq]; omega
      have yn7 : (pd.length == 3) = true := by rw [beq_iff_eq]; omega
      have y7b : ((pd.length : Int) == 8) = false := by rw [beq_eq_false_iff_ne]; omega
      have yn7b : (pd.length == 8) = false := by rw [beq_eq_false_iff_ne]; omega
      go_enter Tryz.func33, Tryz.ntmps33
      go_wp2_with fail
      refine (HU1.out _).mono ?_
      rintro e w1 ⟨rfl, m1, rfl⟩
      go_wp2_with fail
      refine (HU2.out _).mono ?_
      rintro e w2 ⟨rfl, m2, rfl⟩
      go_wp2_with fail
      refine (HU3.out _).mono ?_
      rintro e w3 ⟨rfl, m3, rfl⟩
      go_wp2_with fail
      refine (HU4.out _).mono ?_
      rintro e w4 ⟨rfl, m4, rfl⟩
      go_wp2_with fail
      refine (HApa.out _).mono ?_
      rintro e w' ⟨rfl, rfl⟩
      go_wp2_with fail
      refine (HApb.out _).mono ?_
      rintro e w' ⟨rfl, rfl⟩
      go_wp2_with fail
      refine (HApd.out _).mono ?_
      rintro e w' ⟨rfl, rfl⟩
      go_wp2_with fail
      refine (HApe.out _).mono ?_
      rintro e w' ⟨rfl, rfl⟩
      go_wp2
      refine bodyPost_ret (results_block2 (g := w.heap.size) (T := 87) rfl rfl (by exact (((((has_drewN HJ.out _).set 0 _).set 1 _).set 2 _).set 3 _).set 4 _) rfl Tryz.underlying87 rfl (by kernel_rfl)) rfl ?_
      exact SpR.bad (.inr ⟨_, HPS.out, HSH.out⟩) (by repeat' (first | (with_reducible assumption) | (with_reducible refine Below.setCell ?_ ?_ _) | (with_reducible refine Below.alloc ?_ ?_ _) | (with_reducible refine Below.drew ?_) | (with_reducible refine below_drewN ?_ _) | (with_reducible exact Below.refl _ _) | (show _ ≤ _; (try simp); (try omega); done) | exact Below.refl _ _ | assumption))
    · have y7 : ((pd.length : Int) == 3) = false := by rw [beq_eq_false_iff_ne]; omega
      have yn7 : (pd.length == 3) = false := by rw [beq_eq_false_iff_ne]; omega
      have y7b : ((pd.length : Int) == 8) = true := by rw [beq_iff_eq]; omega
      have yn7b : (pd.length == 8) = true := by rw [beq_iff_eq]; omega
      go_enter Tryz.func33, Tryz.ntmps33
      go_wp2_with fail
      refine (HU1.out _).mono ?_
      rintro e w1 ⟨rfl, m1, rfl⟩
      go_wp2_with fail
      refine (HU2.out _).mono ?_
      rintro e w2 ⟨rfl, m2, rfl⟩
      go_wp2_with fail
      refine (HU3.out _).mono ?_
      rintro e w3 ⟨rfl, m3, rfl⟩
      go_wp2_with fail
      refine (HU4.out _).mono ?_
      rintro e w4 ⟨rfl, m4, rfl⟩
      go_wp2_with fail
      refine (HApa.out _).mono ?_
      rintro e w' ⟨rfl, rfl⟩
      go_wp2_with fail
      refine (HApb.out _).mono ?_
      rintro e w' ⟨rfl, rfl⟩
      go_wp2_with fail
      refine (HApd.out _).mono ?_
      rintro e w' ⟨rfl, rfl⟩
      go_wp2_with fail
      refine (HApe.out _).mono ?_
      rintro e w' ⟨rfl, rfl⟩
      go_wp2
      refine bodyPost_ret (results_block2 (g := w.heap.size) (T := 87) rfl rfl (by exact (((((has_drewN HJ.out _).set 0 _).set 1 _).set 2 _).set 3 _).set 4 _) rfl Tryz.underlying87 rfl (by kernel_rfl)) rfl ?_
      exact SpR.bad (.inr ⟨_, HPS.out, HSH.out⟩) (by repeat' (first | (with_reducible assumption) | (with_reducible refine Below.setCell ?_ ?_ _) | (with_reducible refine Below.alloc ?_ ?_ _) | (with_reducible refine Below.drew ?_) | (with_reducible refine below_drewN ?_ _) | (with_reducible exact Below.refl _ _) | (show _ ≤ _; (try simp); (try omega); done) | exact Below.refl _ _ | assumption))
set_option maxRecDepth 100000 in
set_option maxHeartbeats 4000000 in
theorem rs_t11 (S : List UInt8) (hl : S.length ≤ 16777216) (w : World) (s0 : UInt8) (r0 : List UInt8) (hS : S = s0 :: r0) (hxS : s0 = 40) (pa r1 : List UInt8) (hc1 : cutAt 46 r0 = some (pa, r1)) (pb r2 : List UInt8) (hc2 : cutAt 41 r1 = some (pb, r2)) (y : UInt8) (r3 : List UInt8) (hr2 : r2 = y :: r3) (hxr2 : y = 32) (pc r4 : List UInt8) (hc3 : cutAt 32 r3 = some (pc, r4)) (pd pe : List UInt8) (hc4 : cutAt 35 r4 = some (pd, pe)) (h1 : 0 < pa.length) (h2 : allD 10 pa = true) (h3 : pa.length = 1 ∨ (1 < pa.length ∧ pa.head? ≠ some 48)) (h4 : pb.length = 6) (h5 : allD 10 pb = true) (h6 : 0 < pc.length) (h7 : pd.length = 3 ∨ pd.length = 8) (h8 : allD 16 pd = true) (h9 : pe.length % 2 = 0) (h10 : allD 16 pe = true) :
    Calls Tryz.prog 33 #[.string ⟨S.toArray⟩] w (SpR S w) := by
  have HJ1 := Lib.hid (Has.new w 87 #[.string ⟨#[]⟩, .string ⟨#[]⟩, .string ⟨#[]⟩, .string ⟨#[]⟩, .string ⟨#[]⟩])
  have HJ := Lib.hid (HJ1.out.alloc (.cells #[.string ⟨#[]⟩, .string ⟨#[]⟩, .string ⟨#[]⟩, .string ⟨#[]⟩, .string ⟨#[]⟩] 87))
  clear HJ1
  have l0 : S.length = r0.length + 1 := by rw [hS]; rfl
  have lu1 := cutAt_len hc1
  have lu2 := cutAt_len hc2
  have l3 : r2.length = r3.length + 1 := by rw [hr2]; rfl
  have lu3 := cutAt_len hc3
  have lu4 := cutAt_len hc4
  have HPS : Hid (pieces S = some ⟨pa, pb, pc, pd, pe⟩) := Lib.hid (by rw [hS, hxS, pieces_P0]; unfold P0; rw [hc1]; simp only; unfold P1; rw [hc2]; simp only; rw [hr2]; unfold P2; simp only; rw [if_pos hxr2]; unfold P3; rw [hc3]; unfold P4; simp only; rw [hc4])
  have HSH : Hid (shaped ⟨pa, pb, pc, pd, pe⟩ = true) := Lib.hid ((shaped_iff _).2 ⟨⟨h1, h2, h3.imp id (fun h => h.2)⟩, h4, h5, h6, h7, h8, h9, h10⟩)
  have y1 : ((pa.length : Int) == 0) = false := by rw [beq_eq_false_iff_ne]; omega
  have yn1 : (pa.length == 0) = false := by rw [beq_eq_false_iff_ne]; omega
  have ym1 : ¬ pa = [] := fun h => by rw [h] at h1; exact absurd h1 (by decide)
  have y4 : ((pb.length : Int) == 6) = true := by rw [beq_iff_eq]; omega
  have yn4 : (pb.length == 6) = true := by rw [beq_iff_eq]; omega
  have y6 : ((pc.length : Int) == 0) = false := by rw [beq_eq_false_iff_ne]; omega
  have yn6 : (pc.length == 0) = false := by rw [beq_eq_false_iff_ne]; omega
  have ym6 : ¬ pc = [] := fun h => by rw [h] at h6; exact absurd h6 (by decide)
  have y9 : ((pe.length : Int) % 2 == 0) = true := by rw [beq_iff_eq]; omega
  have yn9 : (pe.length % 2 == 0) = true := by rw [beq_iff_eq]; omega
  have zS : 0 < S.length := by rw [hS]; simp
  obtain ⟨nS, hnS⟩ : ∃ n : Nat, n = s0.toNat := ⟨_, rfl⟩
  have hiS : (((⟨S.toArray⟩ : ByteArray)[0]'(by show 0 < S.toArray.size; simpa using zS)).toNat : Int) = nS := by
    have h : (⟨S.toArray⟩ : ByteArray)[0]'(by show 0 < S.toArray.size; simpa using zS) = S[0] := rfl
    rw [h, hnS]
    simp [hS]
  have eS : ((nS : Int) == 40) = true := by rw [hnS, hxS]; rfl
  have hsS := slice_one s0 r0 S hS (by omega)
  have qS : ((S.length : Int) == 0) = false := by rw [beq_eq_false_iff_ne]; omega
  have qnS : (S.length == 0) = false := by rw [beq_eq_false_iff_ne]; omega
  have qmS : ¬ S = [] := fun h => by rw [h] at zS; exact absurd zS (by decide)
  clear hnS
  have zr2 : 0 < r2.length := by rw [hr2]; simp
  obtain ⟨nr2, hnr2⟩ : ∃ n : Nat, n = y.toNat := ⟨_, rfl⟩
  have hir2 : (((⟨r2.toArray⟩ : ByteArray)[0]'(by show 0 < r2.toArray.size; simpa using zr2)).toNat : Int) = nr2 := by
    have h : (⟨r2.toArray⟩ : ByteArray)[0]'(by show 0 < r2.toArray.size; simpa using zr2) = r2[0] := rfl
    rw [h, hnr2]
    simp [hr2]
  have er2 : ((nr2 : Int) == 32) = true := by rw [hnr2, hxr2]; rfl
  have hsr2 := slice_one y r3 r2 hr2 (by omega)
  have qr2 : ((r2.length : Int) == 0) = false := by rw [beq_eq_false_iff_ne]; omega
  have qnr2 : (r2.length == 0) = false := by rw [beq_eq_false_iff_ne]; omega
  have qmr2 : ¬ r2 = [] := fun h => by rw [h] at zr2; exact absurd zr2 (by decide)
  clear hnr2
  have HU1 : Hid (∀ W, Calls Tryz.prog 69 #[.string ⟨r0.toArray⟩, .int .u8 46] W fun e w' => e = .returned (.tuple #[.string ⟨pa.toArray⟩, .string ⟨r1.toArray⟩, .bool true]) ∧ ∃ n, w' = W.drewN n) := Lib.hid (fun W => upV_yes hc1 (by omega) W)
  have HU2 : Hid (∀ W, Calls Tryz.prog 69 #[.string ⟨r1.toArray⟩, .int .u8 41] W fun e w' => e = .returned (.tuple #[.string ⟨pb.toArray⟩, .string ⟨r2.toArray⟩, .bool true]) ∧ ∃ n, w' = W.drewN n) := Lib.hid (fun W => upV_yes hc2 (by omega) W)
  have HU3 : Hid (∀ W, Calls Tryz.prog 69 #[.string ⟨r3.toArray⟩, .int .u8 32] W fun e w' => e = .returned (.tuple #[.string ⟨pc.toArray⟩, .string ⟨r4.toArray⟩, .bool true]) ∧ ∃ n, w' = W.drewN n) := Lib.hid (fun W => upV_yes hc3 (by omega) W)
  have HU4 : Hid (∀ W, Calls Tryz.prog 69 #[.string ⟨r4.toArray⟩, .int .u8 35] W fun e w' => e = .returned (.tuple #[.string ⟨pd.toArray⟩, .string ⟨pe.toArray⟩, .bool true]) ∧ ∃ n, w' = W.drewN n) := Lib.hid (fun W => upV_yes hc4 (by omega) W)
  have HApa : Hid (∀ W, Calls Tryz.prog 70 #[.string ⟨pa.toArray⟩, .int .i64 10] W fun e w' => e = .returned (.bool true) ∧ W = w') := Lib.hid (fun W => by have h := all_any pa (by omega) 10 W; rw [h2] at h; exact h)
  have HApb : Hid (∀ W, Calls Tryz.prog 70 #[.string ⟨pb.toArray⟩, .int .i64 10] W fun e w' => e = .returned (.bool true) ∧ W = w') := Lib.hid (fun W => by have h := all_any pb (by omega) 10 W; rw [h5] at h; exact h)
  have HApd : Hid (∀ W, Calls Tryz.prog 70 #[.string ⟨pd.toArray⟩, .int .i64 16] W fun e w' => e = .returned (.bool true) ∧ W = w') := Lib.hid (fun W => by have h := all_any pd (by omega) 16 W; rw [h8] at h; exact h)
  have HApe : Hid (∀ W, Calls Tryz.prog 70 #[.string ⟨pe.toArray⟩, .int .i64 16] W fun e w' => e = .returned (.bool true) ∧ W = w') := Lib.hid (fun W => by have h := all_any pe (by omega) 16 W; rw [h10] at h; exact h)
  clear hS hxS l0
  clear hc1 hc2 hc3 hc4 lu1 lu2 lu3 lu4 l3 hr2 hxr2
  clear h2
  clear h5
  clear h8
  clear h10
  clear hl
  rcases h3 with h3 | ⟨h3, h3b⟩
  · have d3 : decide ((1 : Int) < (pa.length : Int)) = false := by simp; omega
    rcases h7 with h7 | h7
    · have y7 : ((pd.length : Int) == 3) = true := by rw [beq_iff_eq]; omega
      have yn7 : (pd.length == 3) = true := by rw [beq_iff_eq]; omega
      have y7b : ((pd.length : Int) == 8) = false := by rw [beq_eq_false_iff_ne]; omega
      have yn7b : (pd.length == 8) = false := by rw [beq_eq_false_iff_ne]; omega
      go_enter Tryz.func33, Tryz.ntmps33
      go_wp2_with fail
      refine (HU1.out _).mono ?_
      rintro e w1 ⟨rfl, m1, rfl⟩
      go_wp2_with fail
      refine (HU2.out _).mono ?_
      rintro e w2 ⟨rfl, m2, rfl⟩
      go_wp2_with fail
      refine (HU3.out _).mono ?_
      rintro e w3 ⟨rfl, m3, rfl⟩
      go_wp2_with fail
      refine (HU4.out _).mono ?_
      rintro e w4 ⟨rfl, m4, rfl⟩
      go_wp2_with fail
      refine (HApa.out _).mono ?_
      rintro e w' ⟨rfl, rfl⟩
      go_wp2_with fail
      refine (HApb.out _).mono ?_
      rintro e w' ⟨rfl, rfl⟩
      go_wp2_with fail
      refine (HApd.out _).mono ?_
      rintro e w' ⟨rfl, rfl⟩
      go_wp2_with fail
      refine (HApe.out _).mono ?_
      rintro e w' ⟨rfl, rfl⟩
      go_wp2
      refine bodyPost_ret (results_block2 (g := w.heap.size) (T := 87) rfl rfl (by exact (((((has_drewN HJ.out _).set 0 _).set 1 _).set 2 _).set 3 _).set 4 _) rfl Tryz.underlying87 rfl (by kernel_rfl)) rfl ?_
      exact SpR.good HPS.out HSH.out (by repeat' (first | (with_reducible assumption) | (with_reducible refine Below.setCell ?_ ?_ _) | (with_reducible refine Below.alloc ?_ ?_ _) | (with_reducible refine Below.drew ?_) | (with_reducible refine below_drewN ?_ _) | (with_reducible exact Below.refl _ _) | (show _ ≤ _; (try simp); (try omega); done) | exact Below.refl _ _ | assumption))
    · have y7 : ((pd.length : Int) == 3) = false := by rw [beq_eq_false_iff_ne]; omega
      have yn7 : (pd.length == 3) = false := by rw [beq_eq_false_iff_ne]; omega
      have y7b : ((pd.length : Int) == 8) = true := by rw [beq_iff_eq]; omega
      have yn7b : (pd.length == 8) = true := by rw [beq_iff_eq]; omega
      go_enter Tryz.func33, Tryz.ntmps33
      go_wp2_with fail
      refine (HU1.out _).mono ?_
      rintro e w1 ⟨rfl, m1, rfl⟩
      go_wp2_with fail
      refine (HU2.out _).mono ?_
      rintro e w2 ⟨rfl, m2, rfl⟩
      go_wp2_with fail
      refine (HU3.out _).mono ?_
      rintro e w3 ⟨rfl, m3, rfl⟩
      go_wp2_with fail
      refine (HU4.out _).mono ?_
      rintro e w4 ⟨rfl, m4, rfl⟩
      go_wp2_with fail
      refine (HApa.out _).mono ?_
      rintro e w' ⟨rfl, rfl⟩
      go_wp2_with fail
      refine (HApb.out _).mono ?_
      rintro e w' ⟨rfl, rfl⟩
      go_wp2_with fail
      refine (HApd.out _).mono ?_
      rintro e w' ⟨rfl, rfl⟩
      go_wp2_with fail
      refine (HApe.out _).mono ?_
      rintro e w' ⟨rfl, rfl⟩
      go_wp2
      refine bodyPost_ret (results_block2 (g := w.heap.size) (T := 87) rfl rfl (by exact (((((has_drewN HJ.out _).set 0 _).set 1 _).set 2 _).set 3 _).set 4 _) rfl Tryz.underlying87 rfl (by kernel_rfl)) rfl ?_
      exact SpR.good HPS.out HSH.out (by repeat' (first | (with_reducible assumption) | (with_reducible refine Below.setCell ?_ ?_ _) | (with_reducible refine Below.alloc ?_ ?_ _) | (with_reducible refine Below.drew ?_) | (with_reducible refine below_drewN ?_ _) | (with_reducible exact Below.refl _ _) | (show _ ≤ _; (try simp); (try omega); done) | exact Below.refl _ _ | assumption))
  · obtain ⟨na, hna⟩ : ∃ n : Nat, n = (pa[0]'(by omega)).toNat := ⟨_, rfl⟩
    have hia : (((⟨pa.toArray⟩ : ByteArray)[0]'(by show 0 < pa.toArray.size; simp; omega)).toNat : Int) = na := by rw [hna]; rfl
    have ea : ((na : Int) == 48) = false := by
      rw [hna]
      rw [beq_eq_false_iff_ne]
      intro h
      exact h3b (by rw [List.head?_eq_getElem?, List.getElem?_eq_getElem (by omega)]; exact congrArg some (UInt8.toNat_inj.1 (Int.ofNat.inj h)))
    clear hna
    have d3 : decide ((1 : Int) < (pa.length : Int)) = true := by simp; omega
    clear h3b
    rcases h7 with h7 | h7
    · have y7 : ((pd.length : Int) == 3) = true := by rw [beq_iff_eq]; omega
      have yn7 : (pd.length == 3) = true := by rw [beq_iff_eq]; omega
      have y7b : ((pd.length : Int) == 8) = false := by rw [beq_eq_false_iff_ne]; omega
      have yn7b : (pd.length == 8) = false := by rw [beq_eq_false_iff_ne]; omega
      go_enter Tryz.func33, Tryz.ntmps33
      go_wp2_with fail
      refine (HU1.out _).mono ?_
      rintro e w1 ⟨rfl, m1, rfl⟩
      go_wp2_with fail
      refine (HU2.out _).mono ?_
      rintro e w2 ⟨rfl, m2, rfl⟩
      go_wp2_with fail
      refine (HU3.out _).mono ?_
      rintro e w3 ⟨rfl, m3, rfl⟩
      go_wp2_with fail
      refine (HU4.out _).mono ?_
      rintro e w4 ⟨rfl, m4, rfl⟩
      go_wp2_with fail
      refine (HApa.out _).mono ?_
      rintro e w' ⟨rfl, rfl⟩
      go_wp2_with fail
      refine (HApb.out _).mono ?_
      rintro e w' ⟨rfl, rfl⟩
      go_wp2_with fail
      refine (HApd.out _).mono ?_
      rintro e w' ⟨rfl, rfl⟩
      go_wp2_with fail
      refine (HApe.out _).mono ?_
      rintro e w' ⟨rfl, rfl⟩
      go_wp2
      refine bodyPost_ret (results_block2 (g := w.heap.size) (T := 87) rfl rfl (by exact (((((has_drewN HJ.out _).set 0 _).set 1 _).set 2 _).set 3 _).set 4 _) rfl Tryz.underlying87 rfl (by kernel_rfl)) rfl ?_
      exact SpR.good HPS.out HSH.out (by repeat' (first | (with_reducible assumption) | (with_reducible refine Below.setCell ?_ ?_ _) | (with_reducible refine Below.alloc ?_ ?_ _) | (with_reducible refine Below.drew ?_) | (with_reducible refine below_drewN ?_ _) | (with_reducible exact Below.refl _ _) | (show _ ≤ _; (try simp); (try omega); done) | exact Below.refl _ _ | assumption))
    · have y7 : ((pd.length : Int) == 3) = false := by rw [beq_eq_false_iff_ne]; omega
      have yn7 : (pd.length == 3) = false := by rw [beq_eq_false_iff_ne]; omega
      have y7b : ((pd.length : Int) == 8) = true := by rw [beq_iff_eq]; omega
      have yn7b : (pd.length == 8) = true := by rw [beq_iff_eq]; omega
      go_enter Tryz.func33, Tryz.ntmps33
      go_wp2_with fail
      refine (HU1.out _).mono ?_
      rintro e w1 ⟨rfl, m1, rfl⟩
      go_wp2_with fail
      refine (HU2.out _).mono ?_
      rintro e w2 ⟨rfl, m2, rfl⟩
      go_wp2_with fail
      refine (HU3.out _).mono ?_
      rintro e w3 ⟨rfl, m3, rfl⟩
      go_wp2_with fail
      refine (HU4.out _).mono ?_
      rintro e w4 ⟨rfl, m4, rfl⟩
      go_wp2_with fail
      refine (HApa.out _).mono ?_
      rintro e w' ⟨rfl, rfl⟩
      go_wp2_with fail
      refine (HApb.out _).mono ?_
      rintro e w' ⟨rfl, rfl⟩
      go_wp2_with fail
      refine (HApd.out _).mono ?_
      rintro e w' ⟨rfl, rfl⟩
      go_wp2_with fail
      refine (HApe.out _).mono ?_
      rintro e w' ⟨rfl, rfl⟩
      go_wp2
      refine bodyPost_ret (results_block2 (g := w.heap.size) (T := 87) rfl rfl (by exact (((((has_drewN HJ.out _).set 0 _).set 1 _).set 2 _).set 3 _).set 4 _) rfl Tryz.underlying87 rfl (by kernel_rfl)) rfl ?_
      exact SpR.good HPS.out HSH.out (by repeat' (first | (with_reducible assumption) | (with_reducible refine Below.setCell ?_ ?_ _) | (with_reducible refine Below.alloc ?_ ?_ _) | (with_reducible refine Below.drew ?_) | (with_reducible refine below_drewN ?_ _) | (with_reducible exact Below.refl _ _) | (show _ ≤ _; (try simp); (try omega); done) | exact Below.refl _ _ | assumption))
theorem rsplit_any (S : List UInt8) (hl : S.length ≤ 16777216) (w : World) :
    Calls Tryz.prog 33 #[.string ⟨S.toArray⟩] w (SpR S w) := by
  cases hS : S with
  | nil => rw [← hS]; exact rs_nil S hl w hS
  | cons s0 r0 =>
    rw [← hS]
    by_cases hxS : s0 = 40
    · cases hc1 : cutAt 46 r0 with
      | none => exact rs_1 S hl w s0 r0 hS hxS hc1
      | some p1 =>
        obtain ⟨pa, r1⟩ := p1
        cases hc2 : cutAt 41 r1 with
        | none => exact rs_2 S hl w s0 r0 hS hxS pa r1 hc1 hc2
        | some p2 =>
          obtain ⟨pb, r2⟩ := p2
          cases hr2 : r2 with
          | nil => exact rs_3 S hl w s0 r0 hS hxS pa r1 hc1 pb r2 hc2 hr2
          | cons y r3 =>
            by_cases hxr2 : y = 32
            · cases hc3 : cutAt 32 r3 with
              | none => exact rs_5 S hl w s0 r0 hS hxS pa r1 hc1 pb r2 hc2 y r3 hr2 hxr2 hc3
              | some p3 =>
                obtain ⟨pc, r4⟩ := p3
                cases hc4 : cutAt 35 r4 with
                | none => exact rs_6 S hl w s0 r0 hS hxS pa r1 hc1 pb r2 hc2 y r3 hr2 hxr2 pc r4 hc3 hc4
                | some p4 =>
                  obtain ⟨pd, pe⟩ := p4
                  have h1 := Nat.eq_zero_or_pos pa.length
                  rcases h1 with h1 | h1
                  · exact rs_t1 S hl w s0 r0 hS hxS pa r1 hc1 pb r2 hc2 y r3 hr2 hxr2 pc r4 hc3 pd pe hc4 h1
                  cases h2 : allD 10 pa with
                  | false => exact rs_t2 S hl w s0 r0 hS hxS pa r1 hc1 pb r2 hc2 y r3 hr2 hxr2 pc r4 hc3 pd pe hc4 h1 h2
                  | true =>
                    by_cases h3 : pa.length = 1 ∨ (1 < pa.length ∧ pa.head? ≠ some 48)
                    · by_cases h4 : pb.length = 6
                      · cases h5 : allD 10 pb with
                        | false => exact rs_t5 S hl w s0 r0 hS hxS pa r1 hc1 pb r2 hc2 y r3 hr2 hxr2 pc r4 hc3 pd pe hc4 h1 h2 h3 h4 h5
                        | true =>
                          rcases Nat.eq_zero_or_pos pc.length with h6 | h6
                          · exact rs_t6 S hl w s0 r0 hS hxS pa r1 hc1 pb r2 hc2 y r3 hr2 hxr2 pc r4 hc3 pd pe hc4 h1 h2 h3 h4 h5 h6
                          by_cases h7 : pd.length = 3 ∨ pd.length = 8
                          · cases h8 : allD 16 pd with
                            | false => exact rs_t8 S hl w s0 r0 hS hxS pa r1 hc1 pb r2 hc2 y r3 hr2 hxr2 pc r4 hc3 pd pe hc4 h1 h2 h3 h4 h5 h6 h7 h8
                            | true =>
                              by_cases h9 : pe.length % 2 = 0
                              · cases h10 : allD 16 pe with
                                | false => exact rs_t10 S hl w s0 r0 hS hxS pa r1 hc1 pb r2 hc2 y r3 hr2 hxr2 pc r4 hc3 pd pe hc4 h1 h2 h3 h4 h5 h6 h7 h8 h9 h10
                                | true => exact rs_t11 S hl w s0 r0 hS hxS pa r1 hc1 pb r2 hc2 y r3 hr2 hxr2 pc r4 hc3 pd pe hc4 h1 h2 h3 h4 h5 h6 h7 h8 h9 h10
                              · exact rs_t9 S hl w s0 r0 hS hxS pa r1 hc1 pb r2 hc2 y r3 hr2 hxr2 pc r4 hc3 pd pe hc4 h1 h2 h3 h4 h5 h6 h7 h8 h9
                          · exact rs_t7 S hl w s0 r0 hS hxS pa r1 hc1 pb r2 hc2 y r3 hr2 hxr2 pc r4 hc3 pd pe hc4 h1 h2 h3 h4 h5 h6 (fun h => h7 (.inl h)) (fun h => h7 (.inr h))
                      · exact rs_t4 S hl w s0 r0 hS hxS pa r1 hc1 pb r2 hc2 y r3 hr2 hxr2 pc r4 hc3 pd pe hc4 h1 h2 h3 h4
                    · exact rs_t3 S hl w s0 r0 hS hxS pa r1 hc1 pb r2 hc2 y r3 hr2 hxr2 pc r4 hc3 pd pe hc4 h1 h2 (by
                        rcases Nat.lt_or_ge 1 pa.length with h | h
                        · exact h
                        · exact absurd (.inl (by omega)) h3) (Classical.byContradiction fun hn => h3 (by
                        rcases Nat.lt_or_ge 1 pa.length with h | h
                        · exact .inr ⟨h, hn⟩
                        · exact .inl (by omega)))
            · exact rs_4 S hl w s0 r0 hS hxS pa r1 hc1 pb r2 hc2 y r3 hr2 hxr2
    · exact rs_not S hl w s0 r0 hS hxS
end dumpW
end Go.Proofs.YtbhhfdajaoemnaaGreatDoor
