/- DumpParses' walk: of any text. Conditions: the library's tables and some of its errors are laid, one variable of the library's holds some int. -/
import Derived.Test.YtbhhfdajaoemnaaGreatDoorDumpQp
import Derived.Test.YtbhhfdajaoemnaaGreatDoorBookAp
import Derived.Test.YtbhhfdajaoemnaaGreatDoorDumpWk
import Derived.Test.YtbhhfdajaoemnaaGreatDoorDumpJl
import Derived.Test.YtbhhfdajaoemnaaGreatDoorPlain
namespace Go.Proofs.YtbhhfdajaoemnaaGreatDoor
open Go.RowKit Go.Bus Go.Bus.dumpK Go.Bus.textK Go.Bus.farmK Go.Proofs.YtbhhfdajaoemnaaGreatDoor.bookK
set_option linter.unusedVariables false
set_option linter.unusedSimpArgs false
namespace dumpW
theorem farm_two {w : World} {base mid : Nat} {e : TypeId} {va vb : Value} {xs ys : List Int} (ha : w.ownsRow base e 1 va xs.length (xs.map (Value.int .u8))) (hb : w.ownsRow mid e 1 vb ys.length (ys.map (Value.int .u8))) (hm : base ≤ mid) (hlt : ∀ q, va.ownBlock = some q → q < mid) :
    Farm w base e (Value.int .u8) [(va, xs), (vb, ys)] := by
  refine ⟨fun i v z hi => ?_, fun i j v z u y hi hj hij q hq he => ?_⟩
  · match i, hi with
    | 0, hi => simp at hi; obtain ⟨rfl, rfl⟩ := hi; exact ha
    | 1, hi => simp at hi; obtain ⟨rfl, rfl⟩ := hi; exact own_base hb hm
    | n + 2, hi => simp at hi
  · match i, j, hi, hj with
    | 0, 0, _, _ => exact hij rfl
    | 1, 1, _, _ => exact hij rfl
    | 0, 1, hi, hj => simp at hi hj; obtain ⟨rfl, rfl⟩ := hi; obtain ⟨rfl, rfl⟩ := hj; have h1 := hlt q hq; have h2 := (hb.lt q he).1; omega
    | 1, 0, hi, hj => simp at hi hj; obtain ⟨rfl, rfl⟩ := hi; obtain ⟨rfl, rfl⟩ := hj; have h1 := hlt q he; have h2 := (hb.lt q hq).1; omega
    | n + 2, _, hi, _ => simp at hi
    | 0, n + 2, _, hj => simp at hj
    | 1, n + 2, _, hj => simp at hj
def noOf (S : List UInt8) : Int := match parseF S with
  | .error no => no
  | .ok _ => 0
def zLn : Ln := ⟨0, [], 0, false, []⟩
def OneP (l : Ln) (t : Value) (w : World) (e : Ending) (w' : World) : Prop := ∃ A c, e = .returned (.tuple #[.agg #[.int .u64 (l.time : Nat), .string ⟨l.port.toArray⟩, .int .u32 (l.id : Nat), .bool l.wide, .slice A l.data.length c], t]) ∧ w'.ownsRow w.heap.size 5 1 (.slice A l.data.length c) l.data.length (l.data.map (Value.int .u8)) ∧ Below w.heap.size w w'
/-- Both answers of one text, as one line, one error and its number. -/
theorem parses_both (S : List UInt8) (hl : S.length ≤ 16777216) (w : World) (hM : Mx w) (hR : laidK.Rng w) (hE : asK.ErrT w) : ∃ (l : Ln) (t : Value) (no : Int), no = noOf S ∧ (∃ (ty : TypeId) (u : Value), t = .nilIface ∨ t = .iface ty u) ∧ l.data.length ≤ 1000000000 ∧
    (∀ W, Below w.heap.size w W → Calls Tryz.prog 19 #[.string ⟨S.toArray⟩] W (OneP l t W)) ∧
    (∀ W, Calls Tryz.prog 18 #[.string ⟨S.toArray⟩] W (OneP l (.int .i64 no) W)) ∧
    (∀ W, Below w.heap.size w W → Calls Tryz.prog 16 #[t, .int .i64 no] W fun e w' => e = .returned (.bool true) ∧ Below W.heap.size W w') := by
  cases hp : parseF S with
  | error no =>
    have hno := parseF_no hp
    refine ⟨zLn, .iface 74 (.int .i64 no), no, by unfold noOf; rw [hp], ⟨_, _, .inr rfl⟩, by decide, fun W hb => (dparse_any S hl W (hM.at_below hb) (hR.at_below hb)).mono ?_, fun W => (rparse_any S hl W).mono ?_, fun W hb => asK.plain_no no W hno.1 hno.2 (hE.at_below hb)⟩
    · rintro e w' ⟨h1, h2⟩
      rw [hp] at h2
      exact ⟨none, 0, h2, World.ownsRow_nil _ _ _ _, h1⟩
    · rintro e w' ⟨h1, h2⟩
      rw [hp] at h2
      exact ⟨none, 0, h2, World.ownsRow_nil _ _ _ _, h1⟩
  | ok l =>
    obtain ⟨-, hw, -⟩ := back hp
    have h8 := (right_of hw).2.2
    refine ⟨l, .nilIface, 0, by unfold noOf; rw [hp], ⟨0, .nilIface, .inl rfl⟩, by omega, fun W hb => (dparse_any S hl W (hM.at_below hb) (hR.at_below hb)).mono ?_, fun W => (rparse_any S hl W).mono ?_, fun W hb => asK.plain_nil W⟩
    · rintro e w' ⟨h1, h2⟩
      rw [hp] at h2
      obtain ⟨v, rfl, ho⟩ := h2
      obtain ⟨A, c, rfl⟩ := own_sliceQ ho
      exact ⟨A, c, rfl, ho, h1⟩
    · rintro e w' ⟨h1, h2⟩
      rw [hp] at h2
      obtain ⟨v, rfl, ho⟩ := h2
      obtain ⟨A, c, rfl⟩ := own_sliceQ ho
      exact ⟨A, c, rfl, ho, h1⟩
theorem own5 {w w' : World} {base n : Nat} {v : Value} {xs : List Value} {o : Obj} (h : w.ownsRow base 5 1 v n xs) (hb : Below (w.heap.size + 1) (w.alloc o) w') : w'.ownsRow base 5 1 v n xs := own_kept (h.alloc o) (by simpa using hb)
theorem sl5 {w w' : World} {base : Nat} {v : Value} {xs : List Int} {o : Obj} (h : w.ownsRow base 5 1 v xs.length (xs.map (Value.int .u8))) (hb : Below (w.heap.size + 1) (w.alloc o) w') : Sl w' w'.heap.size (Value.int .u8) v xs := Sl.of_own (own5 h hb)
set_option maxRecDepth 100000 in
set_option maxHeartbeats 16000000 in
theorem parses_any (S : List UInt8) (w : World) (hM : Mx w) (hR : laidK.Rng w) (hE : asK.ErrT w) : Calls Tryz.prog 5 #[.string ⟨S.toArray⟩] w fun e w' => e = .returned (.bool true) ∧ Below w.heap.size w w' := by
  by_cases hl : 16777216 < S.length
  · have d1 : decide ((16777216 : Int) < (S.length : Int)) = true := by simp; omega
    have d2 : decide (16777216 < S.length) = true := by simp; omega
    obtain ⟨SB, hSB⟩ : ∃ SB : ByteArray, SB = ⟨S.toArray⟩ := ⟨_, rfl⟩
    have hsz : SB.size = S.length := by rw [hSB]; show S.toArray.size = S.length; simp
    rw [← hSB]
    clear hSB hl hM hR hE
    go_enter Tryz.func5, Tryz.ntmps5
    go_wp2
    go_ret
    exact ⟨rfl, (by repeat' (first | (with_reducible assumption) | (with_reducible refine Below.setCell ?_ ?_ _) | (with_reducible refine Below.alloc ?_ ?_ _) | (with_reducible refine Below.drew ?_) | (with_reducible refine below_drewN ?_ _) | (with_reducible exact Below.refl _ _) | (show _ ≤ _; (try simp); (try omega); done) | exact Below.refl _ _ | assumption))⟩
  have d1 : decide ((16777216 : Int) < (S.length : Int)) = false := by simp; omega
  have d2 : decide (16777216 < S.length) = false := by simp; omega
  obtain ⟨l, t, no, -, ht, hd, hp, hq, hpl⟩ := parses_both S (by omega) w hM hR hE
  have HP := Lib.hid hp
  have HQ := Lib.hid hq
  have HPL := Lib.hid hpl
  have HD := Lib.hid hd
  obtain ⟨SB, hSB⟩ : ∃ SB : ByteArray, SB = ⟨S.toArray⟩ := ⟨_, rfl⟩
  have hsz : SB.size = S.length := by rw [hSB]; show S.toArray.size = S.length; simp
  rw [← hSB] at HP HQ ⊢
  clear hSB hl hM hR hE hp hq hpl ht hd
  go_enter Tryz.func5, Tryz.ntmps5
  go_wp2_with fail
  refine (HQ.out _).mono ?_
  rintro e w1 ⟨A0, c0, rfl, ho, hb⟩
  have HO0 := Lib.hid ho
  have HB1 := Lib.hid hb
  clear hb ho
  have HJ0 := Lib.hid (Has.new w1 43 #[.int .u64 (l.time : Nat), .string ⟨l.port.toArray⟩, .int .u32 (l.id : Nat), .bool l.wide, .slice A0 l.data.length c0])
  go_wp2_with fail
  refine (HP.out _ (by have hB := HB1.out; have hs := hB.size; exact (by repeat' (first | (with_reducible assumption) | (with_reducible refine Below.setCell ?_ ?_ _) | (with_reducible refine Below.alloc ?_ ?_ _) | (with_reducible refine Below.drew ?_) | (with_reducible refine below_drewN ?_ _) | (with_reducible exact Below.refl _ _) | (show _ ≤ _; (try simp); (try omega); done) | exact Below.refl _ _ | assumption)))).mono ?_
  rintro e w2 ⟨A1, c1, rfl, ho, hb⟩
  have HO1 := Lib.hid ho
  have HB2 : Hid (Below w.heap.size w w2) := Lib.hid (Below.trans (by have hB := HB1.out; have hs := hB.size; exact (by repeat' (first | (with_reducible assumption) | (with_reducible refine Below.setCell ?_ ?_ _) | (with_reducible refine Below.alloc ?_ ?_ _) | (with_reducible refine Below.drew ?_) | (with_reducible refine below_drewN ?_ _) | (with_reducible exact Below.refl _ _) | (show _ ≤ _; (try simp); (try omega); done) | exact Below.refl _ _ | assumption))) (hb.mono (by have := HB1.out.size; simp; omega)))
  have HJ0b := Lib.hid (HJ0.out.below hb HJ0.out.lt)
  have zj0 : w1.heap.size < w2.heap.size := HJ0b.out.lt
  have HO0b : Hid (w2.ownsRow w.heap.size 5 1 (.slice A0 l.data.length c0) l.data.length (l.data.map (Value.int .u8))) := Lib.hid (own_kept (by exact HO0.out.alloc _) hb)
  clear ho hb
  have HJ1 := Lib.hid (Has.new w2 43 #[.int .u64 (l.time : Nat), .string ⟨l.port.toArray⟩, .int .u32 (l.id : Nat), .bool l.wide, .slice A1 l.data.length c1])
  go_wp2_with fail
  refine (HP.out _ (by have hB := HB2.out; have hs := hB.size; exact (by repeat' (first | (with_reducible assumption) | (with_reducible refine Below.setCell ?_ ?_ _) | (with_reducible refine Below.alloc ?_ ?_ _) | (with_reducible refine Below.drew ?_) | (with_reducible refine below_drewN ?_ _) | (with_reducible exact Below.refl _ _) | (show _ ≤ _; (try simp); (try omega); done) | exact Below.refl _ _ | assumption)))).mono ?_
  rintro e w3 ⟨A2, c2, rfl, ho, hb⟩
  have HO2 := Lib.hid ho
  have HB3 : Hid (Below w.heap.size w w3) := Lib.hid (Below.trans (by have hB := HB2.out; have hs := hB.size; exact (by repeat' (first | (with_reducible assumption) | (with_reducible refine Below.setCell ?_ ?_ _) | (with_reducible refine Below.alloc ?_ ?_ _) | (with_reducible refine Below.drew ?_) | (with_reducible refine below_drewN ?_ _) | (with_reducible exact Below.refl _ _) | (show _ ≤ _; (try simp); (try omega); done) | exact Below.refl _ _ | assumption))) (hb.mono (by have := HB2.out.size; simp; omega)))
  have HJ0c := Lib.hid (Has.below (by exact HJ0b.out.alloc _) hb (by simp; omega))
  have HJ1b := Lib.hid (HJ1.out.below hb HJ1.out.lt)
  have zj1 : w2.heap.size < w3.heap.size := HJ1b.out.lt
  have HO0c : Hid (w3.ownsRow w.heap.size 5 1 (.slice A0 l.data.length c0) l.data.length (l.data.map (Value.int .u8))) := Lib.hid (own_kept (by exact HO0b.out.alloc _) hb)
  have HO1b : Hid (w3.ownsRow (w1.heap.size + 1) 5 1 (.slice A1 l.data.length c1) l.data.length (l.data.map (Value.int .u8))) := Lib.hid (own_kept (by have h := HO1.out.alloc (.cells #[.int .u64 (l.time : Nat), .string ⟨l.port.toArray⟩, .int .u32 (l.id : Nat), .bool l.wide, .slice A1 l.data.length c1] 43); simpa using h) hb)
  have HL1 := Lib.hid (HO1.out.lt)
  clear ho hb
  have HJ2 := Lib.hid (Has.new w3 43 #[.int .u64 (l.time : Nat), .string ⟨l.port.toArray⟩, .int .u32 (l.id : Nat), .bool l.wide, .slice A2 l.data.length c2])
  go_wp2_with fail
  refine (HPL.out _ (by have hB := HB3.out; have hs := hB.size; exact (by repeat' (first | (with_reducible assumption) | (with_reducible refine Below.setCell ?_ ?_ _) | (with_reducible refine Below.alloc ?_ ?_ _) | (with_reducible refine Below.drew ?_) | (with_reducible refine below_drewN ?_ _) | (with_reducible exact Below.refl _ _) | (show _ ≤ _; (try simp); (try omega); done) | exact Below.refl _ _ | assumption)))).mono ?_
  rintro e w4 ⟨rfl, hb⟩
  have HB4 : Hid (Below w.heap.size w w4) := Lib.hid (Below.trans (by have hB := HB3.out; have hs := hB.size; exact (by repeat' (first | (with_reducible assumption) | (with_reducible refine Below.setCell ?_ ?_ _) | (with_reducible refine Below.alloc ?_ ?_ _) | (with_reducible refine Below.drew ?_) | (with_reducible refine below_drewN ?_ _) | (with_reducible exact Below.refl _ _) | (show _ ≤ _; (try simp); (try omega); done) | exact Below.refl _ _ | assumption))) (hb.mono (by have := HB3.out.size; simp; omega)))
  have HC4 : Hid (Below (w3.heap.size + 1) (w3.alloc (.cells #[.int .u64 (l.time : Nat), .string ⟨l.port.toArray⟩, .int .u32 (l.id : Nat), .bool l.wide, .slice A2 l.data.length c2] 43)) w4) := Lib.hid (by simpa using hb)
  have z4 : w3.heap.size < w4.heap.size := (HJ2.out.below hb HJ2.out.lt).lt
  clear hb
  go_wp2_with fail
  refine (HPL.out _ (by have hB := HB4.out; have hs := hB.size; exact (by repeat' (first | (with_reducible assumption) | (with_reducible refine Below.setCell ?_ ?_ _) | (with_reducible refine Below.alloc ?_ ?_ _) | (with_reducible refine Below.drew ?_) | (with_reducible refine below_drewN ?_ _) | (with_reducible exact Below.refl _ _) | (show _ ≤ _; (try simp); (try omega); done) | exact Below.refl _ _ | assumption)))).mono ?_
  rintro e w5 ⟨rfl, hb⟩
  have HB5 : Hid (Below w.heap.size w w5) := Lib.hid (HB4.out.trans (hb.mono HB4.out.size))
  have HC5 : Hid (Below (w3.heap.size + 1) (w3.alloc (.cells #[.int .u64 (l.time : Nat), .string ⟨l.port.toArray⟩, .int .u32 (l.id : Nat), .bool l.wide, .slice A2 l.data.length c2] 43)) w5) := Lib.hid (HC4.out.trans (hb.mono (by omega)))
  have z5 : w3.heap.size < w5.heap.size := Nat.lt_of_lt_of_le z4 hb.size
  clear hb
  have HX0w5 : Hid (Has w5 (w1.heap.size) 43 #[.int .u64 (l.time : Nat), .string ⟨l.port.toArray⟩, .int .u32 (l.id : Nat), .bool l.wide, .slice A0 l.data.length c0]) := Lib.hid (Has.below (by exact HJ0c.out.alloc _) HC5.out (by omega))
  have b0_0w5 : w5.cell? ⟨w1.heap.size, 0, none⟩ = some (.int .u64 (l.time : Nat)) := HX0w5.out.cell 0
  have b0_1w5 : w5.cell? ⟨w1.heap.size, 1, none⟩ = some (.string ⟨l.port.toArray⟩) := HX0w5.out.cell 1
  have b0_2w5 : w5.cell? ⟨w1.heap.size, 2, none⟩ = some (.int .u32 (l.id : Nat)) := HX0w5.out.cell 2
  have b0_3w5 : w5.cell? ⟨w1.heap.size, 3, none⟩ = some (.bool l.wide) := HX0w5.out.cell 3
  have b0_4w5 : w5.cell? ⟨w1.heap.size, 4, none⟩ = some (.slice A0 l.data.length c0) := HX0w5.out.cell 4
  have zz0w5 : w1.heap.size < w5.heap.size := HX0w5.out.lt
  have HX1w5 : Hid (Has w5 (w2.heap.size) 43 #[.int .u64 (l.time : Nat), .string ⟨l.port.toArray⟩, .int .u32 (l.id : Nat), .bool l.wide, .slice A1 l.data.length c1]) := Lib.hid (Has.below (by exact HJ1b.out.alloc _) HC5.out (by omega))
  have b1_0w5 : w5.cell? ⟨w2.heap.size, 0, none⟩ = some (.int .u64 (l.time : Nat)) := HX1w5.out.cell 0
  have b1_1w5 : w5.cell? ⟨w2.heap.size, 1, none⟩ = some (.string ⟨l.port.toArray⟩) := HX1w5.out.cell 1
  have b1_2w5 : w5.cell? ⟨w2.heap.size, 2, none⟩ = some (.int .u32 (l.id : Nat)) := HX1w5.out.cell 2
  have b1_3w5 : w5.cell? ⟨w2.heap.size, 3, none⟩ = some (.bool l.wide) := HX1w5.out.cell 3
  have b1_4w5 : w5.cell? ⟨w2.heap.size, 4, none⟩ = some (.slice A1 l.data.length c1) := HX1w5.out.cell 4
  have zz1w5 : w2.heap.size < w5.heap.size := HX1w5.out.lt
  go_wp2_with fail
  refine (same_line l (.slice A1 l.data.length c1) (.slice A0 l.data.length c0) w5 (sl5 HO1b.out HC5.out) (sl5 HO0c.out HC5.out)).mono ?_
  rintro e w6 ⟨rfl, hb⟩
  have HB6 : Hid (Below w.heap.size w w6) := Lib.hid (HB5.out.trans (hb.mono HB5.out.size))
  have HC6 : Hid (Below (w3.heap.size + 1) (w3.alloc (.cells #[.int .u64 (l.time : Nat), .string ⟨l.port.toArray⟩, .int .u32 (l.id : Nat), .bool l.wide, .slice A2 l.data.length c2] 43)) w6) := Lib.hid (HC5.out.trans (hb.mono (by omega)))
  have z6 : w3.heap.size < w6.heap.size := Nat.lt_of_lt_of_le z5 hb.size
  clear hb
  have HX0w6 : Hid (Has w6 (w1.heap.size) 43 #[.int .u64 (l.time : Nat), .string ⟨l.port.toArray⟩, .int .u32 (l.id : Nat), .bool l.wide, .slice A0 l.data.length c0]) := Lib.hid (Has.below (by exact HJ0c.out.alloc _) HC6.out (by omega))
  have b0_0w6 : w6.cell? ⟨w1.heap.size, 0, none⟩ = some (.int .u64 (l.time : Nat)) := HX0w6.out.cell 0
  have b0_1w6 : w6.cell? ⟨w1.heap.size, 1, none⟩ = some (.string ⟨l.port.toArray⟩) := HX0w6.out.cell 1
  have b0_2w6 : w6.cell? ⟨w1.heap.size, 2, none⟩ = some (.int .u32 (l.id : Nat)) := HX0w6.out.cell 2
  have b0_3w6 : w6.cell? ⟨w1.heap.size, 3, none⟩ = some (.bool l.wide) := HX0w6.out.cell 3
  have b0_4w6 : w6.cell? ⟨w1.heap.size, 4, none⟩ = some (.slice A0 l.data.length c0) := HX0w6.out.cell 4
  have zz0w6 : w1.heap.size < w6.heap.size := HX0w6.out.lt
  have HX2w6 : Hid (Has w6 (w3.heap.size) 43 #[.int .u64 (l.time : Nat), .string ⟨l.port.toArray⟩, .int .u32 (l.id : Nat), .bool l.wide, .slice A2 l.data.length c2]) := Lib.hid (Has.below (by exact HJ2.out) HC6.out (by omega))
  have b2_0w6 : w6.cell? ⟨w3.heap.size, 0, none⟩ = some (.int .u64 (l.time : Nat)) := HX2w6.out.cell 0
  have b2_1w6 : w6.cell? ⟨w3.heap.size, 1, none⟩ = some (.string ⟨l.port.toArray⟩) := HX2w6.out.cell 1
  have b2_2w6 : w6.cell? ⟨w3.heap.size, 2, none⟩ = some (.int .u32 (l.id : Nat)) := HX2w6.out.cell 2
  have b2_3w6 : w6.cell? ⟨w3.heap.size, 3, none⟩ = some (.bool l.wide) := HX2w6.out.cell 3
  have b2_4w6 : w6.cell? ⟨w3.heap.size, 4, none⟩ = some (.slice A2 l.data.length c2) := HX2w6.out.cell 4
  have zz2w6 : w3.heap.size < w6.heap.size := HX2w6.out.lt
  go_wp2_with fail
  refine (same_line l (.slice A2 l.data.length c2) (.slice A0 l.data.length c0) w6 (sl5 HO2.out HC6.out) (sl5 HO0c.out HC6.out)).mono ?_
  rintro e w7 ⟨rfl, hb⟩
  have HB7 : Hid (Below w.heap.size w w7) := Lib.hid (HB6.out.trans (hb.mono HB6.out.size))
  have HC7 : Hid (Below (w3.heap.size + 1) (w3.alloc (.cells #[.int .u64 (l.time : Nat), .string ⟨l.port.toArray⟩, .int .u32 (l.id : Nat), .bool l.wide, .slice A2 l.data.length c2] 43)) w7) := Lib.hid (HC6.out.trans (hb.mono (by omega)))
  have z7 : w3.heap.size < w7.heap.size := Nat.lt_of_lt_of_le z6 hb.size
  clear hb
  have HX1w7 : Hid (Has w7 (w2.heap.size) 43 #[.int .u64 (l.time : Nat), .string ⟨l.port.toArray⟩, .int .u32 (l.id : Nat), .bool l.wide, .slice A1 l.data.length c1]) := Lib.hid (Has.below (by exact HJ1b.out.alloc _) HC7.out (by omega))
  have b1_0w7 : w7.cell? ⟨w2.heap.size, 0, none⟩ = some (.int .u64 (l.time : Nat)) := HX1w7.out.cell 0
  have b1_1w7 : w7.cell? ⟨w2.heap.size, 1, none⟩ = some (.string ⟨l.port.toArray⟩) := HX1w7.out.cell 1
  have b1_2w7 : w7.cell? ⟨w2.heap.size, 2, none⟩ = some (.int .u32 (l.id : Nat)) := HX1w7.out.cell 2
  have b1_3w7 : w7.cell? ⟨w2.heap.size, 3, none⟩ = some (.bool l.wide) := HX1w7.out.cell 3
  have b1_4w7 : w7.cell? ⟨w2.heap.size, 4, none⟩ = some (.slice A1 l.data.length c1) := HX1w7.out.cell 4
  have zz1w7 : w2.heap.size < w7.heap.size := HX1w7.out.lt
  have HK := Lib.hid (show Bk (w7.alloc (.cells (bookC (.slice none 0 0) (.slice none 0 0)) 68)) w7.heap.size (.slice none 0 0) (.slice none 0 0) [] [] from ⟨Has.new _ _ _, World.ownsRow_nil _ _ _ _, World.ownsRow_nil _ _ _ _⟩)
  go_wp2_with fail
  refine (line_any w7.heap.size _ _ [] [] _ _ _ _ A1 l.data.length c1 _ (by exact HK.out) (by decide)).mono ?_
  rintro e w8 ⟨vb8, rfl, hk, hb⟩
  have HK8 := Lib.hid hk
  have HB8 : Hid (Below w.heap.size w w8) := Lib.hid (Below.trans (by have hB := HB7.out; have hs := hB.size; exact (by repeat' (first | (with_reducible assumption) | (with_reducible refine Below.setCell ?_ ?_ _) | (with_reducible refine Below.alloc ?_ ?_ _) | (with_reducible refine Below.drew ?_) | (with_reducible refine below_drewN ?_ _) | (with_reducible exact Below.refl _ _) | (show _ ≤ _; (try simp); (try omega); done) | exact Below.refl _ _ | assumption))) (hb.mono HB7.out.size))
  have HC8 : Hid (Below (w3.heap.size + 1) (w3.alloc (.cells #[.int .u64 (l.time : Nat), .string ⟨l.port.toArray⟩, .int .u32 (l.id : Nat), .bool l.wide, .slice A2 l.data.length c2] 43)) w8) := Lib.hid (Below.trans (by have hB := HC7.out; have hs := hB.size; exact (by repeat' (first | (with_reducible assumption) | (with_reducible refine Below.setCell ?_ ?_ _) | (with_reducible refine Below.alloc ?_ ?_ _) | (with_reducible refine Below.drew ?_) | (with_reducible refine below_drewN ?_ _) | (with_reducible exact Below.refl _ _) | (show _ ≤ _; (try simp); (try omega); done) | exact Below.refl _ _ | assumption))) (hb.mono (by omega)))
  have z8 : w7.heap.size < w8.heap.size := HK8.out.has.lt
  clear hb hk
  have HX2w8 : Hid (Has w8 (w3.heap.size) 43 #[.int .u64 (l.time : Nat), .string ⟨l.port.toArray⟩, .int .u32 (l.id : Nat), .bool l.wide, .slice A2 l.data.length c2]) := Lib.hid (Has.below (by exact HJ2.out) HC8.out (by omega))
  have b2_0w8 : w8.cell? ⟨w3.heap.size, 0, none⟩ = some (.int .u64 (l.time : Nat)) := HX2w8.out.cell 0
  have b2_1w8 : w8.cell? ⟨w3.heap.size, 1, none⟩ = some (.string ⟨l.port.toArray⟩) := HX2w8.out.cell 1
  have b2_2w8 : w8.cell? ⟨w3.heap.size, 2, none⟩ = some (.int .u32 (l.id : Nat)) := HX2w8.out.cell 2
  have b2_3w8 : w8.cell? ⟨w3.heap.size, 3, none⟩ = some (.bool l.wide) := HX2w8.out.cell 3
  have b2_4w8 : w8.cell? ⟨w3.heap.size, 4, none⟩ = some (.slice A2 l.data.length c2) := HX2w8.out.cell 4
  have zz2w8 : w3.heap.size < w8.heap.size := HX2w8.out.lt
  go_wp2_with fail
  refine (line_any w7.heap.size _ _ _ [] _ _ _ _ A2 l.data.length c2 _ (by exact HK8.out) (by simp)).mono ?_
  rintro e w9 ⟨vb9, rfl, hk, hb⟩
  have HK9 := Lib.hid hk
  have HB9 : Hid (Below w.heap.size w w9) := Lib.hid (HB8.out.trans (hb.mono HB7.out.size))
  have HC9 : Hid (Below (w3.heap.size + 1) (w3.alloc (.cells #[.int .u64 (l.time : Nat), .string ⟨l.port.toArray⟩, .int .u32 (l.id : Nat), .bool l.wide, .slice A2 l.data.length c2] 43)) w9) := Lib.hid (HC8.out.trans (hb.mono (by omega)))
  have z37 : w3.heap.size + 1 ≤ w7.heap.size := z7
  clear hb hk
  have HFA : Hid (Farm w9 w.heap.size 5 (Value.int .u8) [(.slice A1 l.data.length c1, l.data), (.slice A2 l.data.length c2, l.data)]) := Lib.hid (farm_two (own_base (own5 HO1b.out HC9.out) (by have := HB1.out.size; omega)) (own5 HO2.out HC9.out) (by have := HB2.out.size; simp; omega) (fun q hq => by have := (HL1.out q hq).2; simp; omega))
  go_wp2_with fail
  refine (book_apart (rows := [(.slice A1 l.data.length c1, l.data), (.slice A2 l.data.length c2, l.data)]) (base := w.heap.size) HK9.out HFA.out HB9.out.size (by simp) (fun p hp => by have := HD.out; simp at hp; rcases hp with rfl | rfl <;> exact this)).mono ?_
  rintro e w10 ⟨rfl, hb⟩
  have HB10 := Lib.hid (HB9.out.trans hb)
  clear hb
  go_wp2
  go_ret
  exact ⟨rfl, HB10.out⟩
end dumpW
end Go.Proofs.YtbhhfdajaoemnaaGreatDoor
