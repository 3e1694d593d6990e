/- The walk of FrameDecodes: of any row the frame, or the first thing that is wrong, as the document has it; new memory; the row stays. Conditions: contracts of the functions at this row, as hypotheses. -/
import Derived.Test.YthjjockimpndbaaDoorZKit
import Derived.Test.YthjjockimpndbaaDoorZTold
namespace Go.Proofs.YthjjockimpndbaaDoor.frameDecW
open Go.RowKit Go.Bus Go.Bus.farmK Go.Bus.decK Go.Proofs.YthjjockimpndbaaDoor.lentK
set_option linter.unusedVariables false
/-- A frame whose bytes lie in memory of the call's own, and a value beside it. -/
def Ans (W : World) (i : Int) (wd : Bool) (L : List Int) (E : Value) (e : Ending) (w' : World) : Prop :=
  ∃ v, e = .returned (.tuple #[.agg #[.int .u32 i, .bool wd, v], E]) ∧ w'.ownsRow W.heap.size 5 1 v L.length (L.map (Value.int .u8)) ∧ Below W.heap.size W w'
theorem farm2 {w : World} {base mid : Nat} {e : TypeId} {va vb : Value} {xs ys : List Int} (ha : w.ownsRow base e 1 va xs.length (xs.map (Value.int .u8))) (hb : w.ownsRow mid e 1 vb ys.length (ys.map (Value.int .u8))) (hm : base ≤ mid) (hlt : ∀ q, va.ownBlock = some q → q < mid) :
    Farm w base e (Value.int .u8) [(va, xs), (vb, ys)] := by
  refine Farm.snoc (R := [(va, xs)]) (Farm.snoc (R := []) ⟨fun i v z h => by simp at h, fun i j v z u y h => by simp at h⟩ ha (fun i u y q h => by simp at h)) (own_base hb hm) ?_
  intro i u y q hi hq he
  have h1 : u = va := by
    cases i with
    | zero => simp at hi; exact hi.1.symm
    | succ i => simp at hi
  subst h1
  have h2 := hlt q hq
  have h3 := (hb.lt q he).1
  omega
theorem frame_yes (i : Int) (a : Bool) (v u : Value) (l : List Int) (w : World) (h : Sl w w.heap.size (Value.int .u8) v l) (h' : Sl w w.heap.size (Value.int .u8) u l) :
    Calls Tryd.prog 27 #[.agg #[.int .u32 i, .bool a, v], .agg #[.int .u32 i, .bool a, u]] w fun e w' => e = .returned (.bool true) ∧ Below w.heap.size w w' :=
  (sameW.frame_any i i a a v u l l w h h').mono fun e w' ⟨h1, h2⟩ => ⟨by rw [h1]; simp, h2⟩

set_option maxRecDepth 100000 in
set_option maxHeartbeats 4000000 in
theorem walk (v : Value) (l : List Bool) (w : World) (hs : Sl w w.heap.size Value.bool v l) (hlen : l.length ≤ 140737488351232) (hG : asK.ErrT w) (i : Int) (wd : Bool) (L : List Int) (E : Value) (fa fb : Int) (fc : Bool) (hL : L.length ≤ 1000)
    (hD : ∀ W v, Sl W W.heap.size Value.bool v l → Calls Tryd.prog 25 #[v] W (Ans W i wd L E))
    (hR : ∀ W v, Sl W W.heap.size Value.bool v l → Calls Tryd.prog 26 #[v] W (Ans W i wd L (.agg #[.int .i64 fa, .int .i64 fb, .bool fc])))
    (hT : ∀ W, asK.ErrT W → Calls Tryd.prog 28 #[E, .agg #[.int .i64 fa, .int .i64 fb, .bool fc]] W fun e w' => e = .returned (.bool true) ∧ Below W.heap.size W w') :
    Calls Tryd.prog 5 #[v] w fun e w' => e = .returned (.bool true) ∧ Below w.heap.size w w' := by
  have HS := Lib.hid hs; clear hs
  have HG := Lib.hid hG; clear hG
  have HD := Lib.hid hD; clear hD
  have HR := Lib.hid hR; clear hR
  have HT := Lib.hid hT; clear hT
  go_enter Tryd.func5, Tryd.ntmps5
  go_wp2_with fail
  refine (boolK.lent_any v l _ HS.out hlen).mono ?_
  rintro e w1 ⟨vx, rfl, hx, hb1⟩
  have HX1 := Lib.hid hx
  have HLX := Lib.hid (lent_lt hx)
  have HB1 := Lib.hid hb1
  clear hx hb1
  go_wp2_with fail
  refine (HD.out _ _ (sl_of HX1.out)).mono ?_
  intro e w2 hw
  obtain ⟨va, rfl, ho, hb⟩ := hw
  obtain ⟨Aa, ca, rfl⟩ := decW.own_slice ho
  have HLa := Lib.hid (fun q hq => (ho.lt q hq).2)
  obtain ⟨W2, hW2⟩ : ∃ W2, W2 = w2.alloc (.cells #[.int .u32 i, .bool wd, .slice Aa L.length ca] 46) := ⟨_, rfl⟩
  have ha : Below w2.heap.size w2 W2 := by rw [hW2]; exact (Below.refl _ w2).alloc (Nat.le_refl _) _
  have HP2 := Lib.hid (show Has W2 w2.heap.size 46 #[.int .u32 i, .bool wd, .slice Aa L.length ca] by rw [hW2]; exact Has.new w2 _ _)
  have HO2 := Lib.hid (own_kept ho ha)
  have HX2 := Lib.hid ((HX1.out.below hb).below ha)
  have HB2 := Lib.hid ((HB1.out.trans (hb.mono HB1.out.size)).trans (ha.mono (HB1.out.trans (hb.mono HB1.out.size)).size))
  have HZ2 := Lib.hid (show w1.heap.size ≤ w2.heap.size from hb.size)
  have HZ2' := Lib.hid (show w2.heap.size + 1 = W2.heap.size by rw [hW2]; simp)
  have HW2 := Lib.hid hW2
  clear hW2 ho hb ha
  go_wp2_with fail
  rw [← HW2.out]
  refine (HD.out _ _ (sl_of HX2.out)).mono ?_
  intro e w3 hw
  obtain ⟨vb, rfl, ho, hb⟩ := hw
  obtain ⟨Ab, cb, rfl⟩ := decW.own_slice ho
  obtain ⟨W3, hW3⟩ : ∃ W3, W3 = w3.alloc (.cells #[.int .u32 i, .bool wd, .slice Ab L.length cb] 46) := ⟨_, rfl⟩
  have ha : Below w3.heap.size w3 W3 := by rw [hW3]; exact (Below.refl _ w3).alloc (Nat.le_refl _) _
  have hba : Below W2.heap.size W2 W3 := hb.trans (ha.mono hb.size)
  have HQ3 := Lib.hid (show Has W3 w3.heap.size 46 #[.int .u32 i, .bool wd, .slice Ab L.length cb] by rw [hW3]; exact Has.new w3 _ _)
  have HP3 := Lib.hid (HP2.out.below hba HP2.out.lt)
  have HO3 := Lib.hid (own_kept HO2.out hba)
  have HU3 := Lib.hid (own_kept ho ha)
  have HX3 := Lib.hid (HX2.out.below hba)
  have HB3 := Lib.hid (HB2.out.trans (hba.mono HB2.out.size))
  have HZ3 := Lib.hid (show W2.heap.size ≤ w3.heap.size from hb.size)
  have HZ3' := Lib.hid (show w3.heap.size + 1 = W3.heap.size by rw [hW3]; simp)
  have HW3 := Lib.hid hW3
  clear hW3 ho hb ha hba
  go_wp2_with fail
  rw [← HW3.out]
  refine (HR.out _ _ (HS.out.at_below HB3.out)).mono ?_
  intro e w4 hw
  obtain ⟨vr, rfl, ho, hb⟩ := hw
  obtain ⟨Ar, cr, rfl⟩ := decW.own_slice ho
  obtain ⟨W4, hW4⟩ : ∃ W4, W4 = (w4.alloc (.cells #[.int .u32 i, .bool wd, .slice Ar L.length cr] 46)).alloc (.cells #[.int .i64 fa, .int .i64 fb, .bool fc] 62) := ⟨_, rfl⟩
  have ha : Below w4.heap.size w4 W4 := by rw [hW4]; exact ((Below.refl _ w4).alloc (Nat.le_refl _) _).alloc (by simp) _
  have hba : Below W3.heap.size W3 W4 := hb.trans (ha.mono hb.size)
  have hPw := HP3.out.below hb HP3.out.lt
  have c0 := hPw.cell 0
  have c1 := hPw.cell 1
  have c2 := hPw.cell 2
  have hlt2 := hPw.lt
  simp only [List.getElem?_toArray, List.getElem?_cons_zero, List.getElem?_cons_succ] at c0 c1 c2
  have HR4 := Lib.hid (show Has W4 w4.heap.size 46 #[.int .u32 i, .bool wd, .slice Ar L.length cr] by rw [hW4]; exact (Has.new w4 _ _).alloc _)
  have HF4 := Lib.hid (show Has W4 (w4.heap.size + 1) 62 #[.int .i64 fa, .int .i64 fb, .bool fc] by rw [hW4]; exact decW.arr_new w4 _ _ _)
  have HP4 := Lib.hid (HP3.out.below hba HP3.out.lt)
  have HQ4 := Lib.hid (HQ3.out.below hba HQ3.out.lt)
  have HO4 := Lib.hid (own_kept HO3.out hba)
  have HU4 := Lib.hid (own_kept HU3.out hba)
  have HV4 := Lib.hid (own_kept ho ha)
  have HX4 := Lib.hid (HX3.out.below hba)
  have HB4 := Lib.hid (HB3.out.trans (hba.mono HB3.out.size))
  have HZ4 := Lib.hid (show W3.heap.size ≤ W4.heap.size from hba.size)
  have HW4 := Lib.hid hW4
  have h4z : w4.heap.size + 1 + 1 = W4.heap.size := by rw [hW4]; simp
  have H4Z := Lib.hid h4z
  clear hW4 ho hb ha hba h4z hPw
  go_wp2_with fail
  rw [← HW4.out]
  clear c0 c1 c2 hlt2
  refine (frame_yes i wd _ _ L _ (Sl.of_own HO4.out) (Sl.of_own HV4.out)).mono ?_
  rintro e w5 ⟨rfl, hb⟩
  have HP5 := Lib.hid (HP4.out.below hb HP4.out.lt)
  have HQ5 := Lib.hid (HQ4.out.below hb HQ4.out.lt)
  have HR5 := Lib.hid (HR4.out.below hb HR4.out.lt)
  have HF5 := Lib.hid (HF4.out.below hb HF4.out.lt)
  have HO5 := Lib.hid (own_kept HO4.out hb)
  have HU5 := Lib.hid (own_kept HU4.out hb)
  have HV5 := Lib.hid (own_kept HV4.out hb)
  have HX5 := Lib.hid (HX4.out.below hb)
  have HB5 := Lib.hid (HB4.out.trans (hb.mono HB4.out.size))
  have HZ5 := Lib.hid hb.size
  clear hb
  have c0 := HQ5.out.cell 0
  have c1 := HQ5.out.cell 1
  have c2 := HQ5.out.cell 2
  simp only [List.getElem?_toArray, List.getElem?_cons_zero, List.getElem?_cons_succ] at c0 c1 c2
  have d0 := HR5.out.cell 0
  have d1 := HR5.out.cell 1
  have d2 := HR5.out.cell 2
  simp only [List.getElem?_toArray, List.getElem?_cons_zero, List.getElem?_cons_succ] at d0 d1 d2
  go_wp2_with fail
  clear c0 c1 c2 d0 d1 d2
  refine (frame_yes i wd _ _ L _ (Sl.of_own HU5.out) (Sl.of_own HV5.out)).mono ?_
  rintro e w6 ⟨rfl, hb⟩
  have HP6 := Lib.hid (HP5.out.below hb HP5.out.lt)
  have HQ6 := Lib.hid (HQ5.out.below hb HQ5.out.lt)
  have HR6 := Lib.hid (HR5.out.below hb HR5.out.lt)
  have HF6 := Lib.hid (HF5.out.below hb HF5.out.lt)
  have HO6 := Lib.hid (own_kept HO5.out hb)
  have HU6 := Lib.hid (own_kept HU5.out hb)
  have HV6 := Lib.hid (own_kept HV5.out hb)
  have HX6 := Lib.hid (HX5.out.below hb)
  have HB6 := Lib.hid (HB5.out.trans (hb.mono HB5.out.size))
  have HZ6 := Lib.hid hb.size
  clear hb
  have d0 := HF6.out.cell 0
  have d1 := HF6.out.cell 1
  have d2 := HF6.out.cell 2
  simp only [List.getElem?_toArray, List.getElem?_cons_zero, List.getElem?_cons_succ] at d0 d1 d2
  go_wp2_with fail
  clear d0 d1 d2
  refine (HT.out _ (HG.out.at_below HB6.out)).mono ?_
  rintro e w7 ⟨rfl, hb⟩
  have HP7 := Lib.hid (HP6.out.below hb HP6.out.lt)
  have HQ7 := Lib.hid (HQ6.out.below hb HQ6.out.lt)
  have HR7 := Lib.hid (HR6.out.below hb HR6.out.lt)
  have HF7 := Lib.hid (HF6.out.below hb HF6.out.lt)
  have HO7 := Lib.hid (own_kept HO6.out hb)
  have HU7 := Lib.hid (own_kept HU6.out hb)
  have HV7 := Lib.hid (own_kept HV6.out hb)
  have HX7 := Lib.hid (HX6.out.below hb)
  have HB7 := Lib.hid (HB6.out.trans (hb.mono HB6.out.size))
  have HZ7 := Lib.hid hb.size
  clear hb
  have d0 := HF7.out.cell 0
  have d1 := HF7.out.cell 1
  have d2 := HF7.out.cell 2
  simp only [List.getElem?_toArray, List.getElem?_cons_zero, List.getElem?_cons_succ] at d0 d1 d2
  go_wp2_with fail
  clear d0 d1 d2
  refine (HT.out _ (HG.out.at_below HB7.out)).mono ?_
  rintro e w8 ⟨rfl, hb⟩
  have HP8 := Lib.hid (HP7.out.below hb HP7.out.lt)
  have HQ8 := Lib.hid (HQ7.out.below hb HQ7.out.lt)
  have HR8 := Lib.hid (HR7.out.below hb HR7.out.lt)
  have HF8 := Lib.hid (HF7.out.below hb HF7.out.lt)
  have HO8 := Lib.hid (own_kept HO7.out hb)
  have HU8 := Lib.hid (own_kept HU7.out hb)
  have HV8 := Lib.hid (own_kept HV7.out hb)
  have HX8 := Lib.hid (HX7.out.below hb)
  have HB8 := Lib.hid (HB7.out.trans (hb.mono HB7.out.size))
  have HZ8 := Lib.hid hb.size
  clear hb
  have c0 := HP8.out.cell 0
  have c1 := HP8.out.cell 1
  have c2 := HP8.out.cell 2
  simp only [List.getElem?_toArray, List.getElem?_cons_zero, List.getElem?_cons_succ] at c0 c1 c2
  have d0 := HQ8.out.cell 0
  have d1 := HQ8.out.cell 1
  have d2 := HQ8.out.cell 2
  simp only [List.getElem?_toArray, List.getElem?_cons_zero, List.getElem?_cons_succ] at d0 d1 d2
  go_wp2_with fail
  refine (apartBytes.apart_any w8.heap.size w1.heap.size [(.slice Aa L.length ca, L), (.slice Ab L.length cb, L)] _ ?a1 ?a2 ?a3 ?a4 ?a5 ?a6).mono ?_
  case a1 => exact Has.new w8 _ _
  case a2 => exact (farm2 HO8.out HU8.out (by have := HZ2.out; have := HZ2'.out; omega) (fun q hq => by have := HLa.out q hq; have := HZ2'.out; omega)).below (by exact (Below.refl _ w8).alloc (Nat.le_refl _) _)
  case a3 =>
    have z1 := HZ2.out
    have z2 := HZ2'.out
    have z3 := HZ3.out
    have z4 := HZ3'.out
    have z5 := HZ4.out
    have z6 := HZ5.out
    have z7 := HZ6.out
    have z8 := HZ7.out
    have z9 := HZ8.out
    simp
    omega
  case a4 => simp
  case a5 => simp
  case a6 =>
    intro p hp
    simp at hp
    rcases hp with rfl | rfl
    · exact Nat.le_trans hL (by omega)
    · exact Nat.le_trans hL (by omega)
  rintro e w9 ⟨rfl, hb⟩
  have hz18 : w1.heap.size ≤ w8.heap.size := by
    have z1 := HZ2.out
    have z2 := HZ2'.out
    have z3 := HZ3.out
    have z4 := HZ3'.out
    have z5 := HZ4.out
    have z6 := HZ5.out
    have z7 := HZ6.out
    have z8 := HZ7.out
    have z9 := HZ8.out
    omega
  have hb3 : Below w1.heap.size w8 w9 := Below.trans (b := _) (by exact (Below.refl _ w8).alloc hz18 _) hb
  have HX9 := Lib.hid (lent_below HX8.out hb3 HLX.out)
  have HB9 := Lib.hid (HB8.out.trans (hb3.mono HB1.out.size))
  clear hb hb3 c0 c1 c2 d0 d1 d2
  go_wp2_with fail
  refine (boolK.kept_yes vx v l w9 w9.heap.size w.heap.size HX9.out (HS.out.at_below HB9.out) hlen).mono ?_
  rintro e w10 ⟨rfl, n10, rfl⟩
  go_wp2
  go_ret
  exact ⟨rfl, below_drewN HB9.out _⟩
end Go.Proofs.YthjjockimpndbaaDoor.frameDecW
