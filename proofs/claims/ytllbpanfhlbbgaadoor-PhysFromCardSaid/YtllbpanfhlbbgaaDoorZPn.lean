/- Texts of this claim, one behind the other. No condition but those that each states. -/
import Derived.Test.YtllbpanfhlbbgaaDoorNatA
import Derived.Test.YtllbpanfhlbbgaaDoorRatD
import Derived.Test.YtllbpanfhlbbgaaDoorPhysLaw
import Derived.OrdersHeld
import Derived.RegionTactic

namespace Go.Proofs.YtllbpanfhlbbgaaDoor
open Go.RowKit Go.Bus Go.Nt Go.Rt
set_option linter.unusedVariables false
set_option linter.unusedSimpArgs false
namespace natW
def mulN (an ad bn bd : Int) : Value := if ratW.rightB an ad && ratW.rightB bn bd then ratN (ratW.mulO an ad bn bd) else ratZ 1
def divN (an ad bn bd : Int) : Value := if ratW.rightB an ad && ratW.rightB bn bd then (if bn = 0 then ratZ 10 else ratN (ratW.divO an ad bn bd)) else ratZ 1
theorem threeT {a b c T U V : Nat} {X Y Z : Array Value} {w W W' : World} (h : Has W a T X ∧ Has W b U Y ∧ Has W c V Z ∧ Below w.heap.size w W) (hb : Below W.heap.size W W') : Has W' a T X ∧ Has W' b U Y ∧ Has W' c V Z ∧ Below w.heap.size w W' :=
  ⟨h.1.below hb h.1.lt, h.2.1.below hb h.2.1.lt, h.2.2.1.below hb h.2.2.1.lt, h.2.2.2.trans (hb.mono h.2.2.2.size)⟩
theorem of_slices (n d : Int) (w : World) (h1 : -9223372036854775808 ≤ n) (h2 : n < 9223372036854775808) (h3 : -9223372036854775808 ≤ d) (h4 : d < 9223372036854775808) :
    Calls Tryd.prog 45 #[.agg #[.int .i64 n, .int .i64 d]] w fun e w' => ∃ A m c B k l, e = .returned (.agg #[.bool (decide (n < 0)), .slice A m c, .slice B k l]) ∧ (Nt w' (.slice A m c) n.natAbs ∧ Nt w' (.slice B k l) d.natAbs) ∧ Below w.heap.size w w' :=
  (of_any n d w h1 h2 h3 h4).mono fun e w' ⟨v, e1, ⟨x, y, e2, h, h'⟩, e3⟩ => by
    obtain ⟨A, c, rfl, _⟩ := Sl.form h
    obtain ⟨B, l, rfl, _⟩ := Sl.form h'
    subst e2
    exact ⟨A, _, c, B, _, l, e1, ⟨h, h'⟩, e3⟩

set_option maxRecDepth 100000 in
set_option maxHeartbeats 4000000 in
theorem rmul_any (an ad bn bd : Int) (w : World) (h1 : -9223372036854775808 ≤ an) (h2 : an < 9223372036854775808) (h3 : -9223372036854775808 ≤ ad) (h4 : ad < 9223372036854775808) (h5 : -9223372036854775808 ≤ bn) (h6 : bn < 9223372036854775808) (h7 : -9223372036854775808 ≤ bd) (h8 : bd < 9223372036854775808) :
    Calls Tryd.prog 23 #[.agg #[.int .i64 an, .int .i64 ad], .agg #[.int .i64 bn, .int .i64 bd]] w fun e w' => e = .returned (mulN an ad bn bd) ∧ Below w.heap.size w w' := by
  have CR1 : Hid (∀ W, Calls Tryd.prog 35 #[.agg #[.int .i64 an, .int .i64 ad]] W fun e w' => e = .returned (.bool (ratW.rightB an ad)) ∧ Below W.heap.size W w') := Lib.hid fun W => rright_any an ad W h1 h2 h3 h4
  have CR2 : Hid (∀ W, Calls Tryd.prog 35 #[.agg #[.int .i64 bn, .int .i64 bd]] W fun e w' => e = .returned (.bool (ratW.rightB bn bd)) ∧ Below W.heap.size W w') := Lib.hid fun W => rright_any bn bd W h5 h6 h7 h8
  have C1 : Hid (∀ W, Calls Tryd.prog 45 #[.agg #[.int .i64 an, .int .i64 ad]] W fun e w' => ∃ A m c B n d, e = .returned (.agg #[.bool (decide (an < 0)), .slice A m c, .slice B n d]) ∧ (Nt w' (.slice A m c) an.natAbs ∧ Nt w' (.slice B n d) ad.natAbs) ∧ Below W.heap.size W w') := Lib.hid fun W => of_slices an ad W h1 h2 h3 h4
  have C2 : Hid (∀ W, Calls Tryd.prog 45 #[.agg #[.int .i64 bn, .int .i64 bd]] W fun e w' => ∃ A m c B n d, e = .returned (.agg #[.bool (decide (bn < 0)), .slice A m c, .slice B n d]) ∧ (Nt w' (.slice A m c) bn.natAbs ∧ Nt w' (.slice B n d) bd.natAbs) ∧ Below W.heap.size W w') := Lib.hid fun W => of_slices bn bd W h5 h6 h7 h8
  have CT1 : Hid (∀ W u v, Nt W u an.natAbs → Nt W v bn.natAbs → Calls Tryd.prog 47 #[u, v] W fun e w' => ∃ A m c, e = .returned (.slice A m c) ∧ Nt w' (.slice A m c) (an.natAbs * bn.natAbs) ∧ Below W.heap.size W w') := Lib.hid fun W u v hu hv => (times_new u v _ _ W hu hv (Nat.le_trans (len_64 (by omega)) (by decide)) (Nat.le_trans (len_64 (by omega)) (by decide))).mono fun e w' ⟨A, m, c, a1, a2, a3, a4⟩ => ⟨A, m, c, a1, a2, a4⟩
  have CT2 : Hid (∀ W u v, Nt W u ad.natAbs → Nt W v bd.natAbs → Calls Tryd.prog 47 #[u, v] W fun e w' => ∃ A m c, e = .returned (.slice A m c) ∧ Nt w' (.slice A m c) (ad.natAbs * bd.natAbs) ∧ Below W.heap.size W w') := Lib.hid fun W u v hu hv => (times_new u v _ _ W hu hv (Nat.le_trans (len_64 (by omega)) (by decide)) (Nat.le_trans (len_64 (by omega)) (by decide))).mono fun e w' ⟨A, m, c, a1, a2, a3, a4⟩ => ⟨A, m, c, a1, a2, a4⟩
  have CL : Hid (∀ W v v', Nt W v (an.natAbs * bn.natAbs) → Nt W v' (ad.natAbs * bd.natAbs) → ratW.rightB an ad = true → ratW.rightB bn bd = true → Calls Tryd.prog 46 #[.agg #[.bool (decide (an < 0) != decide (bn < 0)), v, v']] W fun e w' => e = .returned (ratN (ratW.mulO an ad bn bd)) ∧ Below W.heap.size W w') := Lib.hid fun W v v' hv hv' ra rb => by
    have p1 := right_pos ra
    have p2 := right_pos rb
    have hq := ratW.mul_q2 (an := an) (bn := bn) (ad := ad.natAbs) (bd := bd.natAbs) (by omega) (by omega)
    rw [show ratW.mulO an ad bn bd = fitR (Rat.divInt (sg (decide (an < 0) != decide (bn < 0)) (an.natAbs * bn.natAbs)) ((ad.natAbs * bd.natAbs : Nat) : Int)) from by
      unfold ratW.mulO
      rw [show ratW.Q an ad = ratW.Q an (ad.natAbs : Int) from by rw [show ((ad.natAbs : Nat) : Int) = ad from by omega], show ratW.Q bn bd = ratW.Q bn (bd.natAbs : Int) from by rw [show ((bd.natAbs : Nat) : Int) = bd from by omega], ← hq]
      rfl]
    exact lowest_any _ _ _ _ W ⟨v, v', rfl, hv, hv'⟩ (Nat.mul_pos (by omega) (by omega)) (Nat.le_trans len_mul (Nat.le_trans (Nat.add_le_add (len_64 (by omega)) (len_64 (by omega))) (by decide))) (Nat.le_trans len_mul (Nat.le_trans (Nat.add_le_add (len_64 (by omega)) (len_64 (by omega))) (by decide)))
  obtain ⟨fx, fy, fn, hF⟩ := ratN_form (ratW.mulO an ad bn bd)
  obtain ⟨F, hFF⟩ : ∃ F, F = mulN an ad bn bd := ⟨_, rfl⟩
  rw [← hFF]
  have hF0 : ratW.rightB an ad = false → F = ratZ 1 := fun h => by rw [hFF]; unfold mulN; rw [h]; rfl
  have hF1 : ratW.rightB an ad = true → ratW.rightB bn bd = false → F = ratZ 1 := fun h h' => by rw [hFF]; unfold mulN; rw [h, h']; rfl
  have hF2 : ratW.rightB an ad = true → ratW.rightB bn bd = true → F = .tuple #[.agg #[.int .i64 fx, .int .i64 fy], .int .i64 fn] := fun h h' => by rw [hFF, ← hF]; unfold mulN; rw [h, h']; rfl
  rw [hF] at CL
  have HF0 := Lib.hid hF0
  have HF1 := Lib.hid hF1
  have HF2 := Lib.hid hF2
  clear h1 h2 h3 h4 h5 h6 h7 h8 hF hFF hF0 hF1 hF2
  obtain ⟨ra, hra⟩ : ∃ r, r = ratW.rightB an ad := ⟨_, rfl⟩
  obtain ⟨rb, hrb⟩ : ∃ r, r = ratW.rightB bn bd := ⟨_, rfl⟩
  rw [← hra] at CR1
  rw [← hrb] at CR2
  have HRA := Lib.hid hra
  have HRB := Lib.hid hrb
  clear hra hrb
  obtain ⟨s1, hs1⟩ : ∃ s, s = decide (an < 0) := ⟨_, rfl⟩
  obtain ⟨s2, hs2⟩ : ∃ s, s = decide (bn < 0) := ⟨_, rfl⟩
  rw [← hs1] at C1
  rw [← hs2] at C2
  rw [← hs1, ← hs2] at CL
  clear hs1 hs2
  go_enter Tryd.func23, Tryd.ntmps23
  go_upto_region 1 with fail
  have hH0 : Has (((w.alloc (Obj.cells #[.int .i64 an, .int .i64 ad] 26)).alloc (Obj.cells #[.int .i64 bn, .int .i64 bd] 26)).alloc (Obj.cells #[.int .i64 0, .int .i64 0] 26)) w.heap.size 26 #[.int .i64 an, .int .i64 ad] := ((Has.new w _ _).alloc _).alloc _
  have hH1 : Has (((w.alloc (Obj.cells #[.int .i64 an, .int .i64 ad] 26)).alloc (Obj.cells #[.int .i64 bn, .int .i64 bd] 26)).alloc (Obj.cells #[.int .i64 0, .int .i64 0] 26)) (w.heap.size + 1) 26 #[.int .i64 bn, .int .i64 bd] := (Has.new1 w _ _ _).alloc _
  have hH2 : Has (((w.alloc (Obj.cells #[.int .i64 an, .int .i64 ad] 26)).alloc (Obj.cells #[.int .i64 bn, .int .i64 bd] 26)).alloc (Obj.cells #[.int .i64 0, .int .i64 0] 26)) (w.heap.size + 1 + 1) 26 #[.int .i64 0, .int .i64 0] := Has.new2 w _ _ _ _
  have hBB : Below w.heap.size w (((w.alloc (Obj.cells #[.int .i64 an, .int .i64 ad] 26)).alloc (Obj.cells #[.int .i64 bn, .int .i64 bd] 26)).alloc (Obj.cells #[.int .i64 0, .int .i64 0] 26)) := (by repeat' (first | (with_reducible assumption) | (with_reducible refine Below.setCell ?_ ?_ _) | (with_reducible refine Below.alloc ?_ ?_ _) | (with_reducible refine Below.drew ?_) | (with_reducible refine below_drewN ?_ _) | (with_reducible exact Below.refl _ _) | (show _ ≤ _; (try simp); (try omega); done) | exact Below.refl _ _ | assumption))
  have HW0 := Lib.hid (And.intro hH0 (And.intro hH1 (And.intro hH2 hBB)))
  clear hH0 hH1 hH2 hBB
  generalize (((w.alloc (Obj.cells #[.int .i64 an, .int .i64 ad] 26)).alloc (Obj.cells #[.int .i64 bn, .int .i64 bd] 26)).alloc (Obj.cells #[.int .i64 0, .int .i64 0] 26)) = W0 at HW0 ⊢
  have ja0 : W0.cell? ⟨w.heap.size, 0, none⟩ = some (.int .i64 an) := HW0.out.1.cell 0
  have ja1 : W0.cell? ⟨w.heap.size, 1, none⟩ = some (.int .i64 ad) := HW0.out.1.cell 1
  have jb0 : W0.cell? ⟨w.heap.size + 1, 0, none⟩ = some (.int .i64 bn) := HW0.out.2.1.cell 0
  have jb1 : W0.cell? ⟨w.heap.size + 1, 1, none⟩ = some (.int .i64 bd) := HW0.out.2.1.cell 1
  go_wp2_with fail
  refine (CR1.out W0).mono ?_
  rintro e w1 ⟨rfl, hb⟩
  have HW1 : Hid (Has w1 w.heap.size 26 #[.int .i64 an, .int .i64 ad] ∧ Has w1 (w.heap.size + 1) 26 #[.int .i64 bn, .int .i64 bd] ∧ Has w1 (w.heap.size + 1 + 1) 26 #[.int .i64 0, .int .i64 0] ∧ Below w.heap.size w w1) := Lib.hid (threeT HW0.out hb)
  clear hb CR1 HW0
  clear ja0 ja1 jb0 jb1
  have ja0 : w1.cell? ⟨w.heap.size, 0, none⟩ = some (.int .i64 an) := HW1.out.1.cell 0
  have ja1 : w1.cell? ⟨w.heap.size, 1, none⟩ = some (.int .i64 ad) := HW1.out.1.cell 1
  have jb0 : w1.cell? ⟨w.heap.size + 1, 0, none⟩ = some (.int .i64 bn) := HW1.out.2.1.cell 0
  have jb1 : w1.cell? ⟨w.heap.size + 1, 1, none⟩ = some (.int .i64 bd) := HW1.out.2.1.cell 1
  cases ra
  · have t0 : w1.cell? ⟨w.heap.size + 1 + 1, 0, none⟩ = some (.int .i64 0) := HW1.out.2.2.1.cell 0
    have t1 : w1.cell? ⟨w.heap.size + 1 + 1, 1, none⟩ = some (.int .i64 0) := HW1.out.2.2.1.cell 1
    have tf0 := HW1.out.2.2.1.frozen 0
    have tf1 := HW1.out.2.2.1.frozen 1
    have tz := HW1.out.2.2.1.lt
    go_wp2
    refine bodyPost_ret (results_block2 (g := w.heap.size + 1 + 1) (T := 26) rfl rfl (by exact (HW1.out.2.2.1.set 0 _).set 1 _) rfl Tryd.underlying26 rfl (by kernel_rfl)) rfl ?_
    exact ⟨by rw [HF0.out HRA.out.symm]; rfl, (HW1.out.2.2.2.setCell (by dsimp only; omega) _).setCell (by dsimp only; omega) _⟩
  go_wp2_with fail
  refine (CR2.out w1).mono ?_
  rintro e w2 ⟨rfl, hb⟩
  have HW2 : Hid (Has w2 w.heap.size 26 #[.int .i64 an, .int .i64 ad] ∧ Has w2 (w.heap.size + 1) 26 #[.int .i64 bn, .int .i64 bd] ∧ Has w2 (w.heap.size + 1 + 1) 26 #[.int .i64 0, .int .i64 0] ∧ Below w.heap.size w w2) := Lib.hid (threeT HW1.out hb)
  clear hb CR2 HW1
  clear ja0 ja1 jb0 jb1
  have ja0 : w2.cell? ⟨w.heap.size, 0, none⟩ = some (.int .i64 an) := HW2.out.1.cell 0
  have ja1 : w2.cell? ⟨w.heap.size, 1, none⟩ = some (.int .i64 ad) := HW2.out.1.cell 1
  have jb0 : w2.cell? ⟨w.heap.size + 1, 0, none⟩ = some (.int .i64 bn) := HW2.out.2.1.cell 0
  have jb1 : w2.cell? ⟨w.heap.size + 1, 1, none⟩ = some (.int .i64 bd) := HW2.out.2.1.cell 1
  cases rb
  · have t0 : w2.cell? ⟨w.heap.size + 1 + 1, 0, none⟩ = some (.int .i64 0) := HW2.out.2.2.1.cell 0
    have t1 : w2.cell? ⟨w.heap.size + 1 + 1, 1, none⟩ = some (.int .i64 0) := HW2.out.2.2.1.cell 1
    have tf0 := HW2.out.2.2.1.frozen 0
    have tf1 := HW2.out.2.2.1.frozen 1
    have tz := HW2.out.2.2.1.lt
    go_wp2
    refine bodyPost_ret (results_block2 (g := w.heap.size + 1 + 1) (T := 26) rfl rfl (by exact (HW2.out.2.2.1.set 0 _).set 1 _) rfl Tryd.underlying26 rfl (by kernel_rfl)) rfl ?_
    exact ⟨by rw [HF1.out HRA.out.symm HRB.out.symm]; rfl, (HW2.out.2.2.2.setCell (by dsimp only; omega) _).setCell (by dsimp only; omega) _⟩
  go_wp2_with fail
  refine (C1.out w2).mono ?_
  rintro e w3 ⟨FA, fm, fc, GA, gm, gc, rfl, hn, hb⟩
  have HW3 : Hid (Has w3 w.heap.size 26 #[.int .i64 an, .int .i64 ad] ∧ Has w3 (w.heap.size + 1) 26 #[.int .i64 bn, .int .i64 bd] ∧ Has w3 (w.heap.size + 1 + 1) 26 #[.int .i64 0, .int .i64 0] ∧ Below w.heap.size w w3) := Lib.hid (threeT HW2.out hb)
  have HNF := Lib.hid hn
  clear hn hb C1 HW2
  clear ja0 ja1 jb0 jb1
  go_upto_region 4 with fail
  have HW4 : Hid (Has (w3.alloc (Obj.cells #[.bool s1, .slice FA fm fc, .slice GA gm gc] 84)) w.heap.size 26 #[.int .i64 an, .int .i64 ad] ∧ Has (w3.alloc (Obj.cells #[.bool s1, .slice FA fm fc, .slice GA gm gc] 84)) (w.heap.size + 1) 26 #[.int .i64 bn, .int .i64 bd] ∧ Has (w3.alloc (Obj.cells #[.bool s1, .slice FA fm fc, .slice GA gm gc] 84)) (w.heap.size + 1 + 1) 26 #[.int .i64 0, .int .i64 0] ∧ Below w.heap.size w (w3.alloc (Obj.cells #[.bool s1, .slice FA fm fc, .slice GA gm gc] 84))) := Lib.hid ⟨HW3.out.1.alloc _, HW3.out.2.1.alloc _, HW3.out.2.2.1.alloc _, HW3.out.2.2.2.alloc HW3.out.2.2.2.size _⟩
  have HFB : Hid (Has (w3.alloc (Obj.cells #[.bool s1, .slice FA fm fc, .slice GA gm gc] 84)) w3.heap.size 84 #[.bool s1, .slice FA fm fc, .slice GA gm gc]) := Lib.hid (Has.new w3 _ _)
  have HNF4 : Hid (Nt (w3.alloc (Obj.cells #[.bool s1, .slice FA fm fc, .slice GA gm gc] 84)) (.slice FA fm fc) an.natAbs ∧ Nt (w3.alloc (Obj.cells #[.bool s1, .slice FA fm fc, .slice GA gm gc] 84)) (.slice GA gm gc) ad.natAbs) := Lib.hid ⟨HNF.out.1.at_below ((Below.refl _ _).alloc (Nat.le_refl _) _), HNF.out.2.at_below ((Below.refl _ _).alloc (Nat.le_refl _) _)⟩
  obtain ⟨bf, hbf⟩ : ∃ b, b = w3.heap.size := ⟨_, rfl⟩
  rw [← hbf] at HFB ⊢
  have Hbf : Hid (w.heap.size + 1 + 1 < bf) := Lib.hid (by rw [hbf]; exact HW3.out.2.2.1.lt)
  clear hbf HW3 HNF
  generalize w3.alloc (Obj.cells #[.bool s1, .slice FA fm fc, .slice GA gm gc] 84) = w4 at HW4 HFB HNF4 ⊢
  have ja0 : w4.cell? ⟨w.heap.size, 0, none⟩ = some (.int .i64 an) := HW4.out.1.cell 0
  have ja1 : w4.cell? ⟨w.heap.size, 1, none⟩ = some (.int .i64 ad) := HW4.out.1.cell 1
  have jb0 : w4.cell? ⟨w.heap.size + 1, 0, none⟩ = some (.int .i64 bn) := HW4.out.2.1.cell 0
  have jb1 : w4.cell? ⟨w.heap.size + 1, 1, none⟩ = some (.int .i64 bd) := HW4.out.2.1.cell 1
  go_wp2_with fail
  refine (C2.out w4).mono ?_
  rintro e w5 ⟨HA, hm, hc, KA, km, kc, rfl, hn, hb⟩
  have HW5 : Hid (Has w5 bf 84 #[.bool s1, .slice FA fm fc, .slice GA gm gc] ∧ Has w5 (w.heap.size + 1 + 1) 26 #[.int .i64 0, .int .i64 0] ∧ Below w.heap.size w w5) := Lib.hid ⟨HFB.out.below hb HFB.out.lt, HW4.out.2.2.1.below hb HW4.out.2.2.1.lt, HW4.out.2.2.2.trans (hb.mono HW4.out.2.2.2.size)⟩
  have HNF5 := Lib.hid (And.intro (HNF4.out.1.at_below hb) (HNF4.out.2.at_below hb))
  have HNG := Lib.hid hn
  clear hn hb C2 HW4 HFB HNF4
  clear ja0 ja1 jb0 jb1
  go_upto_region 5 with fail
  have HW6 : Hid (Has (w5.alloc (Obj.cells #[.bool s2, .slice HA hm hc, .slice KA km kc] 84)) bf 84 #[.bool s1, .slice FA fm fc, .slice GA gm gc] ∧ Has (w5.alloc (Obj.cells #[.bool s2, .slice HA hm hc, .slice KA km kc] 84)) w5.heap.size 84 #[.bool s2, .slice HA hm hc, .slice KA km kc] ∧ Has (w5.alloc (Obj.cells #[.bool s2, .slice HA hm hc, .slice KA km kc] 84)) (w.heap.size + 1 + 1) 26 #[.int .i64 0, .int .i64 0] ∧ Below w.heap.size w (w5.alloc (Obj.cells #[.bool s2, .slice HA hm hc, .slice KA km kc] 84))) := Lib.hid ⟨HW5.out.1.alloc _, Has.new w5 _ _, HW5.out.2.1.alloc _, HW5.out.2.2.alloc HW5.out.2.2.size _⟩
  have HN6 : Hid ((Nt (w5.alloc (Obj.cells #[.bool s2, .slice HA hm hc, .slice KA km kc] 84)) (.slice FA fm fc) an.natAbs ∧ Nt (w5.alloc (Obj.cells #[.bool s2, .slice HA hm hc, .slice KA km kc] 84)) (.slice GA gm gc) ad.natAbs) ∧ Nt (w5.alloc (Obj.cells #[.bool s2, .slice HA hm hc, .slice KA km kc] 84)) (.slice HA hm hc) bn.natAbs ∧ Nt (w5.alloc (Obj.cells #[.bool s2, .slice HA hm hc, .slice KA km kc] 84)) (.slice KA km kc) bd.natAbs) := Lib.hid ⟨⟨HNF5.out.1.at_below ((Below.refl _ _).alloc (Nat.le_refl _) _), HNF5.out.2.at_below ((Below.refl _ _).alloc (Nat.le_refl _) _)⟩, HNG.out.1.at_below ((Below.refl _ _).alloc (Nat.le_refl _) _), HNG.out.2.at_below ((Below.refl _ _).alloc (Nat.le_refl _) _)⟩
  obtain ⟨bg, hbg⟩ : ∃ b, b = w5.heap.size := ⟨_, rfl⟩
  rw [← hbg] at HW6 ⊢
  have Hbg : Hid (bf < bg) := Lib.hid (by rw [hbg]; exact HW5.out.1.lt)
  clear hbg HW5 HNF5 HNG
  generalize w5.alloc (Obj.cells #[.bool s2, .slice HA hm hc, .slice KA km kc] 84) = w6 at HW6 HN6 ⊢
  have hbf := Hbf.out
  have hbg := Hbg.out
  have xf0 : w6.cell? ⟨bf, 0, none⟩ = some (Value.bool s1) := HW6.out.1.cell 0
  have xf1 : w6.cell? ⟨bf, 1, none⟩ = some (.slice FA fm fc) := HW6.out.1.cell 1
  have xf2 : w6.cell? ⟨bf, 2, none⟩ = some (.slice GA gm gc) := HW6.out.1.cell 2
  have xg0 : w6.cell? ⟨bg, 0, none⟩ = some (Value.bool s2) := HW6.out.2.1.cell 0
  have xg1 : w6.cell? ⟨bg, 1, none⟩ = some (.slice HA hm hc) := HW6.out.2.1.cell 1
  have xg2 : w6.cell? ⟨bg, 2, none⟩ = some (.slice KA km kc) := HW6.out.2.1.cell 2
  have hzz := HW6.out.2.2.1.lt
  have hzf := HW6.out.1.lt
  have hzg := HW6.out.2.1.lt
  go_region_held3 (fun W => W.cell? ⟨bf, 0, none⟩ = some (Value.bool s1) ∧ W.cell? ⟨bf, 1, none⟩ = some (.slice FA fm fc) ∧ W.cell? ⟨bf, 2, none⟩ = some (.slice GA gm gc) ∧ W.cell? ⟨bg, 0, none⟩ = some (Value.bool s2) ∧ W.cell? ⟨bg, 1, none⟩ = some (.slice HA hm hc) ∧ W.cell? ⟨bg, 2, none⟩ = some (.slice KA km kc) ∧ w.heap.size + 1 + 1 < W.heap.size ∧ bf < W.heap.size ∧ bg < W.heap.size)
    (first | exact ⟨by exact xf0, by exact xf1, by exact xf2, by exact xg0, by exact xg1, by exact xg2, by exact hzz, by exact hzf, by exact hzg⟩ | exact ⟨by assumption, by assumption, by assumption, by assumption, by assumption, by assumption, by assumption, by assumption, by assumption⟩ | exact ⟨by go_simp; done, by go_simp; done, by go_simp; done, by go_simp; done, by go_simp; done, by go_simp; done, by first | assumption | (simp; omega), by first | assumption | (simp; omega), by first | assumption | (simp; omega)⟩)
    (first
      | (go_at_call 47; refine (CT1.out w6.drew _ _ (by exact HN6.out.1.1) (by exact HN6.out.2.1)).mono ?_; rintro e w7 ⟨PA, pm, pc, rfl, hp, hb⟩; have HHw7 : Hid (Has w7 bf 84 #[.bool s1, .slice FA fm fc, .slice GA gm gc] ∧ Has w7 bg 84 #[.bool s2, .slice HA hm hc, .slice KA km kc] ∧ Has w7 (w.heap.size + 1 + 1) 26 #[.int .i64 0, .int .i64 0] ∧ Below w.heap.size w w7) := Lib.hid (threeT (by exact (show Has w6.drew bf 84 #[.bool s1, .slice FA fm fc, .slice GA gm gc] ∧ Has w6.drew bg 84 #[.bool s2, .slice HA hm hc, .slice KA km kc] ∧ Has w6.drew (w.heap.size + 1 + 1) 26 #[.int .i64 0, .int .i64 0] ∧ Below w.heap.size w w6.drew from ⟨HW6.out.1, HW6.out.2.1, HW6.out.2.2.1, HW6.out.2.2.2.drew⟩)) hb); have qw7xf0 : w7.cell? ⟨bf, 0, none⟩ = some (Value.bool s1) := HHw7.out.1.cell 0; have qw7xf1 : w7.cell? ⟨bf, 1, none⟩ = some (.slice FA fm fc) := HHw7.out.1.cell 1; have qw7xf2 : w7.cell? ⟨bf, 2, none⟩ = some (.slice GA gm gc) := HHw7.out.1.cell 2; have qw7xg0 : w7.cell? ⟨bg, 0, none⟩ = some (Value.bool s2) := HHw7.out.2.1.cell 0; have qw7xg1 : w7.cell? ⟨bg, 1, none⟩ = some (.slice HA hm hc) := HHw7.out.2.1.cell 1; have qw7xg2 : w7.cell? ⟨bg, 2, none⟩ = some (.slice KA km kc) := HHw7.out.2.1.cell 2; have hzw7 : w.heap.size + 1 + 1 < w7.heap.size := HHw7.out.2.2.1.lt; have hzfw7 : bf < w7.heap.size := HHw7.out.1.lt; have hzgw7 : bg < w7.heap.size := HHw7.out.2.1.lt; have HP7 := Lib.hid hp; have HN7 := Lib.hid (And.intro (Nt.at_below (w := w6.drew) (by exact HN6.out.1.2) hb) (Nt.at_below (w := w6.drew) (by exact HN6.out.2.2) hb)); clear hb hp CT1)
      | (go_at_call 47; refine (CT2.out w7 _ _ HN7.out.1 HN7.out.2).mono ?_; rintro e w8 ⟨QA, qm, qc, rfl, hp, hb⟩; have HHw8 : Hid (Has w8 bf 84 #[.bool s1, .slice FA fm fc, .slice GA gm gc] ∧ Has w8 bg 84 #[.bool s2, .slice HA hm hc, .slice KA km kc] ∧ Has w8 (w.heap.size + 1 + 1) 26 #[.int .i64 0, .int .i64 0] ∧ Below w.heap.size w w8) := Lib.hid (threeT (by exact HHw7.out) hb); have qw8xf0 : w8.cell? ⟨bf, 0, none⟩ = some (Value.bool s1) := HHw8.out.1.cell 0; have qw8xf1 : w8.cell? ⟨bf, 1, none⟩ = some (.slice FA fm fc) := HHw8.out.1.cell 1; have qw8xf2 : w8.cell? ⟨bf, 2, none⟩ = some (.slice GA gm gc) := HHw8.out.1.cell 2; have qw8xg0 : w8.cell? ⟨bg, 0, none⟩ = some (Value.bool s2) := HHw8.out.2.1.cell 0; have qw8xg1 : w8.cell? ⟨bg, 1, none⟩ = some (.slice HA hm hc) := HHw8.out.2.1.cell 1; have qw8xg2 : w8.cell? ⟨bg, 2, none⟩ = some (.slice KA km kc) := HHw8.out.2.1.cell 2; have hzw8 : w.heap.size + 1 + 1 < w8.heap.size := HHw8.out.2.2.1.lt; have hzfw8 : bf < w8.heap.size := HHw8.out.1.lt; have hzgw8 : bg < w8.heap.size := HHw8.out.2.1.lt; have HP8 := Lib.hid (HP7.out.at_below hb); have HQ8 := Lib.hid hp; clear hb hp CT2)
      | (go_at_call 46; refine (CL.out w8 _ _ HP8.out HQ8.out HRA.out.symm HRB.out.symm).mono ?_; rintro e w9 ⟨rfl, hb⟩; have HHw9 : Hid (Has w9 bf 84 #[.bool s1, .slice FA fm fc, .slice GA gm gc] ∧ Has w9 bg 84 #[.bool s2, .slice HA hm hc, .slice KA km kc] ∧ Has w9 (w.heap.size + 1 + 1) 26 #[.int .i64 0, .int .i64 0] ∧ Below w.heap.size w w9) := Lib.hid (threeT (by exact HHw8.out) hb); have qw9xf0 : w9.cell? ⟨bf, 0, none⟩ = some (Value.bool s1) := HHw9.out.1.cell 0; have qw9xf1 : w9.cell? ⟨bf, 1, none⟩ = some (.slice FA fm fc) := HHw9.out.1.cell 1; have qw9xf2 : w9.cell? ⟨bf, 2, none⟩ = some (.slice GA gm gc) := HHw9.out.1.cell 2; have qw9xg0 : w9.cell? ⟨bg, 0, none⟩ = some (Value.bool s2) := HHw9.out.2.1.cell 0; have qw9xg1 : w9.cell? ⟨bg, 1, none⟩ = some (.slice HA hm hc) := HHw9.out.2.1.cell 1; have qw9xg2 : w9.cell? ⟨bg, 2, none⟩ = some (.slice KA km kc) := HHw9.out.2.1.cell 2; have hzw9 : w.heap.size + 1 + 1 < w9.heap.size := HHw9.out.2.2.1.lt; have hzfw9 : bf < w9.heap.size := HHw9.out.1.lt; have hzgw9 : bg < w9.heap.size := HHw9.out.2.1.lt; have t0 : w9.cell? ⟨w.heap.size + 1 + 1, 0, none⟩ = some (.int .i64 0) := HHw9.out.2.2.1.cell 0; have t1 : w9.cell? ⟨w.heap.size + 1 + 1, 1, none⟩ = some (.int .i64 0) := HHw9.out.2.2.1.cell 1; have tf0 := HHw9.out.2.2.1.frozen 0; have tf1 := HHw9.out.2.2.1.frozen 1; have tz := HHw9.out.2.2.1.lt; clear hb CL))
  clear xf0 xf1 xf2 xg0 xg1 xg2 hzz hzf hzg t0 t1 tf0 tf1 tz
  go_wp2
  refine bodyPost_ret (results_block2 (g := w.heap.size + 1 + 1) (T := 26) rfl rfl (by exact (HHw9.out.2.2.1.set 0 _).set 1 _) rfl Tryd.underlying26 rfl (by kernel_rfl)) rfl ?_
  exact ⟨by rw [HF2.out HRA.out.symm HRB.out.symm]; rfl, (HHw9.out.2.2.2.setCell (by dsimp only; omega) _).setCell (by dsimp only; omega) _⟩

set_option maxRecDepth 100000 in
set_option maxHeartbeats 4000000 in
theorem rdiv_any (an ad bn bd : Int) (w : World) (h1 : -9223372036854775808 ≤ an) (h2 : an < 9223372036854775808) (h3 : -9223372036854775808 ≤ ad) (h4 : ad < 9223372036854775808) (h5 : -9223372036854775808 ≤ bn) (h6 : bn < 9223372036854775808) (h7 : -9223372036854775808 ≤ bd) (h8 : bd < 9223372036854775808) :
    Calls Tryd.prog 37 #[.agg #[.int .i64 an, .int .i64 ad], .agg #[.int .i64 bn, .int .i64 bd]] w fun e w' => e = .returned (divN an ad bn bd) ∧ Below w.heap.size w w' := by
  have CR1 : Hid (∀ W, Calls Tryd.prog 35 #[.agg #[.int .i64 an, .int .i64 ad]] W fun e w' => e = .returned (.bool (ratW.rightB an ad)) ∧ Below W.heap.size W w') := Lib.hid fun W => rright_any an ad W h1 h2 h3 h4
  have CR2 : Hid (∀ W, Calls Tryd.prog 35 #[.agg #[.int .i64 bn, .int .i64 bd]] W fun e w' => e = .returned (.bool (ratW.rightB bn bd)) ∧ Below W.heap.size W w') := Lib.hid fun W => rright_any bn bd W h5 h6 h7 h8
  have C1 : Hid (∀ W, Calls Tryd.prog 45 #[.agg #[.int .i64 an, .int .i64 ad]] W fun e w' => ∃ A m c B n d, e = .returned (.agg #[.bool (decide (an < 0)), .slice A m c, .slice B n d]) ∧ (Nt w' (.slice A m c) an.natAbs ∧ Nt w' (.slice B n d) ad.natAbs) ∧ Below W.heap.size W w') := Lib.hid fun W => of_slices an ad W h1 h2 h3 h4
  have C2 : Hid (∀ W, Calls Tryd.prog 45 #[.agg #[.int .i64 bn, .int .i64 bd]] W fun e w' => ∃ A m c B n d, e = .returned (.agg #[.bool (decide (bn < 0)), .slice A m c, .slice B n d]) ∧ (Nt w' (.slice A m c) bn.natAbs ∧ Nt w' (.slice B n d) bd.natAbs) ∧ Below W.heap.size W w') := Lib.hid fun W => of_slices bn bd W h5 h6 h7 h8
  have CT1 : Hid (∀ W u v, Nt W u an.natAbs → Nt W v bd.natAbs → Calls Tryd.prog 47 #[u, v] W fun e w' => ∃ A m c, e = .returned (.slice A m c) ∧ Nt w' (.slice A m c) (an.natAbs * bd.natAbs) ∧ Below W.heap.size W w') := Lib.hid fun W u v hu hv => (times_new u v _ _ W hu hv (Nat.le_trans (len_64 (by omega)) (by decide)) (Nat.le_trans (len_64 (by omega)) (by decide))).mono fun e w' ⟨A, m, c, a1, a2, a3, a4⟩ => ⟨A, m, c, a1, a2, a4⟩
  have CT2 : Hid (∀ W u v, Nt W u ad.natAbs → Nt W v bn.natAbs → Calls Tryd.prog 47 #[u, v] W fun e w' => ∃ A m c, e = .returned (.slice A m c) ∧ Nt w' (.slice A m c) (ad.natAbs * bn.natAbs) ∧ Below W.heap.size W w') := Lib.hid fun W u v hu hv => (times_new u v _ _ W hu hv (Nat.le_trans (len_64 (by omega)) (by decide)) (Nat.le_trans (len_64 (by omega)) (by decide))).mono fun e w' ⟨A, m, c, a1, a2, a3, a4⟩ => ⟨A, m, c, a1, a2, a4⟩
  have CL : Hid (∀ W v v', Nt W v (an.natAbs * bd.natAbs) → Nt W v' (ad.natAbs * bn.natAbs) → ratW.rightB an ad = true → ratW.rightB bn bd = true → bn ≠ 0 → Calls Tryd.prog 46 #[.agg #[.bool (decide (an < 0) != decide (bn < 0)), v, v']] W fun e w' => e = .returned (ratN (ratW.divO an ad bn bd)) ∧ Below W.heap.size W w') := Lib.hid fun W v v' hv hv' ra rb hb0 => by
    have p1 := right_pos ra
    have p2 := right_pos rb
    have hq := ratW.div_q2 (an := an) (bn := bn) (ad := ad.natAbs) (bd := bd.natAbs) (by omega) (by omega) hb0
    rw [show ratW.divO an ad bn bd = fitR (Rat.divInt (sg (decide (an < 0) != decide (bn < 0)) (an.natAbs * bd.natAbs)) ((ad.natAbs * bn.natAbs : Nat) : Int)) from by
      unfold ratW.divO
      rw [show ratW.Q an ad = ratW.Q an (ad.natAbs : Int) from by rw [show ((ad.natAbs : Nat) : Int) = ad from by omega], show ratW.Q bn bd = ratW.Q bn (bd.natAbs : Int) from by rw [show ((bd.natAbs : Nat) : Int) = bd from by omega], ← hq]
      rfl]
    exact lowest_any _ _ _ _ W ⟨v, v', rfl, hv, hv'⟩ (Nat.mul_pos (by omega) (by omega)) (Nat.le_trans len_mul (Nat.le_trans (Nat.add_le_add (len_64 (by omega)) (len_64 (by omega))) (by decide))) (Nat.le_trans len_mul (Nat.le_trans (Nat.add_le_add (len_64 (by omega)) (len_64 (by omega))) (by decide)))
  obtain ⟨fx, fy, fn, hF⟩ := ratN_form (ratW.divO an ad bn bd)
  obtain ⟨F, hFF⟩ : ∃ F, F = divN an ad bn bd := ⟨_, rfl⟩
  rw [← hFF]
  have hF0 : ratW.rightB an ad = false → F = ratZ 1 := fun h => by rw [hFF]; unfold divN; rw [h]; rfl
  have hF1 : ratW.rightB an ad = true → ratW.rightB bn bd = false → F = ratZ 1 := fun h h' => by rw [hFF]; unfold divN; rw [h, h']; rfl
  have hF2 : ratW.rightB an ad = true → ratW.rightB bn bd = true → bn ≠ 0 → F = .tuple #[.agg #[.int .i64 fx, .int .i64 fy], .int .i64 fn] := fun h h' h0 => by rw [hFF, ← hF]; unfold divN; rw [h, h', if_neg h0]; rfl
  have hF3 : ratW.rightB an ad = true → ratW.rightB bn bd = true → bn = 0 → F = ratZ 10 := fun h h' h0 => by rw [hFF]; unfold divN; rw [h, h', if_pos h0]; rfl
  rw [hF] at CL
  have HF0 := Lib.hid hF0
  have HF1 := Lib.hid hF1
  have HF2 := Lib.hid hF2
  have HF3 := Lib.hid hF3
  clear h1 h2 h3 h4 h5 h6 h7 h8 hF hFF hF0 hF1 hF2 hF3
  obtain ⟨ra, hra⟩ : ∃ r, r = ratW.rightB an ad := ⟨_, rfl⟩
  obtain ⟨rb, hrb⟩ : ∃ r, r = ratW.rightB bn bd := ⟨_, rfl⟩
  rw [← hra] at CR1
  rw [← hrb] at CR2
  have HRA := Lib.hid hra
  have HRB := Lib.hid hrb
  clear hra hrb
  obtain ⟨s1, hs1⟩ : ∃ s, s = decide (an < 0) := ⟨_, rfl⟩
  obtain ⟨s2, hs2⟩ : ∃ s, s = decide (bn < 0) := ⟨_, rfl⟩
  rw [← hs1] at C1
  rw [← hs2] at C2
  rw [← hs1, ← hs2] at CL
  clear hs1 hs2
  go_enter Tryd.func37, Tryd.ntmps37
  go_upto_region 1 with fail
  have hH0 : Has (((w.alloc (Obj.cells #[.int .i64 an, .int .i64 ad] 26)).alloc (Obj.cells #[.int .i64 bn, .int .i64 bd] 26)).alloc (Obj.cells #[.int .i64 0, .int .i64 0] 26)) w.heap.size 26 #[.int .i64 an, .int .i64 ad] := ((Has.new w _ _).alloc _).alloc _
  have hH1 : Has (((w.alloc (Obj.cells #[.int .i64 an, .int .i64 ad] 26)).alloc (Obj.cells #[.int .i64 bn, .int .i64 bd] 26)).alloc (Obj.cells #[.int .i64 0, .int .i64 0] 26)) (w.heap.size + 1) 26 #[.int .i64 bn, .int .i64 bd] := (Has.new1 w _ _ _).alloc _
  have hH2 : Has (((w.alloc (Obj.cells #[.int .i64 an, .int .i64 ad] 26)).alloc (Obj.cells #[.int .i64 bn, .int .i64 bd] 26)).alloc (Obj.cells #[.int .i64 0, .int .i64 0] 26)) (w.heap.size + 1 + 1) 26 #[.int .i64 0, .int .i64 0] := Has.new2 w _ _ _ _
  have hBB : Below w.heap.size w (((w.alloc (Obj.cells #[.int .i64 an, .int .i64 ad] 26)).alloc (Obj.cells #[.int .i64 bn, .int .i64 bd] 26)).alloc (Obj.cells #[.int .i64 0, .int .i64 0] 26)) := (by repeat' (first | (with_reducible assumption) | (with_reducible refine Below.setCell ?_ ?_ _) | (with_reducible refine Below.alloc ?_ ?_ _) | (with_reducible refine Below.drew ?_) | (with_reducible refine below_drewN ?_ _) | (with_reducible exact Below.refl _ _) | (show _ ≤ _; (try simp); (try omega); done) | exact Below.refl _ _ | assumption))
  have HW0 := Lib.hid (And.intro hH0 (And.intro hH1 (And.intro hH2 hBB)))
  clear hH0 hH1 hH2 hBB
  generalize (((w.alloc (Obj.cells #[.int .i64 an, .int .i64 ad] 26)).alloc (Obj.cells #[.int .i64 bn, .int .i64 bd] 26)).alloc (Obj.cells #[.int .i64 0, .int .i64 0] 26)) = W0 at HW0 ⊢
  have ja0 : W0.cell? ⟨w.heap.size, 0, none⟩ = some (.int .i64 an) := HW0.out.1.cell 0
  have ja1 : W0.cell? ⟨w.heap.size, 1, none⟩ = some (.int .i64 ad) := HW0.out.1.cell 1
  have jb0 : W0.cell? ⟨w.heap.size + 1, 0, none⟩ = some (.int .i64 bn) := HW0.out.2.1.cell 0
  have jb1 : W0.cell? ⟨w.heap.size + 1, 1, none⟩ = some (.int .i64 bd) := HW0.out.2.1.cell 1
  go_wp2_with fail
  refine (CR1.out W0).mono ?_
  rintro e w1 ⟨rfl, hb⟩
  have HW1 : Hid (Has w1 w.heap.size 26 #[.int .i64 an, .int .i64 ad] ∧ Has w1 (w.heap.size + 1) 26 #[.int .i64 bn, .int .i64 bd] ∧ Has w1 (w.heap.size + 1 + 1) 26 #[.int .i64 0, .int .i64 0] ∧ Below w.heap.size w w1) := Lib.hid (threeT HW0.out hb)
  clear hb CR1 HW0
  clear ja0 ja1 jb0 jb1
  have ja0 : w1.cell? ⟨w.heap.size, 0, none⟩ = some (.int .i64 an) := HW1.out.1.cell 0
  have ja1 : w1.cell? ⟨w.heap.size, 1, none⟩ = some (.int .i64 ad) := HW1.out.1.cell 1
  have jb0 : w1.cell? ⟨w.heap.size + 1, 0, none⟩ = some (.int .i64 bn) := HW1.out.2.1.cell 0
  have jb1 : w1.cell? ⟨w.heap.size + 1, 1, none⟩ = some (.int .i64 bd) := HW1.out.2.1.cell 1
  cases ra
  · have t0 : w1.cell? ⟨w.heap.size + 1 + 1, 0, none⟩ = some (.int .i64 0) := HW1.out.2.2.1.cell 0
    have t1 : w1.cell? ⟨w.heap.size + 1 + 1, 1, none⟩ = some (.int .i64 0) := HW1.out.2.2.1.cell 1
    have tf0 := HW1.out.2.2.1.frozen 0
    have tf1 := HW1.out.2.2.1.frozen 1
    have tz := HW1.out.2.2.1.lt
    go_wp2
    refine bodyPost_ret (results_block2 (g := w.heap.size + 1 + 1) (T := 26) rfl rfl (by exact (HW1.out.2.2.1.set 0 _).set 1 _) rfl Tryd.underlying26 rfl (by kernel_rfl)) rfl ?_
    exact ⟨by rw [HF0.out HRA.out.symm]; rfl, (HW1.out.2.2.2.setCell (by dsimp only; omega) _).setCell (by dsimp only; omega) _⟩
  go_wp2_with fail
  refine (CR2.out w1).mono ?_
  rintro e w2 ⟨rfl, hb⟩
  have HW2 : Hid (Has w2 w.heap.size 26 #[.int .i64 an, .int .i64 ad] ∧ Has w2 (w.heap.size + 1) 26 #[.int .i64 bn, .int .i64 bd] ∧ Has w2 (w.heap.size + 1 + 1) 26 #[.int .i64 0, .int .i64 0] ∧ Below w.heap.size w w2) := Lib.hid (threeT HW1.out hb)
  clear hb CR2 HW1
  clear ja0 ja1 jb0 jb1
  have ja0 : w2.cell? ⟨w.heap.size, 0, none⟩ = some (.int .i64 an) := HW2.out.1.cell 0
  have ja1 : w2.cell? ⟨w.heap.size, 1, none⟩ = some (.int .i64 ad) := HW2.out.1.cell 1
  have jb0 : w2.cell? ⟨w.heap.size + 1, 0, none⟩ = some (.int .i64 bn) := HW2.out.2.1.cell 0
  have jb1 : w2.cell? ⟨w.heap.size + 1, 1, none⟩ = some (.int .i64 bd) := HW2.out.2.1.cell 1
  cases rb
  · have t0 : w2.cell? ⟨w.heap.size + 1 + 1, 0, none⟩ = some (.int .i64 0) := HW2.out.2.2.1.cell 0
    have t1 : w2.cell? ⟨w.heap.size + 1 + 1, 1, none⟩ = some (.int .i64 0) := HW2.out.2.2.1.cell 1
    have tf0 := HW2.out.2.2.1.frozen 0
    have tf1 := HW2.out.2.2.1.frozen 1
    have tz := HW2.out.2.2.1.lt
    go_wp2
    refine bodyPost_ret (results_block2 (g := w.heap.size + 1 + 1) (T := 26) rfl rfl (by exact (HW2.out.2.2.1.set 0 _).set 1 _) rfl Tryd.underlying26 rfl (by kernel_rfl)) rfl ?_
    exact ⟨by rw [HF1.out HRA.out.symm HRB.out.symm]; rfl, (HW2.out.2.2.2.setCell (by dsimp only; omega) _).setCell (by dsimp only; omega) _⟩
  by_cases hb0 : bn = 0
  · have hbq : (bn == 0) = true := by simp [hb0]
    have HB0 := Lib.hid hb0
    clear hb0
    have t0 : w2.cell? ⟨w.heap.size + 1 + 1, 0, none⟩ = some (.int .i64 0) := HW2.out.2.2.1.cell 0
    have t1 : w2.cell? ⟨w.heap.size + 1 + 1, 1, none⟩ = some (.int .i64 0) := HW2.out.2.2.1.cell 1
    have tf0 := HW2.out.2.2.1.frozen 0
    have tf1 := HW2.out.2.2.1.frozen 1
    have tz := HW2.out.2.2.1.lt
    go_wp2
    refine bodyPost_ret (results_block2 (g := w.heap.size + 1 + 1) (T := 26) rfl rfl (by exact (HW2.out.2.2.1.set 0 _).set 1 _) rfl Tryd.underlying26 rfl (by kernel_rfl)) rfl ?_
    exact ⟨by rw [HF3.out HRA.out.symm HRB.out.symm HB0.out]; rfl, (HW2.out.2.2.2.setCell (by dsimp only; omega) _).setCell (by dsimp only; omega) _⟩
  have hbq : (bn == 0) = false := by simp [hb0]
  have HB0 := Lib.hid hb0
  clear hb0
  go_wp2_with fail
  refine (C1.out w2).mono ?_
  rintro e w3 ⟨FA, fm, fc, GA, gm, gc, rfl, hn, hb⟩
  have HW3 : Hid (Has w3 w.heap.size 26 #[.int .i64 an, .int .i64 ad] ∧ Has w3 (w.heap.size + 1) 26 #[.int .i64 bn, .int .i64 bd] ∧ Has w3 (w.heap.size + 1 + 1) 26 #[.int .i64 0, .int .i64 0] ∧ Below w.heap.size w w3) := Lib.hid (threeT HW2.out hb)
  have HNF := Lib.hid hn
  clear hn hb C1 HW2
  clear ja0 ja1 jb0 jb1
  go_upto_region 6 with fail
  have HW4 : Hid (Has (w3.alloc (Obj.cells #[.bool s1, .slice FA fm fc, .slice GA gm gc] 84)) w.heap.size 26 #[.int .i64 an, .int .i64 ad] ∧ Has (w3.alloc (Obj.cells #[.bool s1, .slice FA fm fc, .slice GA gm gc] 84)) (w.heap.size + 1) 26 #[.int .i64 bn, .int .i64 bd] ∧ Has (w3.alloc (Obj.cells #[.bool s1, .slice FA fm fc, .slice GA gm gc] 84)) (w.heap.size + 1 + 1) 26 #[.int .i64 0, .int .i64 0] ∧ Below w.heap.size w (w3.alloc (Obj.cells #[.bool s1, .slice FA fm fc, .slice GA gm gc] 84))) := Lib.hid ⟨HW3.out.1.alloc _, HW3.out.2.1.alloc _, HW3.out.2.2.1.alloc _, HW3.out.2.2.2.alloc HW3.out.2.2.2.size _⟩
  have HFB : Hid (Has (w3.alloc (Obj.cells #[.bool s1, .slice FA fm fc, .slice GA gm gc] 84)) w3.heap.size 84 #[.bool s1, .slice FA fm fc, .slice GA gm gc]) := Lib.hid (Has.new w3 _ _)
  have HNF4 : Hid (Nt (w3.alloc (Obj.cells #[.bool s1, .slice FA fm fc, .slice GA gm gc] 84)) (.slice FA fm fc) an.natAbs ∧ Nt (w3.alloc (Obj.cells #[.bool s1, .slice FA fm fc, .slice GA gm gc] 84)) (.slice GA gm gc) ad.natAbs) := Lib.hid ⟨HNF.out.1.at_below ((Below.refl _ _).alloc (Nat.le_refl _) _), HNF.out.2.at_below ((Below.refl _ _).alloc (Nat.le_refl _) _)⟩
  obtain ⟨bf, hbf⟩ : ∃ b, b = w3.heap.size := ⟨_, rfl⟩
  rw [← hbf] at HFB ⊢
  have Hbf : Hid (w.heap.size + 1 + 1 < bf) := Lib.hid (by rw [hbf]; exact HW3.out.2.2.1.lt)
  clear hbf HW3 HNF
  generalize w3.alloc (Obj.cells #[.bool s1, .slice FA fm fc, .slice GA gm gc] 84) = w4 at HW4 HFB HNF4 ⊢
  have ja0 : w4.cell? ⟨w.heap.size, 0, none⟩ = some (.int .i64 an) := HW4.out.1.cell 0
  have ja1 : w4.cell? ⟨w.heap.size, 1, none⟩ = some (.int .i64 ad) := HW4.out.1.cell 1
  have jb0 : w4.cell? ⟨w.heap.size + 1, 0, none⟩ = some (.int .i64 bn) := HW4.out.2.1.cell 0
  have jb1 : w4.cell? ⟨w.heap.size + 1, 1, none⟩ = some (.int .i64 bd) := HW4.out.2.1.cell 1
  go_wp2_with fail
  refine (C2.out w4).mono ?_
  rintro e w5 ⟨HA, hm, hc, KA, km, kc, rfl, hn, hb⟩
  have HW5 : Hid (Has w5 bf 84 #[.bool s1, .slice FA fm fc, .slice GA gm gc] ∧ Has w5 (w.heap.size + 1 + 1) 26 #[.int .i64 0, .int .i64 0] ∧ Below w.heap.size w w5) := Lib.hid ⟨HFB.out.below hb HFB.out.lt, HW4.out.2.2.1.below hb HW4.out.2.2.1.lt, HW4.out.2.2.2.trans (hb.mono HW4.out.2.2.2.size)⟩
  have HNF5 := Lib.hid (And.intro (HNF4.out.1.at_below hb) (HNF4.out.2.at_below hb))
  have HNG := Lib.hid hn
  clear hn hb C2 HW4 HFB HNF4
  clear ja0 ja1 jb0 jb1
  go_upto_region 7 with fail
  have HW6 : Hid (Has (w5.alloc (Obj.cells #[.bool s2, .slice HA hm hc, .slice KA km kc] 84)) bf 84 #[.bool s1, .slice FA fm fc, .slice GA gm gc] ∧ Has (w5.alloc (Obj.cells #[.bool s2, .slice HA hm hc, .slice KA km kc] 84)) w5.heap.size 84 #[.bool s2, .slice HA hm hc, .slice KA km kc] ∧ Has (w5.alloc (Obj.cells #[.bool s2, .slice HA hm hc, .slice KA km kc] 84)) (w.heap.size + 1 + 1) 26 #[.int .i64 0, .int .i64 0] ∧ Below w.heap.size w (w5.alloc (Obj.cells #[.bool s2, .slice HA hm hc, .slice KA km kc] 84))) := Lib.hid ⟨HW5.out.1.alloc _, Has.new w5 _ _, HW5.out.2.1.alloc _, HW5.out.2.2.alloc HW5.out.2.2.size _⟩
  have HN6 : Hid ((Nt (w5.alloc (Obj.cells #[.bool s2, .slice HA hm hc, .slice KA km kc] 84)) (.slice FA fm fc) an.natAbs ∧ Nt (w5.alloc (Obj.cells #[.bool s2, .slice HA hm hc, .slice KA km kc] 84)) (.slice GA gm gc) ad.natAbs) ∧ Nt (w5.alloc (Obj.cells #[.bool s2, .slice HA hm hc, .slice KA km kc] 84)) (.slice HA hm hc) bn.natAbs ∧ Nt (w5.alloc (Obj.cells #[.bool s2, .slice HA hm hc, .slice KA km kc] 84)) (.slice KA km kc) bd.natAbs) := Lib.hid ⟨⟨HNF5.out.1.at_below ((Below.refl _ _).alloc (Nat.le_refl _) _), HNF5.out.2.at_below ((Below.refl _ _).alloc (Nat.le_refl _) _)⟩, HNG.out.1.at_below ((Below.refl _ _).alloc (Nat.le_refl _) _), HNG.out.2.at_below ((Below.refl _ _).alloc (Nat.le_refl _) _)⟩
  obtain ⟨bg, hbg⟩ : ∃ b, b = w5.heap.size := ⟨_, rfl⟩
  rw [← hbg] at HW6 ⊢
  have Hbg : Hid (bf < bg) := Lib.hid (by rw [hbg]; exact HW5.out.1.lt)
  clear hbg HW5 HNF5 HNG
  generalize w5.alloc (Obj.cells #[.bool s2, .slice HA hm hc, .slice KA km kc] 84) = w6 at HW6 HN6 ⊢
  have hbf := Hbf.out
  have hbg := Hbg.out
  have xf0 : w6.cell? ⟨bf, 0, none⟩ = some (Value.bool s1) := HW6.out.1.cell 0
  have xf1 : w6.cell? ⟨bf, 1, none⟩ = some (.slice FA fm fc) := HW6.out.1.cell 1
  have xf2 : w6.cell? ⟨bf, 2, none⟩ = some (.slice GA gm gc) := HW6.out.1.cell 2
  have xg0 : w6.cell? ⟨bg, 0, none⟩ = some (Value.bool s2) := HW6.out.2.1.cell 0
  have xg1 : w6.cell? ⟨bg, 1, none⟩ = some (.slice HA hm hc) := HW6.out.2.1.cell 1
  have xg2 : w6.cell? ⟨bg, 2, none⟩ = some (.slice KA km kc) := HW6.out.2.1.cell 2
  have hzz := HW6.out.2.2.1.lt
  have hzf := HW6.out.1.lt
  have hzg := HW6.out.2.1.lt
  go_region_held3 (fun W => W.cell? ⟨bf, 0, none⟩ = some (Value.bool s1) ∧ W.cell? ⟨bf, 1, none⟩ = some (.slice FA fm fc) ∧ W.cell? ⟨bf, 2, none⟩ = some (.slice GA gm gc) ∧ W.cell? ⟨bg, 0, none⟩ = some (Value.bool s2) ∧ W.cell? ⟨bg, 1, none⟩ = some (.slice HA hm hc) ∧ W.cell? ⟨bg, 2, none⟩ = some (.slice KA km kc) ∧ w.heap.size + 1 + 1 < W.heap.size ∧ bf < W.heap.size ∧ bg < W.heap.size)
    (first | exact ⟨by exact xf0, by exact xf1, by exact xf2, by exact xg0, by exact xg1, by exact xg2, by exact hzz, by exact hzf, by exact hzg⟩ | exact ⟨by assumption, by assumption, by assumption, by assumption, by assumption, by assumption, by assumption, by assumption, by assumption⟩ | exact ⟨by go_simp; done, by go_simp; done, by go_simp; done, by go_simp; done, by go_simp; done, by go_simp; done, by first | assumption | (simp; omega), by first | assumption | (simp; omega), by first | assumption | (simp; omega)⟩)
    (first
      | (go_at_call 47; refine (CT1.out w6.drew _ _ (by exact HN6.out.1.1) (by exact HN6.out.2.2)).mono ?_; rintro e w7 ⟨PA, pm, pc, rfl, hp, hb⟩; have HHw7 : Hid (Has w7 bf 84 #[.bool s1, .slice FA fm fc, .slice GA gm gc] ∧ Has w7 bg 84 #[.bool s2, .slice HA hm hc, .slice KA km kc] ∧ Has w7 (w.heap.size + 1 + 1) 26 #[.int .i64 0, .int .i64 0] ∧ Below w.heap.size w w7) := Lib.hid (threeT (by exact (show Has w6.drew bf 84 #[.bool s1, .slice FA fm fc, .slice GA gm gc] ∧ Has w6.drew bg 84 #[.bool s2, .slice HA hm hc, .slice KA km kc] ∧ Has w6.drew (w.heap.size + 1 + 1) 26 #[.int .i64 0, .int .i64 0] ∧ Below w.heap.size w w6.drew from ⟨HW6.out.1, HW6.out.2.1, HW6.out.2.2.1, HW6.out.2.2.2.drew⟩)) hb); have qw7xf0 : w7.cell? ⟨bf, 0, none⟩ = some (Value.bool s1) := HHw7.out.1.cell 0; have qw7xf1 : w7.cell? ⟨bf, 1, none⟩ = some (.slice FA fm fc) := HHw7.out.1.cell 1; have qw7xf2 : w7.cell? ⟨bf, 2, none⟩ = some (.slice GA gm gc) := HHw7.out.1.cell 2; have qw7xg0 : w7.cell? ⟨bg, 0, none⟩ = some (Value.bool s2) := HHw7.out.2.1.cell 0; have qw7xg1 : w7.cell? ⟨bg, 1, none⟩ = some (.slice HA hm hc) := HHw7.out.2.1.cell 1; have qw7xg2 : w7.cell? ⟨bg, 2, none⟩ = some (.slice KA km kc) := HHw7.out.2.1.cell 2; have hzw7 : w.heap.size + 1 + 1 < w7.heap.size := HHw7.out.2.2.1.lt; have hzfw7 : bf < w7.heap.size := HHw7.out.1.lt; have hzgw7 : bg < w7.heap.size := HHw7.out.2.1.lt; have HP7 := Lib.hid hp; have HN7 := Lib.hid (And.intro (Nt.at_below (w := w6.drew) (by exact HN6.out.1.2) hb) (Nt.at_below (w := w6.drew) (by exact HN6.out.2.1) hb)); clear hb hp CT1)
      | (go_at_call 47; refine (CT2.out w7 _ _ HN7.out.1 HN7.out.2).mono ?_; rintro e w8 ⟨QA, qm, qc, rfl, hp, hb⟩; have HHw8 : Hid (Has w8 bf 84 #[.bool s1, .slice FA fm fc, .slice GA gm gc] ∧ Has w8 bg 84 #[.bool s2, .slice HA hm hc, .slice KA km kc] ∧ Has w8 (w.heap.size + 1 + 1) 26 #[.int .i64 0, .int .i64 0] ∧ Below w.heap.size w w8) := Lib.hid (threeT (by exact HHw7.out) hb); have qw8xf0 : w8.cell? ⟨bf, 0, none⟩ = some (Value.bool s1) := HHw8.out.1.cell 0; have qw8xf1 : w8.cell? ⟨bf, 1, none⟩ = some (.slice FA fm fc) := HHw8.out.1.cell 1; have qw8xf2 : w8.cell? ⟨bf, 2, none⟩ = some (.slice GA gm gc) := HHw8.out.1.cell 2; have qw8xg0 : w8.cell? ⟨bg, 0, none⟩ = some (Value.bool s2) := HHw8.out.2.1.cell 0; have qw8xg1 : w8.cell? ⟨bg, 1, none⟩ = some (.slice HA hm hc) := HHw8.out.2.1.cell 1; have qw8xg2 : w8.cell? ⟨bg, 2, none⟩ = some (.slice KA km kc) := HHw8.out.2.1.cell 2; have hzw8 : w.heap.size + 1 + 1 < w8.heap.size := HHw8.out.2.2.1.lt; have hzfw8 : bf < w8.heap.size := HHw8.out.1.lt; have hzgw8 : bg < w8.heap.size := HHw8.out.2.1.lt; have HP8 := Lib.hid (HP7.out.at_below hb); have HQ8 := Lib.hid hp; clear hb hp CT2)
      | (go_at_call 46; refine (CL.out w8 _ _ HP8.out HQ8.out HRA.out.symm HRB.out.symm HB0.out).mono ?_; rintro e w9 ⟨rfl, hb⟩; have HHw9 : Hid (Has w9 bf 84 #[.bool s1, .slice FA fm fc, .slice GA gm gc] ∧ Has w9 bg 84 #[.bool s2, .slice HA hm hc, .slice KA km kc] ∧ Has w9 (w.heap.size + 1 + 1) 26 #[.int .i64 0, .int .i64 0] ∧ Below w.heap.size w w9) := Lib.hid (threeT (by exact HHw8.out) hb); have qw9xf0 : w9.cell? ⟨bf, 0, none⟩ = some (Value.bool s1) := HHw9.out.1.cell 0; have qw9xf1 : w9.cell? ⟨bf, 1, none⟩ = some (.slice FA fm fc) := HHw9.out.1.cell 1; have qw9xf2 : w9.cell? ⟨bf, 2, none⟩ = some (.slice GA gm gc) := HHw9.out.1.cell 2; have qw9xg0 : w9.cell? ⟨bg, 0, none⟩ = some (Value.bool s2) := HHw9.out.2.1.cell 0; have qw9xg1 : w9.cell? ⟨bg, 1, none⟩ = some (.slice HA hm hc) := HHw9.out.2.1.cell 1; have qw9xg2 : w9.cell? ⟨bg, 2, none⟩ = some (.slice KA km kc) := HHw9.out.2.1.cell 2; have hzw9 : w.heap.size + 1 + 1 < w9.heap.size := HHw9.out.2.2.1.lt; have hzfw9 : bf < w9.heap.size := HHw9.out.1.lt; have hzgw9 : bg < w9.heap.size := HHw9.out.2.1.lt; have t0 : w9.cell? ⟨w.heap.size + 1 + 1, 0, none⟩ = some (.int .i64 0) := HHw9.out.2.2.1.cell 0; have t1 : w9.cell? ⟨w.heap.size + 1 + 1, 1, none⟩ = some (.int .i64 0) := HHw9.out.2.2.1.cell 1; have tf0 := HHw9.out.2.2.1.frozen 0; have tf1 := HHw9.out.2.2.1.frozen 1; have tz := HHw9.out.2.2.1.lt; clear hb CL))
  clear xf0 xf1 xf2 xg0 xg1 xg2 hzz hzf hzg t0 t1 tf0 tf1 tz
  go_wp2
  refine bodyPost_ret (results_block2 (g := w.heap.size + 1 + 1) (T := 26) rfl rfl (by exact (HHw9.out.2.2.1.set 0 _).set 1 _) rfl Tryd.underlying26 rfl (by kernel_rfl)) rfl ?_
  exact ⟨by rw [HF2.out HRA.out.symm HRB.out.symm HB0.out]; rfl, (HHw9.out.2.2.2.setCell (by dsimp only; omega) _).setCell (by dsimp only; omega) _⟩
end natW
end Go.Proofs.YtllbpanfhlbbgaaDoor

namespace Go.Proofs.YtllbpanfhlbbgaaDoor
open Go.RowKit Go.Bus Go.Nt Go.Rt
set_option linter.unusedVariables false
set_option linter.unusedSimpArgs false
namespace natW
def cmpC (an ad bn bd : Int) : Int := if an * bd = bn * ad then 0 else if an * bd < bn * ad then -1 else 1
def cmpV (an ad bn bd : Int) : Value := if ratW.rightB an ad && ratW.rightB bn bd then .tuple #[.int .i64 (cmpC an ad bn bd), .int .i64 0] else .tuple #[.int .i64 0, .int .i64 1]
/-- The two boxes, and the old memory. -/
def Sab (an ad bn bd : Int) (w W : World) : Prop := Has W w.heap.size 26 #[.int .i64 an, .int .i64 ad] ∧ Has W (w.heap.size + 1) 26 #[.int .i64 bn, .int .i64 bd] ∧ Below w.heap.size w W
theorem Sab.cells {an ad bn bd : Int} {w W : World} (h : Sab an ad bn bd w W) : W.cell? ⟨w.heap.size, 0, none⟩ = some (.int .i64 an) ∧ W.cell? ⟨w.heap.size, 1, none⟩ = some (.int .i64 ad) ∧ W.cell? ⟨w.heap.size + 1, 0, none⟩ = some (.int .i64 bn) ∧ W.cell? ⟨w.heap.size + 1, 1, none⟩ = some (.int .i64 bd) :=
  ⟨h.1.cell 0, h.1.cell 1, h.2.1.cell 0, h.2.1.cell 1⟩
theorem Sab.below {an ad bn bd : Int} {w W W' : World} (h : Sab an ad bn bd w W) (hb : Below W.heap.size W W') : Sab an ad bn bd w W' := two h hb
theorem Sab.alloc {an ad bn bd : Int} {w W : World} (h : Sab an ad bn bd w W) (o : Obj) : Sab an ad bn bd w (W.alloc o) := ⟨h.1.alloc _, h.2.1.alloc _, h.2.2.alloc h.2.2.size _⟩
theorem Sab.far3 {an ad bn bd : Int} {w W : World} (h : Sab an ad bn bd w W) {g : Nat} (hg : w.heap.size + 1 < g) (x y z : Value) : Sab an ad bn bd w (((W.setCell ⟨g, 0, none⟩ x).setCell ⟨g, 1, none⟩ y).setCell ⟨g, 2, none⟩ z) :=
  ⟨((h.1.far (by dsimp only; omega) _).far (by dsimp only; omega) _).far (by dsimp only; omega) _, ((h.2.1.far (by dsimp only; omega) _).far (by dsimp only; omega) _).far (by dsimp only; omega) _, ((h.2.2.setCell (by dsimp only; omega) _).setCell (by dsimp only; omega) _).setCell (by dsimp only; omega) _⟩
theorem allH_nil {P : Program} {ops : Array Oper} {Q : Exit → Act → World → Prop} {md : Region.Mode} {S : World → Prop} {fuel : Nat} {listed : Array Bool} {a : Act} {w : World} : ∀ i ∈ ([] : List Nat), wpOp P ops Q i (fun a' w' => S w' ∧ wpAnyH P md ops Q S fuel (listed.setIfInBounds i true) a' w') a w := fun _ h => by cases h
theorem allH_cons {P : Program} {ops : Array Oper} {Q : Exit → Act → World → Prop} {md : Region.Mode} {S : World → Prop} {fuel : Nat} {listed : Array Bool} {a : Act} {w : World} {i : Nat} {o : Oper} {rs : List Nat} (ho : ops[i]? = some o)
    (h : ∀ K' : Act → World → Prop, (∀ a' w', S w' ∧ wpAnyH P md ops Q S fuel (listed.setIfInBounds i true) a' w' → K' a' w') → if Region.wanted o (yielded ops a.tmps) = true then Oper.wp P o a w K' Q else K' (a.put o.dst undef) w)
    (hs : ∀ i ∈ rs, wpOp P ops Q i (fun a' w' => S w' ∧ wpAnyH P md ops Q S fuel (listed.setIfInBounds i true) a' w') a w) : ∀ j ∈ i :: rs, wpOp P ops Q j (fun a' w' => S w' ∧ wpAnyH P md ops Q S fuel (listed.setIfInBounds j true) a' w') a w := fun j hj => by
  rcases List.mem_cons.1 hj with rfl | hj
  · exact wpOp_step ho h
  · exact hs j hj
theorem sum_cmp (an ad bn bd : Int) (W : World) (u v : Value) (hu : FrV W u (decide (an < 0)) an.natAbs ad.natAbs) (hv : FrV W v (!decide (bn < 0)) bn.natAbs bd.natAbs) (p1 : 1 ≤ ad) (p2 : 1 ≤ bd)
    (h1 : -9223372036854775808 ≤ an) (h2 : an < 9223372036854775808) (h4 : ad < 9223372036854775808) (h5 : -9223372036854775808 ≤ bn) (h6 : bn < 9223372036854775808) (h8 : bd < 9223372036854775808) :
    Calls Tryd.prog 48 #[u, v] W fun e w' => ∃ s A m c B k l, e = .returned (.agg #[.bool s, .slice A m c, .slice B k l]) ∧ (m = 0 ∧ cmpC an ad bn bd = 0 ∨ 0 < m ∧ s = true ∧ cmpC an ad bn bd = -1 ∨ 0 < m ∧ s = false ∧ cmpC an ad bn bd = 1) ∧ m ≤ c ∧ c ≤ 9223372036854775807 ∧ Below W.heap.size W w' := by
  have l1 : (digs an.natAbs).length ≤ 2 := len_64 (by omega)
  have l2 : (digs ad.natAbs).length ≤ 2 := len_64 (by omega)
  have l3 : (digs bn.natAbs).length ≤ 2 := len_64 (by omega)
  have l4 : (digs bd.natAbs).length ≤ 2 := len_64 (by omega)
  refine (sum_any u v _ _ _ _ _ _ W hu hv (by omega) (by omega) (by omega) (by omega)).mono ?_
  rintro e w' ⟨r, rfl, ⟨x, y, rfl, hx, hy⟩, hb⟩
  obtain ⟨A, c, rfl, q1, q2⟩ := Sl.form hx
  obtain ⟨B, l, rfl, _⟩ := Sl.form hy
  have hs := sumF_sg (decide (an < 0)) an.natAbs ad.natAbs (!decide (bn < 0)) bn.natAbs bd.natAbs
  rw [sg_of, sg_neg', show ((ad.natAbs : Nat) : Int) = ad from by omega, show ((bd.natAbs : Nat) : Int) = bd from by omega, Int.neg_mul] at hs
  refine ⟨_, A, _, c, B, _, l, rfl, ?_, q1, by unfold maxLen at q2; omega, hb⟩
  generalize (sumF (decide (an < 0)) an.natAbs ad.natAbs (!decide (bn < 0)) bn.natAbs bd.natAbs).2.1 = N at *
  generalize (sumF (decide (an < 0)) an.natAbs ad.natAbs (!decide (bn < 0)) bn.natAbs bd.natAbs).1 = s at *
  unfold cmpC
  generalize an * bd = X at *
  generalize bn * ad = Y at *
  unfold sg at hs
  by_cases h0 : N = 0
  · subst h0
    refine .inl ⟨by rw [digs_zero]; rfl, ?_⟩
    rw [if_pos]
    cases s <;> simp at hs <;> omega
  · have hm := len_pos (n := N) (by omega)
    refine .inr ?_
    cases s
    · refine .inr ⟨hm, rfl, ?_⟩
      simp at hs
      rw [if_neg (by omega), if_neg (by omega)]
    · refine .inl ⟨hm, rfl, ?_⟩
      simp at hs
      rw [if_neg (by omega), if_pos (by omega)]

set_option maxRecDepth 100000 in
set_option maxHeartbeats 8000000 in
theorem rcmp_any (an ad bn bd : Int) (w : World) (h1 : -9223372036854775808 ≤ an) (h2 : an < 9223372036854775808) (h3 : -9223372036854775808 ≤ ad) (h4 : ad < 9223372036854775808) (h5 : -9223372036854775808 ≤ bn) (h6 : bn < 9223372036854775808) (h7 : -9223372036854775808 ≤ bd) (h8 : bd < 9223372036854775808) :
    Calls Tryd.prog 75 #[.agg #[.int .i64 an, .int .i64 ad], .agg #[.int .i64 bn, .int .i64 bd]] w fun e w' => e = .returned (cmpV an ad bn bd) ∧ Below w.heap.size w w' := by
  have CR1 : Hid (∀ W, Calls Tryd.prog 35 #[.agg #[.int .i64 an, .int .i64 ad]] W fun e w' => e = .returned (.bool (ratW.rightB an ad)) ∧ Below W.heap.size W w') := Lib.hid fun W => rright_any an ad W h1 h2 h3 h4
  have CR2 : Hid (∀ W, Calls Tryd.prog 35 #[.agg #[.int .i64 bn, .int .i64 bd]] W fun e w' => e = .returned (.bool (ratW.rightB bn bd)) ∧ Below W.heap.size W w') := Lib.hid fun W => rright_any bn bd W h5 h6 h7 h8
  have C1 : Hid (∀ W, Calls Tryd.prog 45 #[.agg #[.int .i64 an, .int .i64 ad]] W fun e w' => ∃ v, e = .returned v ∧ FrV w' v (decide (an < 0)) an.natAbs ad.natAbs ∧ Below W.heap.size W w') := Lib.hid fun W => of_any an ad W h1 h2 h3 h4
  have C2 : Hid (∀ W, Calls Tryd.prog 45 #[.agg #[.int .i64 bn, .int .i64 bd]] W fun e w' => ∃ v, e = .returned v ∧ FrV w' v (decide (bn < 0)) bn.natAbs bd.natAbs ∧ Below W.heap.size W w') := Lib.hid fun W => of_any bn bd W h5 h6 h7 h8
  have CO : Hid (∀ W v, FrV W v (decide (bn < 0)) bn.natAbs bd.natAbs → Calls Tryd.prog 66 #[v] W fun e w' => ∃ u, e = .returned u ∧ FrV w' u (!decide (bn < 0)) bn.natAbs bd.natAbs ∧ Below W.heap.size W w') := Lib.hid fun W v hv => opposite_any v _ _ _ W hv
  have CS : Hid (∀ W u v, FrV W u (decide (an < 0)) an.natAbs ad.natAbs → FrV W v (!decide (bn < 0)) bn.natAbs bd.natAbs → ratW.rightB an ad = true → ratW.rightB bn bd = true → Calls Tryd.prog 48 #[u, v] W fun e w' => ∃ s A m c B k l, e = .returned (.agg #[.bool s, .slice A m c, .slice B k l]) ∧ (m = 0 ∧ cmpC an ad bn bd = 0 ∨ 0 < m ∧ s = true ∧ cmpC an ad bn bd = -1 ∨ 0 < m ∧ s = false ∧ cmpC an ad bn bd = 1) ∧ m ≤ c ∧ c ≤ 9223372036854775807 ∧ Below W.heap.size W w') := Lib.hid fun W u v hu hv ra rb => sum_cmp an ad bn bd W u v hu hv (right_pos ra) (right_pos rb) h1 h2 h4 h5 h6 h8
  obtain ⟨F, hFF⟩ : ∃ F, F = cmpV an ad bn bd := ⟨_, rfl⟩
  rw [← hFF]
  have hF0 : ratW.rightB an ad = false → F = .tuple #[.int .i64 0, .int .i64 1] := fun h => by rw [hFF]; unfold cmpV; rw [h]; rfl
  have hF1 : ratW.rightB an ad = true → ratW.rightB bn bd = false → F = .tuple #[.int .i64 0, .int .i64 1] := fun h h' => by rw [hFF]; unfold cmpV; rw [h, h']; rfl
  obtain ⟨C, hC⟩ : ∃ C, C = cmpC an ad bn bd := ⟨_, rfl⟩
  have hF2 : ratW.rightB an ad = true → ratW.rightB bn bd = true → F = .tuple #[.int .i64 C, .int .i64 0] := fun h h' => by rw [hFF, hC]; unfold cmpV; rw [h, h']; rfl
  rw [← hC] at CS
  have HF0 := Lib.hid hF0
  have HF1 := Lib.hid hF1
  have HF2 := Lib.hid hF2
  clear h1 h2 h3 h4 h5 h6 h7 h8 hFF hF0 hF1 hF2 hC
  obtain ⟨ra, hra⟩ : ∃ r, r = ratW.rightB an ad := ⟨_, rfl⟩
  obtain ⟨rb, hrb⟩ : ∃ r, r = ratW.rightB bn bd := ⟨_, rfl⟩
  rw [← hra] at CR1
  rw [← hrb] at CR2
  have HRA := Lib.hid hra
  have HRB := Lib.hid hrb
  clear hra hrb
  go_enter Tryd.func75, Tryd.ntmps75
  go_upto_region 1 with fail
  have hH0 : Has ((w.alloc (Obj.cells #[.int .i64 an, .int .i64 ad] 26)).alloc (Obj.cells #[.int .i64 bn, .int .i64 bd] 26)) w.heap.size 26 #[.int .i64 an, .int .i64 ad] := (Has.new w _ _).alloc _
  have hH1 : Has ((w.alloc (Obj.cells #[.int .i64 an, .int .i64 ad] 26)).alloc (Obj.cells #[.int .i64 bn, .int .i64 bd] 26)) (w.heap.size + 1) 26 #[.int .i64 bn, .int .i64 bd] := Has.new1 w _ _ _
  have hBB : Below w.heap.size w ((w.alloc (Obj.cells #[.int .i64 an, .int .i64 ad] 26)).alloc (Obj.cells #[.int .i64 bn, .int .i64 bd] 26)) := (by repeat' (first | (with_reducible assumption) | (with_reducible refine Below.setCell ?_ ?_ _) | (with_reducible refine Below.alloc ?_ ?_ _) | (with_reducible refine Below.drew ?_) | (with_reducible refine below_drewN ?_ _) | (with_reducible exact Below.refl _ _) | (show _ ≤ _; (try simp); (try omega); done) | exact Below.refl _ _ | assumption))
  have HW0 := Lib.hid (And.intro hH0 (And.intro hH1 hBB))
  clear hH0 hH1 hBB
  generalize ((w.alloc (Obj.cells #[.int .i64 an, .int .i64 ad] 26)).alloc (Obj.cells #[.int .i64 bn, .int .i64 bd] 26)) = W0 at HW0 ⊢
  have ja0 : W0.cell? ⟨w.heap.size, 0, none⟩ = some (.int .i64 an) := HW0.out.1.cell 0
  have ja1 : W0.cell? ⟨w.heap.size, 1, none⟩ = some (.int .i64 ad) := HW0.out.1.cell 1
  have jb0 : W0.cell? ⟨w.heap.size + 1, 0, none⟩ = some (.int .i64 bn) := HW0.out.2.1.cell 0
  have jb1 : W0.cell? ⟨w.heap.size + 1, 1, none⟩ = some (.int .i64 bd) := HW0.out.2.1.cell 1
  go_wp2_with fail
  refine (CR1.out W0).mono ?_
  rintro e w1 ⟨rfl, hb⟩
  have HW1 : Hid (Has w1 w.heap.size 26 #[.int .i64 an, .int .i64 ad] ∧ Has w1 (w.heap.size + 1) 26 #[.int .i64 bn, .int .i64 bd] ∧ Below w.heap.size w w1) := Lib.hid (two HW0.out hb)
  clear hb CR1 HW0
  clear ja0 ja1 jb0 jb1
  have ja0 : w1.cell? ⟨w.heap.size, 0, none⟩ = some (.int .i64 an) := HW1.out.1.cell 0
  have ja1 : w1.cell? ⟨w.heap.size, 1, none⟩ = some (.int .i64 ad) := HW1.out.1.cell 1
  have jb0 : w1.cell? ⟨w.heap.size + 1, 0, none⟩ = some (.int .i64 bn) := HW1.out.2.1.cell 0
  have jb1 : w1.cell? ⟨w.heap.size + 1, 1, none⟩ = some (.int .i64 bd) := HW1.out.2.1.cell 1
  cases ra
  · go_wp2
    go_ret2
    exact ⟨by rw [HF0.out HRA.out.symm]; rfl, HW1.out.2.2⟩
  go_wp2_with fail
  refine (CR2.out w1).mono ?_
  rintro e w2 ⟨rfl, hb⟩
  have HW2 : Hid (Has w2 w.heap.size 26 #[.int .i64 an, .int .i64 ad] ∧ Has w2 (w.heap.size + 1) 26 #[.int .i64 bn, .int .i64 bd] ∧ Below w.heap.size w w2) := Lib.hid (two HW1.out hb)
  clear hb CR2 HW1
  clear ja0 ja1 jb0 jb1
  have ja0 : w2.cell? ⟨w.heap.size, 0, none⟩ = some (.int .i64 an) := HW2.out.1.cell 0
  have ja1 : w2.cell? ⟨w.heap.size, 1, none⟩ = some (.int .i64 ad) := HW2.out.1.cell 1
  have jb0 : w2.cell? ⟨w.heap.size + 1, 0, none⟩ = some (.int .i64 bn) := HW2.out.2.1.cell 0
  have jb1 : w2.cell? ⟨w.heap.size + 1, 1, none⟩ = some (.int .i64 bd) := HW2.out.2.1.cell 1
  cases rb
  · go_wp2
    go_ret2
    exact ⟨by rw [HF1.out HRA.out.symm HRB.out.symm]; rfl, HW2.out.2.2⟩
  have hzz := HW2.out.2.1.lt
  have HS0 : Hid (Sab an ad bn bd w w2.drew) := Lib.hid ⟨HW2.out.1, HW2.out.2.1, HW2.out.2.2.drew⟩
  clear HW2
  go_wp2
  refine wp_region_held (S := Sab an ad bn bd w) (by kernel_rfl) ?_
  change wpAnyH _ _ _ _ _ _ _ _ w2.drew
  refine wpAnyH_take (i := 0) (v := .agg #[.int .i64 an, .int .i64 ad]) rfl (by kernel_rfl) (by kernel_rfl) (by kernel_rfl) (fun _ _ _ h => h) (Or.inl ⟨by rfl, fun W hW => by obtain ⟨g0, g1, g2, g3⟩ := hW.cells; go_simp⟩) HS0.out ?_
  refine wpAnyH_take (i := 2) (v := .agg #[.int .i64 bn, .int .i64 bd]) rfl (by kernel_rfl) (by kernel_rfl) (by kernel_rfl) (fun _ _ _ h => h) (Or.inl ⟨by rfl, fun W hW => by obtain ⟨g0, g1, g2, g3⟩ := hW.cells; go_simp⟩) HS0.out ?_
  clear ja0 ja1 jb0 jb1 hzz
  refine wpAnyH_all (rs := [1, 6]) (by kernel_rfl) (by simp) ?_
  refine allH_cons rfl (fun K hK => ?_) (allH_cons rfl (fun K hK => ?_) allH_nil)
  · skip
    go_simp
    go_at_call 45
    refine (C1.out w2.drew).mono ?_
    rintro e w3 ⟨v1, rfl, hv, hb⟩
    have HS1 : Hid (Sab an ad bn bd w w3) := Lib.hid (HS0.out.below hb)
    have HV1 := Lib.hid hv
    clear hb hv
    refine hK _ _ ⟨HS1.out, ?_⟩
    refine wpAnyH_all (rs := [3, 6]) (by kernel_rfl) (by simp) ?_
    refine allH_cons rfl (fun K hK => ?_) (allH_cons rfl (fun K hK => ?_) allH_nil)
    · skip
      go_simp
      go_at_call 45
      refine (C2.out w3).mono ?_
      rintro e w4 ⟨v2, rfl, hv, hb⟩
      have HS2 : Hid (Sab an ad bn bd w w4) := Lib.hid (HS1.out.below hb)
      have HV1 := Lib.hid (FrV.at_below HV1.out hb)
      have HV2 := Lib.hid hv
      clear hb hv
      refine hK _ _ ⟨HS2.out, ?_⟩
      refine wpAnyH_all (rs := [4, 6]) (by kernel_rfl) (by simp) ?_
      refine allH_cons rfl (fun K hK => ?_) (allH_cons rfl (fun K hK => ?_) allH_nil)
      · skip
        go_simp
        go_at_call 66
        refine (CO.out w4 v2 HV2.out).mono ?_
        rintro e w5 ⟨v3, rfl, hv, hb⟩
        have HS3 : Hid (Sab an ad bn bd w w5) := Lib.hid (HS2.out.below hb)
        have HV1 := Lib.hid (FrV.at_below HV1.out hb)
        have HV2 := Lib.hid (FrV.at_below HV2.out hb)
        have HV3 := Lib.hid hv
        clear hb hv
        refine hK _ _ ⟨HS3.out, ?_⟩
        refine wpAnyH_all (rs := [5, 6]) (by kernel_rfl) (by simp) ?_
        refine allH_cons rfl (fun K hK => ?_) (allH_cons rfl (fun K hK => ?_) allH_nil)
        · skip
          go_simp
          go_at_call 48
          refine (CS.out w5 v1 v3 HV1.out HV3.out HRA.out.symm HRB.out.symm).mono ?_
          rintro e w6 ⟨s6, A6, m6, c6, B6, k6, l6, rfl, hc, q1, q2, hb⟩
          have HS4 : Hid (Sab an ad bn bd w w6) := Lib.hid (HS3.out.below hb)
          have HV1 := Lib.hid (FrV.at_below HV1.out hb)
          have HV2 := Lib.hid (FrV.at_below HV2.out hb)
          have HV3 := Lib.hid (FrV.at_below HV3.out hb)
          have HC := Lib.hid hc
          clear hb hc
          refine hK _ _ ⟨HS4.out, ?_⟩
          refine wpAnyH_all (rs := [6]) (by kernel_rfl) (by simp) ?_
          refine allH_cons rfl (fun K hK => ?_) allH_nil
          go_simp
          refine hK _ _ ⟨HS4.out.alloc _, ?_⟩
          refine wpAnyH_all (rs := [7]) (by kernel_rfl) (by simp) ?_
          refine allH_cons rfl (fun K hK => ?_) allH_nil
          go_simp
          refine hK _ _ ⟨HS4.out.alloc _, ?_⟩
          refine wpAnyH_done (by kernel_rfl) ?_ _
          rcases HC.out with ⟨rfl, hc⟩ | ⟨hm, rfl, hc⟩ | ⟨hm, rfl, hc⟩
          · have HCC := Lib.hid hc
            clear hc
            go_wp2
            go_ret2
            exact ⟨by rw [HF2.out HRA.out.symm HRB.out.symm, HCC.out]; rfl, (HS4.out.alloc _).2.2⟩
          · have HCC := Lib.hid hc
            have dm : ((m6 : Int) == 0) = false := by rw [beq_eq_false_iff_ne]; omega
            clear hc
            go_wp2
            go_ret2
            exact ⟨by rw [HF2.out HRA.out.symm HRB.out.symm, HCC.out]; rfl, (HS4.out.alloc _).2.2⟩
          · have HCC := Lib.hid hc
            have dm : ((m6 : Int) == 0) = false := by rw [beq_eq_false_iff_ne]; omega
            clear hc
            go_wp2
            go_ret2
            exact ⟨by rw [HF2.out HRA.out.symm HRB.out.symm, HCC.out]; rfl, (HS4.out.alloc _).2.2⟩
        · skip
          go_simp
          refine hK _ _ ⟨HS3.out.alloc _, ?_⟩
          have HLT5 : Hid (w.heap.size + 1 < w5.heap.size) := Lib.hid HS3.out.2.1.lt
          refine wpAnyH_all (rs := [5]) (by kernel_rfl) (by simp) ?_
          refine allH_cons rfl (fun K hK => ?_) allH_nil
          go_simp
          go_at_call 48
          refine (CS.out (w5.alloc (Obj.cells #[.bool false, .slice none 0 0, .slice none 0 0] 84)) v1 v3 (HV1.out.at_below ((Below.refl _ _).alloc (Nat.le_refl _) _)) (HV3.out.at_below ((Below.refl _ _).alloc (Nat.le_refl _) _)) HRA.out.symm HRB.out.symm).mono ?_
          rintro e w6 ⟨s6, A6, m6, c6, B6, k6, l6, rfl, hc, q1, q2, hb⟩
          have HS4 : Hid (Sab an ad bn bd w w6) := Lib.hid ((HS3.out.alloc (Obj.cells #[.bool false, .slice none 0 0, .slice none 0 0] 84)).below hb)
          have HV1 := Lib.hid (FrV.at_below (HV1.out.at_below ((Below.refl _ _).alloc (Nat.le_refl _) _)) hb)
          have HV2 := Lib.hid (FrV.at_below (HV2.out.at_below ((Below.refl _ _).alloc (Nat.le_refl _) _)) hb)
          have HV3 := Lib.hid (FrV.at_below (HV3.out.at_below ((Below.refl _ _).alloc (Nat.le_refl _) _)) hb)
          have HC := Lib.hid hc
          have HBX := Lib.hid (Has.below (show Has (w5.alloc (Obj.cells #[.bool false, .slice none 0 0, .slice none 0 0] 84)) w5.heap.size 84 #[.bool false, .slice none 0 0, .slice none 0 0] from Has.new w5 _ _) hb (show Has (w5.alloc (Obj.cells #[.bool false, .slice none 0 0, .slice none 0 0] 84)) w5.heap.size 84 #[.bool false, .slice none 0 0, .slice none 0 0] from Has.new w5 _ _).lt)
          clear hb hc
          refine hK _ _ ⟨HS4.out, ?_⟩
          have HBX := Lib.hid HBX.out
          have u0 := HBX.out.cell 0
          have u1 := HBX.out.cell 1
          have u2 := HBX.out.cell 2
          have uf0 := HBX.out.frozen 0
          have uf1 := HBX.out.frozen 1
          have uf2 := HBX.out.frozen 2
          have uz := HBX.out.lt
          simp at u0 u1 u2
          refine wpAnyH_all (rs := [7]) (by kernel_rfl) (by simp) ?_
          refine allH_cons rfl (fun K hK => ?_) allH_nil
          go_simp
          have hle : w.heap.size + 1 < w5.heap.size := HLT5.out
          refine hK _ _ ⟨((HS4.out.far3 hle _ _ _)), ?_⟩
          refine wpAnyH_done (by kernel_rfl) ?_ _
          rcases HC.out with ⟨rfl, hc⟩ | ⟨hm, rfl, hc⟩ | ⟨hm, rfl, hc⟩
          · have HCC := Lib.hid hc
            clear hc
            go_wp2
            go_ret2
            exact ⟨by rw [HF2.out HRA.out.symm HRB.out.symm, HCC.out]; rfl, (HS4.out.far3 hle _ _ _).2.2⟩
          · have HCC := Lib.hid hc
            have dm : ((m6 : Int) == 0) = false := by rw [beq_eq_false_iff_ne]; omega
            clear hc
            go_wp2
            go_ret2
            exact ⟨by rw [HF2.out HRA.out.symm HRB.out.symm, HCC.out]; rfl, (HS4.out.far3 hle _ _ _).2.2⟩
          · have HCC := Lib.hid hc
            have dm : ((m6 : Int) == 0) = false := by rw [beq_eq_false_iff_ne]; omega
            clear hc
            go_wp2
            go_ret2
            exact ⟨by rw [HF2.out HRA.out.symm HRB.out.symm, HCC.out]; rfl, (HS4.out.far3 hle _ _ _).2.2⟩
      · skip
        go_simp
        refine hK _ _ ⟨HS2.out.alloc _, ?_⟩
        have HLT4 : Hid (w.heap.size + 1 < w4.heap.size) := Lib.hid HS2.out.2.1.lt
        refine wpAnyH_all (rs := [4]) (by kernel_rfl) (by simp) ?_
        refine allH_cons rfl (fun K hK => ?_) allH_nil
        go_simp
        go_at_call 66
        refine (CO.out (w4.alloc (Obj.cells #[.bool false, .slice none 0 0, .slice none 0 0] 84)) v2 (HV2.out.at_below ((Below.refl _ _).alloc (Nat.le_refl _) _))).mono ?_
        rintro e w5 ⟨v3, rfl, hv, hb⟩
        have HS3 : Hid (Sab an ad bn bd w w5) := Lib.hid ((HS2.out.alloc (Obj.cells #[.bool false, .slice none 0 0, .slice none 0 0] 84)).below hb)
        have HV1 := Lib.hid (FrV.at_below (HV1.out.at_below ((Below.refl _ _).alloc (Nat.le_refl _) _)) hb)
        have HV2 := Lib.hid (FrV.at_below (HV2.out.at_below ((Below.refl _ _).alloc (Nat.le_refl _) _)) hb)
        have HV3 := Lib.hid hv
        have HBX := Lib.hid (Has.below (show Has (w4.alloc (Obj.cells #[.bool false, .slice none 0 0, .slice none 0 0] 84)) w4.heap.size 84 #[.bool false, .slice none 0 0, .slice none 0 0] from Has.new w4 _ _) hb (show Has (w4.alloc (Obj.cells #[.bool false, .slice none 0 0, .slice none 0 0] 84)) w4.heap.size 84 #[.bool false, .slice none 0 0, .slice none 0 0] from Has.new w4 _ _).lt)
        clear hb hv
        refine hK _ _ ⟨HS3.out, ?_⟩
        refine wpAnyH_all (rs := [5]) (by kernel_rfl) (by simp) ?_
        refine allH_cons rfl (fun K hK => ?_) allH_nil
        go_simp
        go_at_call 48
        refine (CS.out w5 v1 v3 HV1.out HV3.out HRA.out.symm HRB.out.symm).mono ?_
        rintro e w6 ⟨s6, A6, m6, c6, B6, k6, l6, rfl, hc, q1, q2, hb⟩
        have HS4 : Hid (Sab an ad bn bd w w6) := Lib.hid (HS3.out.below hb)
        have HV1 := Lib.hid (FrV.at_below HV1.out hb)
        have HV2 := Lib.hid (FrV.at_below HV2.out hb)
        have HV3 := Lib.hid (FrV.at_below HV3.out hb)
        have HC := Lib.hid hc
        have HBX := Lib.hid (Has.below HBX.out hb HBX.out.lt)
        clear hb hc
        refine hK _ _ ⟨HS4.out, ?_⟩
        have HBX := Lib.hid HBX.out
        have u0 := HBX.out.cell 0
        have u1 := HBX.out.cell 1
        have u2 := HBX.out.cell 2
        have uf0 := HBX.out.frozen 0
        have uf1 := HBX.out.frozen 1
        have uf2 := HBX.out.frozen 2
        have uz := HBX.out.lt
        simp at u0 u1 u2
        refine wpAnyH_all (rs := [7]) (by kernel_rfl) (by simp) ?_
        refine allH_cons rfl (fun K hK => ?_) allH_nil
        go_simp
        have hle : w.heap.size + 1 < w4.heap.size := HLT4.out
        refine hK _ _ ⟨((HS4.out.far3 hle _ _ _)), ?_⟩
        refine wpAnyH_done (by kernel_rfl) ?_ _
        rcases HC.out with ⟨rfl, hc⟩ | ⟨hm, rfl, hc⟩ | ⟨hm, rfl, hc⟩
        · have HCC := Lib.hid hc
          clear hc
          go_wp2
          go_ret2
          exact ⟨by rw [HF2.out HRA.out.symm HRB.out.symm, HCC.out]; rfl, (HS4.out.far3 hle _ _ _).2.2⟩
        · have HCC := Lib.hid hc
          have dm : ((m6 : Int) == 0) = false := by rw [beq_eq_false_iff_ne]; omega
          clear hc
          go_wp2
          go_ret2
          exact ⟨by rw [HF2.out HRA.out.symm HRB.out.symm, HCC.out]; rfl, (HS4.out.far3 hle _ _ _).2.2⟩
        · have HCC := Lib.hid hc
          have dm : ((m6 : Int) == 0) = false := by rw [beq_eq_false_iff_ne]; omega
          clear hc
          go_wp2
          go_ret2
          exact ⟨by rw [HF2.out HRA.out.symm HRB.out.symm, HCC.out]; rfl, (HS4.out.far3 hle _ _ _).2.2⟩
    · skip
      go_simp
      refine hK _ _ ⟨HS1.out.alloc _, ?_⟩
      have HLT3 : Hid (w.heap.size + 1 < w3.heap.size) := Lib.hid HS1.out.2.1.lt
      refine wpAnyH_all (rs := [3]) (by kernel_rfl) (by simp) ?_
      refine allH_cons rfl (fun K hK => ?_) allH_nil
      go_simp
      go_at_call 45
      refine (C2.out (w3.alloc (Obj.cells #[.bool false, .slice none 0 0, .slice none 0 0] 84))).mono ?_
      rintro e w4 ⟨v2, rfl, hv, hb⟩
      have HS2 : Hid (Sab an ad bn bd w w4) := Lib.hid ((HS1.out.alloc (Obj.cells #[.bool false, .slice none 0 0, .slice none 0 0] 84)).below hb)
      have HV1 := Lib.hid (FrV.at_below (HV1.out.at_below ((Below.refl _ _).alloc (Nat.le_refl _) _)) hb)
      have HV2 := Lib.hid hv
      have HBX := Lib.hid (Has.below (show Has (w3.alloc (Obj.cells #[.bool false, .slice none 0 0, .slice none 0 0] 84)) w3.heap.size 84 #[.bool false, .slice none 0 0, .slice none 0 0] from Has.new w3 _ _) hb (show Has (w3.alloc (Obj.cells #[.bool false, .slice none 0 0, .slice none 0 0] 84)) w3.heap.size 84 #[.bool false, .slice none 0 0, .slice none 0 0] from Has.new w3 _ _).lt)
      clear hb hv
      refine hK _ _ ⟨HS2.out, ?_⟩
      refine wpAnyH_all (rs := [4]) (by kernel_rfl) (by simp) ?_
      refine allH_cons rfl (fun K hK => ?_) allH_nil
      go_simp
      go_at_call 66
      refine (CO.out w4 v2 HV2.out).mono ?_
      rintro e w5 ⟨v3, rfl, hv, hb⟩
      have HS3 : Hid (Sab an ad bn bd w w5) := Lib.hid (HS2.out.below hb)
      have HV1 := Lib.hid (FrV.at_below HV1.out hb)
      have HV2 := Lib.hid (FrV.at_below HV2.out hb)
      have HV3 := Lib.hid hv
      have HBX := Lib.hid (Has.below HBX.out hb HBX.out.lt)
      clear hb hv
      refine hK _ _ ⟨HS3.out, ?_⟩
      refine wpAnyH_all (rs := [5]) (by kernel_rfl) (by simp) ?_
      refine allH_cons rfl (fun K hK => ?_) allH_nil
      go_simp
      go_at_call 48
      refine (CS.out w5 v1 v3 HV1.out HV3.out HRA.out.symm HRB.out.symm).mono ?_
      rintro e w6 ⟨s6, A6, m6, c6, B6, k6, l6, rfl, hc, q1, q2, hb⟩
      have HS4 : Hid (Sab an ad bn bd w w6) := Lib.hid (HS3.out.below hb)
      have HV1 := Lib.hid (FrV.at_below HV1.out hb)
      have HV2 := Lib.hid (FrV.at_below HV2.out hb)
      have HV3 := Lib.hid (FrV.at_below HV3.out hb)
      have HC := Lib.hid hc
      have HBX := Lib.hid (Has.below HBX.out hb HBX.out.lt)
      clear hb hc
      refine hK _ _ ⟨HS4.out, ?_⟩
      have HBX := Lib.hid HBX.out
      have u0 := HBX.out.cell 0
      have u1 := HBX.out.cell 1
      have u2 := HBX.out.cell 2
      have uf0 := HBX.out.frozen 0
      have uf1 := HBX.out.frozen 1
      have uf2 := HBX.out.frozen 2
      have uz := HBX.out.lt
      simp at u0 u1 u2
      refine wpAnyH_all (rs := [7]) (by kernel_rfl) (by simp) ?_
      refine allH_cons rfl (fun K hK => ?_) allH_nil
      go_simp
      have hle : w.heap.size + 1 < w3.heap.size := HLT3.out
      refine hK _ _ ⟨((HS4.out.far3 hle _ _ _)), ?_⟩
      refine wpAnyH_done (by kernel_rfl) ?_ _
      rcases HC.out with ⟨rfl, hc⟩ | ⟨hm, rfl, hc⟩ | ⟨hm, rfl, hc⟩
      · have HCC := Lib.hid hc
        clear hc
        go_wp2
        go_ret2
        exact ⟨by rw [HF2.out HRA.out.symm HRB.out.symm, HCC.out]; rfl, (HS4.out.far3 hle _ _ _).2.2⟩
      · have HCC := Lib.hid hc
        have dm : ((m6 : Int) == 0) = false := by rw [beq_eq_false_iff_ne]; omega
        clear hc
        go_wp2
        go_ret2
        exact ⟨by rw [HF2.out HRA.out.symm HRB.out.symm, HCC.out]; rfl, (HS4.out.far3 hle _ _ _).2.2⟩
      · have HCC := Lib.hid hc
        have dm : ((m6 : Int) == 0) = false := by rw [beq_eq_false_iff_ne]; omega
        clear hc
        go_wp2
        go_ret2
        exact ⟨by rw [HF2.out HRA.out.symm HRB.out.symm, HCC.out]; rfl, (HS4.out.far3 hle _ _ _).2.2⟩
  · skip
    go_simp
    refine hK _ _ ⟨HS0.out.alloc _, ?_⟩
    have HLT2 : Hid (w.heap.size + 1 < w2.heap.size) := Lib.hid HS0.out.2.1.lt
    refine wpAnyH_all (rs := [1]) (by kernel_rfl) (by simp) ?_
    refine allH_cons rfl (fun K hK => ?_) allH_nil
    go_simp
    go_at_call 45
    refine (C1.out (w2.drew.alloc (Obj.cells #[.bool false, .slice none 0 0, .slice none 0 0] 84))).mono ?_
    rintro e w3 ⟨v1, rfl, hv, hb⟩
    have HS1 : Hid (Sab an ad bn bd w w3) := Lib.hid ((HS0.out.alloc (Obj.cells #[.bool false, .slice none 0 0, .slice none 0 0] 84)).below hb)
    have HV1 := Lib.hid hv
    have HBX := Lib.hid (Has.below (show Has (w2.drew.alloc (Obj.cells #[.bool false, .slice none 0 0, .slice none 0 0] 84)) w2.heap.size 84 #[.bool false, .slice none 0 0, .slice none 0 0] from Has.new w2.drew _ _) hb (show Has (w2.drew.alloc (Obj.cells #[.bool false, .slice none 0 0, .slice none 0 0] 84)) w2.heap.size 84 #[.bool false, .slice none 0 0, .slice none 0 0] from Has.new w2.drew _ _).lt)
    clear hb hv
    refine hK _ _ ⟨HS1.out, ?_⟩
    refine wpAnyH_all (rs := [3]) (by kernel_rfl) (by simp) ?_
    refine allH_cons rfl (fun K hK => ?_) allH_nil
    go_simp
    go_at_call 45
    refine (C2.out w3).mono ?_
    rintro e w4 ⟨v2, rfl, hv, hb⟩
    have HS2 : Hid (Sab an ad bn bd w w4) := Lib.hid (HS1.out.below hb)
    have HV1 := Lib.hid (FrV.at_below HV1.out hb)
    have HV2 := Lib.hid hv
    have HBX := Lib.hid (Has.below HBX.out hb HBX.out.lt)
    clear hb hv
    refine hK _ _ ⟨HS2.out, ?_⟩
    refine wpAnyH_all (rs := [4]) (by kernel_rfl) (by simp) ?_
    refine allH_cons rfl (fun K hK => ?_) allH_nil
    go_simp
    go_at_call 66
    refine (CO.out w4 v2 HV2.out).mono ?_
    rintro e w5 ⟨v3, rfl, hv, hb⟩
    have HS3 : Hid (Sab an ad bn bd w w5) := Lib.hid (HS2.out.below hb)
    have HV1 := Lib.hid (FrV.at_below HV1.out hb)
    have HV2 := Lib.hid (FrV.at_below HV2.out hb)
    have HV3 := Lib.hid hv
    have HBX := Lib.hid (Has.below HBX.out hb HBX.out.lt)
    clear hb hv
    refine hK _ _ ⟨HS3.out, ?_⟩
    refine wpAnyH_all (rs := [5]) (by kernel_rfl) (by simp) ?_
    refine allH_cons rfl (fun K hK => ?_) allH_nil
    go_simp
    go_at_call 48
    refine (CS.out w5 v1 v3 HV1.out HV3.out HRA.out.symm HRB.out.symm).mono ?_
    rintro e w6 ⟨s6, A6, m6, c6, B6, k6, l6, rfl, hc, q1, q2, hb⟩
    have HS4 : Hid (Sab an ad bn bd w w6) := Lib.hid (HS3.out.below hb)
    have HV1 := Lib.hid (FrV.at_below HV1.out hb)
    have HV2 := Lib.hid (FrV.at_below HV2.out hb)
    have HV3 := Lib.hid (FrV.at_below HV3.out hb)
    have HC := Lib.hid hc
    have HBX := Lib.hid (Has.below HBX.out hb HBX.out.lt)
    clear hb hc
    refine hK _ _ ⟨HS4.out, ?_⟩
    have HBX := Lib.hid HBX.out
    have u0 := HBX.out.cell 0
    have u1 := HBX.out.cell 1
    have u2 := HBX.out.cell 2
    have uf0 := HBX.out.frozen 0
    have uf1 := HBX.out.frozen 1
    have uf2 := HBX.out.frozen 2
    have uz := HBX.out.lt
    simp at u0 u1 u2
    refine wpAnyH_all (rs := [7]) (by kernel_rfl) (by simp) ?_
    refine allH_cons rfl (fun K hK => ?_) allH_nil
    go_simp
    have hle : w.heap.size + 1 < w2.heap.size := HLT2.out
    refine hK _ _ ⟨((HS4.out.far3 hle _ _ _)), ?_⟩
    refine wpAnyH_done (by kernel_rfl) ?_ _
    rcases HC.out with ⟨rfl, hc⟩ | ⟨hm, rfl, hc⟩ | ⟨hm, rfl, hc⟩
    · have HCC := Lib.hid hc
      clear hc
      go_wp2
      go_ret2
      exact ⟨by rw [HF2.out HRA.out.symm HRB.out.symm, HCC.out]; rfl, (HS4.out.far3 hle _ _ _).2.2⟩
    · have HCC := Lib.hid hc
      have dm : ((m6 : Int) == 0) = false := by rw [beq_eq_false_iff_ne]; omega
      clear hc
      go_wp2
      go_ret2
      exact ⟨by rw [HF2.out HRA.out.symm HRB.out.symm, HCC.out]; rfl, (HS4.out.far3 hle _ _ _).2.2⟩
    · have HCC := Lib.hid hc
      have dm : ((m6 : Int) == 0) = false := by rw [beq_eq_false_iff_ne]; omega
      clear hc
      go_wp2
      go_ret2
      exact ⟨by rw [HF2.out HRA.out.symm HRB.out.symm, HCC.out]; rfl, (HS4.out.far3 hle _ _ _).2.2⟩

set_option maxRecDepth 100000 in
set_option maxHeartbeats 4000000 in
theorem rabove_any (an ad bn bd : Int) (w : World) (h1 : -9223372036854775808 ≤ an) (h2 : an < 9223372036854775808) (h3 : -9223372036854775808 ≤ ad) (h4 : ad < 9223372036854775808) (h5 : -9223372036854775808 ≤ bn) (h6 : bn < 9223372036854775808) (h7 : -9223372036854775808 ≤ bd) (h8 : bd < 9223372036854775808) :
    Calls Tryd.prog 49 #[.agg #[.int .i64 an, .int .i64 ad], .agg #[.int .i64 bn, .int .i64 bd]] w fun e w' => e = .returned (.bool (physW.lowB bn bd an ad)) ∧ Below w.heap.size w w' := by
  have CC : Hid (∀ W, Calls Tryd.prog 75 #[.agg #[.int .i64 an, .int .i64 ad], .agg #[.int .i64 bn, .int .i64 bd]] W fun e w' => e = .returned (cmpV an ad bn bd) ∧ Below W.heap.size W w') := Lib.hid fun W => rcmp_any an ad bn bd W h1 h2 h3 h4 h5 h6 h7 h8
  have hV : ∃ c k : Int, cmpV an ad bn bd = .tuple #[.int .i64 c, .int .i64 k] ∧ physW.lowB bn bd an ad = decide (0 < c) := by
    unfold cmpV physW.lowB
    cases ratW.rightB an ad <;> cases ratW.rightB bn bd
    · exact ⟨0, 1, rfl, rfl⟩
    · exact ⟨0, 1, rfl, rfl⟩
    · exact ⟨0, 1, rfl, rfl⟩
    · refine ⟨_, 0, rfl, ?_⟩
      simp only [Bool.true_and]
      unfold cmpC
      rw [decide_eq_decide]
      split
      · omega
      · split <;> omega
  obtain ⟨c, k, hv, hl⟩ := hV
  rw [hv] at CC
  rw [hl]
  clear hv hl h1 h2 h3 h4 h5 h6 h7 h8
  go_enter Tryd.func49, Tryd.ntmps49
  go_wp2_with fail
  refine (CC.out _).mono ?_
  rintro e w1 ⟨rfl, hb⟩
  have HB : Hid (Below w.heap.size w w1) := Lib.hid (Below.trans (b := (w.alloc (Obj.cells #[.int .i64 an, .int .i64 ad] 26)).alloc (Obj.cells #[.int .i64 bn, .int .i64 bd] 26)) (by repeat' (first | (with_reducible assumption) | (with_reducible refine Below.setCell ?_ ?_ _) | (with_reducible refine Below.alloc ?_ ?_ _) | (with_reducible refine Below.drew ?_) | (with_reducible refine below_drewN ?_ _) | (with_reducible exact Below.refl _ _) | (show _ ≤ _; (try simp); (try omega); done) | exact Below.refl _ _ | assumption)) (hb.mono (by simp; omega)))
  clear hb CC
  go_wp2
  go_ret
  exact ⟨rfl, HB.out⟩
end natW
end Go.Proofs.YtllbpanfhlbbgaaDoor

namespace Go.Proofs.YtllbpanfhlbbgaaDoor
open Go.RowKit Go.Bus Go.Nt Go.Rt
set_option linter.unusedVariables false
set_option linter.unusedSimpArgs false
namespace natW
theorem rnd_div {N D : Nat} (hD : 0 < D) : (2 * N + D) / (2 * D) = ratW.rndN N D := by
  unfold ratW.rndN
  have h1 := Nat.div_add_mod N D
  have h2 := Nat.mod_lt N hD
  generalize N % D = r at *
  generalize N / D = q at *
  have e : 2 * N + D = 2 * r + D + 2 * D * q := by rw [← h1, Nat.mul_add, ← Nat.mul_assoc]; omega
  rw [e, Nat.add_mul_div_left _ _ (by omega)]
  by_cases h : 0 < r ∧ D - r ≤ r
  · rw [if_pos h]
    have : (2 * r + D) / (2 * D) = 1 := by
      rw [Nat.div_eq_iff (by omega)]; omega
    omega
  · rw [if_neg h]
    have : (2 * r + D) / (2 * D) = 0 := Nat.div_eq_of_lt (by omega)
    omega
theorem ret_ii {a b : Int} (h : a = b) : Value.tuple #[.int .i64 a, .int .i64 0] = .tuple #[.int .i64 b, .int .i64 0] := by rw [h]
def rndV (n d : Int) : Value := if ratW.rightB n d then .tuple #[.int .i64 (ratW.rndZ n d), .int .i64 0] else .tuple #[.int .i64 0, .int .i64 1]

set_option maxRecDepth 100000 in
set_option maxHeartbeats 4000000 in
theorem rround_any (n d : Int) (w : World) (h1 : -9223372036854775808 ≤ n) (h2 : n < 9223372036854775808) (h3 : -9223372036854775808 ≤ d) (h4 : d < 9223372036854775808) :
    Calls Tryd.prog 38 #[.agg #[.int .i64 n, .int .i64 d]] w fun e w' => e = .returned (rndV n d) ∧ Below w.heap.size w w' := by
  have CR : Hid (∀ W, Calls Tryd.prog 35 #[.agg #[.int .i64 n, .int .i64 d]] W fun e w' => e = .returned (.bool (ratW.rightB n d)) ∧ Below W.heap.size W w') := Lib.hid fun W => rright_any n d W h1 h2 h3 h4
  have C1 : Hid (∀ W, Calls Tryd.prog 45 #[.agg #[.int .i64 n, .int .i64 d]] W fun e w' => ∃ A m c B n' d', e = .returned (.agg #[.bool (decide (n < 0)), .slice A m c, .slice B n' d']) ∧ (Nt w' (.slice A m c) n.natAbs ∧ Nt w' (.slice B n' d') d.natAbs) ∧ Below W.heap.size W w') := Lib.hid fun W => of_slices n d W h1 h2 h3 h4
  have CF : Hid (∀ W, Calls Tryd.prog 63 #[.int .u64 2] W fun e w' => ∃ A m c, e = .returned (.slice A m c) ∧ Nt w' (.slice A m c) 2 ∧ Below W.heap.size W w') := Lib.hid fun W => (from_any 2 W (by decide)).mono fun e w' ⟨u, a1, a2, a3⟩ => by obtain ⟨A, c, rfl, _⟩ := Sl.form a2; exact ⟨A, _, c, a1, a2, a3⟩
  have hR : ratW.rightB n d = true → 1 ≤ d := right_pos
  obtain ⟨N, hN⟩ : ∃ N, N = n.natAbs := ⟨_, rfl⟩
  obtain ⟨D, hD⟩ : ∃ D, D = d.natAbs := ⟨_, rfl⟩
  have lN : N ≤ 9223372036854775808 := by omega
  have lD : D ≤ 9223372036854775808 := by omega
  rw [← hN, ← hD] at C1
  have len : ∀ x, x < 18446744073709551616 * 18446744073709551616 → (digs x).length ≤ 4 := fun x hx => (digs_len_iff x 4).2 hx
  have CT : Hid (∀ W u v X, Nt W u 2 → Nt W v X → X ≤ 9223372036854775808 → Calls Tryd.prog 47 #[u, v] W fun e w' => ∃ A m c, e = .returned (.slice A m c) ∧ Nt w' (.slice A m c) (2 * X) ∧ Below W.heap.size W w') := Lib.hid fun W u v X hu hv hX => (times_new u v 2 X W hu hv (Nat.le_trans (len_64 (by decide)) (by decide)) (Nat.le_trans (len_64 (by omega)) (by decide))).mono fun e w' ⟨A, m, c, a1, a2, a3, a4⟩ => ⟨A, m, c, a1, a2, a4⟩
  have CTT := Lib.hid CT.out
  have CP : Hid (∀ W u v, Nt W u (2 * N) → Nt W v D → Calls Tryd.prog 68 #[u, v] W fun e w' => ∃ A m c, e = .returned (.slice A m c) ∧ Nt w' (.slice A m c) (2 * N + D) ∧ Below W.heap.size W w') := Lib.hid fun W u v hu hv => (plus_n2 u v (2 * N) D W hu hv (Nat.le_trans (len _ (by omega)) (by decide)) (Nat.le_trans (len _ (by omega)) (by decide))).mono fun e w' ⟨A, m, c, a1, a2, a3, a4⟩ => ⟨A, m, c, a1, a2, a4⟩
  have CD : Hid (∀ W u v, 0 < D → Nt W u (2 * N + D) → Nt W v (2 * D) → Calls Tryd.prog 67 #[u, v] W fun e w' => ∃ x y, e = .returned (.tuple #[x, y]) ∧ Nt w' x ((2 * N + D) / (2 * D)) ∧ Nt w' y ((2 * N + D) % (2 * D)) ∧ Below W.heap.size W w') := Lib.hid fun W u v h0 hu hv => divided_any u v _ _ W hu hv (Nat.le_trans (len _ (by omega)) (by decide)) (Nat.le_trans (len _ (by omega)) (by decide)) (by omega)
  obtain ⟨F, hFF⟩ : ∃ F, F = rndV n d := ⟨_, rfl⟩
  rw [← hFF]
  have hF0 : ratW.rightB n d = false → F = .tuple #[.int .i64 0, .int .i64 1] := fun h => by rw [hFF]; unfold rndV; rw [h]; rfl
  have hF1 : ratW.rightB n d = true → F = .tuple #[.int .i64 (if n < 0 then -(ratW.rndN N D : Int) else (ratW.rndN N D : Int)), .int .i64 0] := fun h => by
    have := hR h
    rw [hFF]; unfold rndV; rw [h, if_pos rfl]; unfold ratW.rndZ
    rw [hN, hD, show d.toNat = d.natAbs from by omega]
  have hq : 0 < D → ratW.rndN N D ≤ 9223372036854775808 ∧ (¬ n < 0 → ratW.rndN N D < 9223372036854775808) := fun h0 => ⟨(ratW.rndN_le N D h0 lN).1, fun hn => (ratW.rndN_le N D h0 lN).2 (by omega)⟩
  have HQ := Lib.hid hq
  have HF0 := Lib.hid hF0
  have HF1 := Lib.hid hF1
  have HD0 : Hid (ratW.rightB n d = true → 0 < D) := Lib.hid fun h => by have := hR h; omega
  have LN := Lib.hid lN
  have LD := Lib.hid lD
  clear h1 h2 h3 h4 hFF hF0 hF1 hR hN hD lN lD len hq
  obtain ⟨ra, hra⟩ : ∃ r, r = ratW.rightB n d := ⟨_, rfl⟩
  rw [← hra] at CR
  have HRA := Lib.hid hra
  clear hra
  obtain ⟨s, hs⟩ : ∃ s, s = decide (n < 0) := ⟨_, rfl⟩
  rw [← hs] at C1
  have HSG := Lib.hid hs
  clear hs
  go_enter Tryd.func38, Tryd.ntmps38
  go_upto_region 1 with fail
  have hH0 : Has (w.alloc (Obj.cells #[.int .i64 n, .int .i64 d] 26)) w.heap.size 26 #[.int .i64 n, .int .i64 d] := Has.new w _ _
  have hBB : Below w.heap.size w (w.alloc (Obj.cells #[.int .i64 n, .int .i64 d] 26)) := (by repeat' (first | (with_reducible assumption) | (with_reducible refine Below.setCell ?_ ?_ _) | (with_reducible refine Below.alloc ?_ ?_ _) | (with_reducible refine Below.drew ?_) | (with_reducible refine below_drewN ?_ _) | (with_reducible exact Below.refl _ _) | (show _ ≤ _; (try simp); (try omega); done) | exact Below.refl _ _ | assumption))
  have HW0 := Lib.hid (And.intro hH0 hBB)
  clear hH0 hBB
  generalize w.alloc (Obj.cells #[.int .i64 n, .int .i64 d] 26) = W0 at HW0 ⊢
  have j0 : W0.cell? ⟨w.heap.size, 0, none⟩ = some (.int .i64 n) := HW0.out.1.cell 0
  have j1 : W0.cell? ⟨w.heap.size, 1, none⟩ = some (.int .i64 d) := HW0.out.1.cell 1
  go_wp2_with fail
  refine (CR.out W0).mono ?_
  rintro e w1 ⟨rfl, hb⟩
  have HW1 : Hid (Has w1 w.heap.size 26 #[.int .i64 n, .int .i64 d] ∧ Below w.heap.size w w1) := Lib.hid ⟨HW0.out.1.below hb HW0.out.1.lt, HW0.out.2.trans (hb.mono HW0.out.2.size)⟩
  clear hb j0 j1 HW0
  have j0 : w1.cell? ⟨w.heap.size, 0, none⟩ = some (.int .i64 n) := HW1.out.1.cell 0
  have j1 : w1.cell? ⟨w.heap.size, 1, none⟩ = some (.int .i64 d) := HW1.out.1.cell 1
  cases ra
  · go_wp2
    go_ret2
    exact ⟨by rw [HF0.out HRA.out.symm]; rfl, HW1.out.2⟩
  have HDP := Lib.hid (HD0.out HRA.out.symm)
  go_wp2_with fail
  refine (C1.out w1).mono ?_
  rintro e w2 ⟨FA, fm, fc, GA, gm, gc, rfl, hn, hb⟩
  have HB2 := Lib.hid (HW1.out.2.trans (hb.mono HW1.out.2.size))
  have HN2 := Lib.hid hn
  clear hn hb j0 j1 HW1 C1
  go_upto_region 4 with fail
  have HFB : Hid (Has (w2.alloc (Obj.cells #[.bool s, .slice FA fm fc, .slice GA gm gc] 84)) w2.heap.size 84 #[.bool s, .slice FA fm fc, .slice GA gm gc]) := Lib.hid (Has.new w2 _ _)
  have HB3 : Hid (Below w.heap.size w (w2.alloc (Obj.cells #[.bool s, .slice FA fm fc, .slice GA gm gc] 84))) := Lib.hid (HB2.out.alloc HB2.out.size _)
  have HN3 : Hid (Nt (w2.alloc (Obj.cells #[.bool s, .slice FA fm fc, .slice GA gm gc] 84)) (.slice FA fm fc) N ∧ Nt (w2.alloc (Obj.cells #[.bool s, .slice FA fm fc, .slice GA gm gc] 84)) (.slice GA gm gc) D) := Lib.hid ⟨HN2.out.1.at_below ((Below.refl _ _).alloc (Nat.le_refl _) _), HN2.out.2.at_below ((Below.refl _ _).alloc (Nat.le_refl _) _)⟩
  obtain ⟨bf, hbf⟩ : ∃ b, b = w2.heap.size := ⟨_, rfl⟩
  rw [← hbf] at HFB ⊢
  clear hbf HB2 HN2
  generalize w2.alloc (Obj.cells #[.bool s, .slice FA fm fc, .slice GA gm gc] 84) = w3 at HFB HB3 HN3 ⊢
  go_wp2_with fail
  refine (CF.out w3).mono ?_
  rintro e w4 ⟨TA, tm, tc, rfl, ht, hb⟩
  have HT4 := Lib.hid ht
  have HF4 := Lib.hid (HFB.out.below hb HFB.out.lt)
  have HN4 := Lib.hid (And.intro (HN3.out.1.at_below hb) (HN3.out.2.at_below hb))
  have HB4 := Lib.hid (HB3.out.trans (hb.mono HB3.out.size))
  clear ht hb HFB HN3 HB3 CF
  go_upto_region 5 with fail
  have k1 : w4.cell? ⟨bf, 1, none⟩ = some (.slice FA fm fc) := HF4.out.cell 1
  have k2 : w4.cell? ⟨bf, 2, none⟩ = some (.slice GA gm gc) := HF4.out.cell 2
  have kz := HF4.out.lt
  go_region_held3 (fun W => W.cell? ⟨bf, 1, none⟩ = some (.slice FA fm fc) ∧ W.cell? ⟨bf, 2, none⟩ = some (.slice GA gm gc) ∧ bf < W.heap.size)
    (first | exact ⟨by exact k1, by exact k2, by exact kz⟩ | exact ⟨by assumption, by assumption, by assumption⟩)
    (first
      | (go_at_call 47; refine (CT.out w4.drew _ _ N (by exact HT4.out) (by exact HN4.out.1) LN.out).mono ?_; rintro e w5 ⟨PA, pm, pc, rfl, hp, hb⟩; have HP5 := Lib.hid hp; have HF5 : Hid (Has w5 bf _ _) := Lib.hid (Has.below (by exact HF4.out) hb kz); have q1 : w5.cell? ⟨bf, 1, none⟩ = some (.slice FA fm fc) := HF5.out.cell 1; have q2 : w5.cell? ⟨bf, 2, none⟩ = some (.slice GA gm gc) := HF5.out.cell 2; have q3 := HF5.out.lt; have HD5 := Lib.hid (Nt.at_below (w := w4.drew) (by exact HN4.out.2) hb); have HT5 := Lib.hid (Nt.at_below (w := w4.drew) (by exact HT4.out) hb); have HB5 : Hid (Below w.heap.size w w5) := Lib.hid ((show Below w.heap.size w w4.drew from HB4.out.drew).trans (hb.mono HB4.out.size)); clear hp hb CT)
      | (go_at_call 68; refine (CP.out w5 _ _ HP5.out HD5.out).mono ?_; rintro e w6 ⟨QA, qm, qc, rfl, hp, hb⟩; have HP6 := Lib.hid hp; have HF6 := Lib.hid (HF5.out.below hb HF5.out.lt); have r1 : w6.cell? ⟨bf, 1, none⟩ = some (.slice FA fm fc) := HF6.out.cell 1; have r2 : w6.cell? ⟨bf, 2, none⟩ = some (.slice GA gm gc) := HF6.out.cell 2; have r3 := HF6.out.lt; have HD6 := Lib.hid (HD5.out.at_below hb); have HT6 := Lib.hid (HT5.out.at_below hb); have HB6 := Lib.hid (HB5.out.trans (hb.mono HB5.out.size)); clear hp hb)
      | (go_at_call 47; refine (CTT.out w6 _ _ D HT6.out HD6.out LD.out).mono ?_; rintro e w7 ⟨RA, rm, rc, rfl, hp, hb⟩; have HR7 := Lib.hid hp; have HP7 := Lib.hid (HP6.out.at_below hb); have HF7 := Lib.hid (HF6.out.below hb HF6.out.lt); have s1 : w7.cell? ⟨bf, 1, none⟩ = some (.slice FA fm fc) := HF7.out.cell 1; have s2 : w7.cell? ⟨bf, 2, none⟩ = some (.slice GA gm gc) := HF7.out.cell 2; have s3 := HF7.out.lt; have HB7 := Lib.hid (HB6.out.trans (hb.mono HB6.out.size)); clear hp hb)
      | (go_at_call 67; refine (CD.out w7 _ _ HDP.out HP7.out HR7.out).mono ?_; rintro e w8 ⟨qv, rv, rfl, hp, hr, hb⟩; have HQ8 := Lib.hid hp; have HF8 := Lib.hid (HF7.out.below hb HF7.out.lt); have t0 : w8.cell? ⟨bf, 0, none⟩ = some (.bool s) := HF8.out.cell 0; have t1 : w8.cell? ⟨bf, 1, none⟩ = some (.slice FA fm fc) := HF8.out.cell 1; have t2 : w8.cell? ⟨bf, 2, none⟩ = some (.slice GA gm gc) := HF8.out.cell 2; have t3 := HF8.out.lt; have HB8 := Lib.hid (HB7.out.trans (hb.mono HB7.out.size)); clear hp hr hb))
  clear k1 k2 kz q1 q2 q3 r1 r2 r3 s1 s2 s3
  have hqv := HQ8.out
  rw [rnd_div HDP.out] at hqv
  have HQV := Lib.hid hqv
  have hbd := HQ.out HDP.out
  have HFV := Lib.hid (HF1.out HRA.out.symm)
  clear hqv
  generalize ratW.rndN N D = q at *
  have hq1 := hbd.1
  have CW : Hid (Calls Tryd.prog 65 #[qv] w8 fun e w' => e = .returned (.tuple #[.int .u64 (q : Int), .bool true]) ∧ w8 = w') := Lib.hid (by
    have h := word_any qv q w8 HQV.out (Nat.le_trans (len_64 (by omega)) (by decide))
    rw [Nat.mod_eq_of_lt (by omega), decide_eq_true (by omega)] at h
    exact h)
  have HBD := Lib.hid hbd.2
  clear hbd
  go_wp2_with fail
  refine CW.out.mono ?_
  rintro e w9 ⟨rfl, rfl⟩
  cases s
  · have hn : ¬ n < 0 := by have := HSG.out; simpa using this.symm
    have hq2 := HBD.out (by omega)
    have HV : Hid (F = .tuple #[.int .i64 (q : Int), .int .i64 0]) := Lib.hid (by rw [HFV.out, if_neg hn])
    clear hn
    go_wp2
    go_ret2
    refine ⟨?_, HB8.out⟩
    rw [HV.out]
    exact congrArg Ending.returned (ret_ii (by first | rfl | ((try simp only [IntKind.wrap_u64, IntKind.wrap_i64, wrap64]); omega)))
  · have hn : n < 0 := by have := HSG.out; simpa using this.symm
    have HV : Hid (F = .tuple #[.int .i64 (-(q : Int)), .int .i64 0]) := Lib.hid (by rw [HFV.out, if_pos hn])
    clear hn
    go_wp2
    go_ret2
    refine ⟨?_, HB8.out⟩
    rw [HV.out]
    exact congrArg Ending.returned (ret_ii (by first | rfl | ((try simp only [IntKind.wrap_u64, IntKind.wrap_i64, wrap64]); omega)))
end natW
end Go.Proofs.YtllbpanfhlbbgaaDoor
