/- frame's reader: rest, length, data, sum. -/
import Derived.Test.YtomkgnlooheibaaReadId
import Derived.Test.YtomkgnlooheibaaCrc
import Derived.Deep.RegionWith
import Derived.Outline
namespace Go.Proofs.Ytomkgnlooheibaa
open Go.RowKit Go.Bus Go.Bus.bitK Go.Bus.numK Go.Bus.decK
set_option linter.unusedVariables false
namespace readW
def restE (m : List Bool) (W : Bool) : Option Nat :=
  if W = false then (if m.length - 14 < 5 then some 2 else if nb m 14 1 ≠ 0 then some 4 else none)
  else if m.length - 14 < 25 then some 2 else if nb m 32 3 ≠ 0 then some 4 else none
def restI (m : List Bool) (W : Bool) : Nat := if W = true then nb m 1 11 * 262144 + nb m 14 18 else nb m 1 11
def restA (W : Bool) : Nat := if W = true then 35 else 15
def RestPost (b : Nat) (lv : Value) (m : List Bool) (W : Bool) (w : World) (e : Ending) (w' : World) : Prop :=
  e = errOf (restE m W) ∧ Only b w w' ∧ (restE m W = none → Rd w' b lv (restA W) (restI m W) W (.slice none 0 0) 0)
theorem or_low {a x : Nat} (h : x < 262144) (ha : a < 2048) : bits BinOp.or IntKind.u32 ((a : Int) * 262144) (x : Int) = ((a * 262144 + x : Nat) : Int) := by
  rw [u32_or _ _ (by omega) (by omega) (by omega) (by omega)]
  have h1 : ((a : Int) * 262144).toNat = 262144 * a := by omega
  rw [h1, Int.toNat_natCast]
  have h2 := Nat.two_pow_add_eq_or_of_lt (i := 18) (b := x) (by simpa using h) a
  rw [show (2 : Nat) ^ 18 = 262144 from by decide] at h2
  rw [← h2, Nat.mul_comm]

set_option maxRecDepth 100000 in
set_option maxHeartbeats 1000000 in
theorem rest_short {b : Nat} {lv : Value} {w : World} {m : List Bool} (hR : Rd w b lv 14 (nb m 1 11) false (.slice none 0 0) 0) (hs : Sl w b Value.bool lv m) (hl : 14 ≤ m.length) :
    Calls Try.prog 54 #[.pointer (some ⟨b, 0, none⟩)] w (RestPost b lv m false w) := by
  obtain ⟨A, cap, rfl, hcap, hmax⟩ := hs.form
  obtain ⟨c0, c1, c2, c3, c4, c5, hf⟩ := hR.cells
  have hbz := Nat.le_of_lt (Has.lt hR)
  have HR := Lib.hid hR; clear hR
  have HS := Lib.hid hs; clear hs
  by_cases h5 : m.length - 14 < 5
  · have HE : Hid (restE m false = some 2) := by unfold Hid restE; rw [if_pos rfl, if_pos h5]
    go_enter Try.func54, Try.ntmps54
    go_wp2_with fail
    refine (left_any HR.out HS.out hl).mono ?_
    rintro e w1 ⟨rfl, q, rfl⟩
    go_wp2
    go_ret
    exact ⟨by rw [HE.out]; rfl, (Only.refl hbz).drewN _, fun h => by rw [HE.out] at h; cases h⟩
  · have HE : Hid (restE m false = if nb m 14 1 ≠ 0 then some 4 else none) := by unfold Hid restE; rw [if_pos rfl, if_neg h5]
    have P0 := Lib.hid (one_bit (m := m) (a := 14) (by omega))
    go_enter Try.func54, Try.ntmps54
    go_wp2_with fail
    refine (left_any HR.out HS.out hl).mono ?_
    rintro e w1 ⟨rfl, q, rfl⟩
    go_wp2_with fail
    refine (take_rd 1 (HR.out.drewN q) (HS.out.below ((Only.refl hbz).drewN q).below) (by omega) (by omega) (by omega)).mono ?_
    rintro e w2 ⟨rfl, hR2, hb2⟩
    have K2 := Lib.hid (((Only.refl hbz).drewN q).trans hb2)
    have HR2 := Lib.hid hR2; clear hR2 hb2
    rcases P0.out with z0 | z0
    all_goals
      rw [z0]
      have Z0 := Lib.hid z0; clear z0
      go_wp2
      go_ret
    · exact ⟨by rw [HE.out, Z0.out]; rfl, K2.out, fun _ => HR2.out⟩
    · exact ⟨by rw [HE.out, Z0.out]; rfl, K2.out, fun h => by rw [HE.out, Z0.out] at h; cases h⟩

set_option maxRecDepth 100000 in
set_option maxHeartbeats 1000000 in
theorem rest_long {b : Nat} {lv : Value} {w : World} {m : List Bool} (hR : Rd w b lv 14 (nb m 1 11) true (.slice none 0 0) 0) (hs : Sl w b Value.bool lv m) (hl : 14 ≤ m.length) :
    Calls Try.prog 54 #[.pointer (some ⟨b, 0, none⟩)] w (RestPost b lv m true w) := by
  obtain ⟨A, cap, rfl, hcap, hmax⟩ := hs.form
  obtain ⟨c0, c1, c2, c3, c4, c5, hf⟩ := hR.cells
  have hbz := Nat.le_of_lt (Has.lt hR)
  have HR := Lib.hid hR; clear hR
  have HS := Lib.hid hs; clear hs
  by_cases h5 : m.length - 14 < 25
  · have HE : Hid (restE m true = some 2) := by unfold Hid restE; rw [if_neg (by decide), if_pos h5]
    go_enter Try.func54, Try.ntmps54
    go_wp2_with fail
    refine (left_any HR.out HS.out hl).mono ?_
    rintro e w1 ⟨rfl, q, rfl⟩
    go_wp2
    go_ret
    exact ⟨by rw [HE.out]; rfl, (Only.refl hbz).drewN _, fun h => by rw [HE.out] at h; cases h⟩
  · have HE : Hid (restE m true = if nb m 32 3 ≠ 0 then some 4 else none) := by unfold Hid restE; rw [if_neg (by decide), if_neg h5]
    have b1 := nb_lt (m := m) (a := 1) (n := 11) (by omega)
    have b2 := nb_lt (m := m) (a := 14) (n := 18) (by omega)
    have b3 := nb_lt (m := m) (a := 32) (n := 3) (by omega)
    rw [show (2 : Nat) ^ 11 = 2048 from by decide] at b1
    rw [show (2 : Nat) ^ 18 = 262144 from by decide] at b2
    rw [show (2 : Nat) ^ 3 = 8 from by decide] at b3
    have HO := Lib.hid (or_low b2 b1)
    go_enter Try.func54, Try.ntmps54
    go_wp2_with fail
    refine (left_any HR.out HS.out hl).mono ?_
    rintro e w1 ⟨rfl, q, rfl⟩
    go_wp2_with fail
    go_region_with (go_at_call 51; refine (take_rd (b := b) (a := 14) (m := m) 18 (by exact HR.out) (by exact HS.out) (by omega) (by omega) (by omega)).mono ?_; rintro e w2 ⟨rfl, hR2, hb2⟩; obtain ⟨c0', c1', c2', c3', c4', c5', hf'⟩ := hR2.cells; have HR2 := Lib.hid hR2; have HB2 := Lib.hid hb2; clear hR2 hb2)
    all_goals
      go_wp2_with fail
      refine (take_rd (b := b) (a := 32) (m := m) 3 (by exact HR2.out.id _) (HS.out.below (((((Only.refl hbz).drewN _).trans HB2.out).set 2 _).below)) (by omega) (by omega) (by omega)).mono ?_
      rintro e w3 ⟨rfl, hR3, hb3⟩
      have K3 := Lib.hid (((((Only.refl hbz).drewN _).trans HB2.out).set 2 _).trans hb3)
      rw [HO.out] at hR3
      have HR3 := Lib.hid hR3; clear hR3 hb3
      by_cases z0 : nb m 32 3 = 0
      · rw [z0]
        have Z0 := Lib.hid z0; clear z0
        go_wp2
        go_ret
        exact ⟨by rw [HE.out, Z0.out]; rfl, K3.out, fun _ => HR3.out⟩
      · have d0 : (((nb m 32 3 : Nat) : Int) != 0) = true := by simp; omega
        have Z0 : Hid (¬ nb m 32 3 = 0) := z0
        clear z0
        go_wp2
        go_ret
        exact ⟨by rw [HE.out, if_pos Z0.out]; rfl, K3.out, fun h => by rw [HE.out, if_pos Z0.out] at h; cases h⟩

def lenE (m : List Bool) (a : Nat) : Option Nat :=
  if 8 < nb m a 4 then some 15 else if m.length - (a + 4) < 8 * nb m a 4 + 15 then some 2 else if 8 * nb m a 4 + 15 < m.length - (a + 4) then some 3 else none
def LenPost (b : Nat) (lv : Value) (m : List Bool) (a : Nat) (i : Int) (W : Bool) (w : World) (e : Ending) (w' : World) : Prop :=
  e = errOf (lenE m a) ∧ Only b w w' ∧ (lenE m a = none → Rd w' b lv (a + 4) i W (.slice none 0 0) (nb m a 4))

set_option maxRecDepth 100000 in
set_option maxHeartbeats 1000000 in
theorem len_any {b a : Nat} {lv : Value} {i : Int} {W : Bool} {w : World} {m : List Bool} (hR : Rd w b lv a i W (.slice none 0 0) 0) (hs : Sl w b Value.bool lv m) (hl : a + 4 ≤ m.length) :
    Calls Try.prog 55 #[.pointer (some ⟨b, 0, none⟩)] w (LenPost b lv m a i W w) := by
  obtain ⟨A, cap, rfl, hcap, hmax⟩ := hs.form
  have hbz := Nat.le_of_lt (Has.lt hR)
  have HR := Lib.hid hR; clear hR
  have HS := Lib.hid hs; clear hs
  have b1 := nb_lt (m := m) (a := a) (n := 4) hl
  rw [show (2 : Nat) ^ 4 = 16 from by decide] at b1
  have HEE : Hid (lenE m a = if 8 < nb m a 4 then some 15 else if m.length - (a + 4) < 8 * nb m a 4 + 15 then some 2 else if 8 * nb m a 4 + 15 < m.length - (a + 4) then some 3 else none) := rfl
  obtain ⟨n, hn⟩ : ∃ n, n = nb m a 4 := ⟨_, rfl⟩
  rw [← hn] at b1 HEE
  have HN := Lib.hid hn; clear hn
  go_enter Try.func55, Try.ntmps55
  go_wp2_with fail
  refine (take_rd 4 HR.out HS.out hl (by omega) (by omega)).mono ?_
  rintro e w1 ⟨rfl, hR1, hb1⟩
  rw [← HN.out]
  obtain ⟨c0, c1, c2, c3, c4, c5, hf⟩ := hR1.cells
  have HR1 := Lib.hid (hR1.size (n : Int))
  have K1 := Lib.hid (hb1.set 5 (.int .i64 (n : Int)))
  clear hR1 hb1
  by_cases h8 : 8 < n
  · have HE : Hid (lenE m a = some 15) := by unfold Hid; rw [HEE.out, if_pos h8]
    go_wp2
    go_ret
    exact ⟨by rw [HE.out]; rfl, K1.out, fun h => by rw [HE.out] at h; cases h⟩
  · go_wp2_with fail
    refine (left_any (m := m) HR1.out (HS.out.below K1.out.below) hl).mono ?_
    rintro e w2 ⟨rfl, q, rfl⟩
    by_cases hs : m.length - (a + 4) < 8 * n + 15
    · have HE : Hid (lenE m a = some 2) := by unfold Hid; rw [HEE.out, if_neg h8, if_pos hs]
      go_wp2
      go_ret
      exact ⟨by rw [HE.out]; rfl, K1.out.drewN _, fun h => by rw [HE.out] at h; cases h⟩
    · go_wp2_with fail
      refine (left_any (m := m) (HR1.out.drewN q) (HS.out.below (K1.out.drewN q).below) hl).mono ?_
      rintro e w3 ⟨rfl, q2, rfl⟩
      by_cases hg : 8 * n + 15 < m.length - (a + 4)
      · have HE : Hid (lenE m a = some 3) := by unfold Hid; rw [HEE.out, if_neg h8, if_neg hs, if_pos hg]
        go_wp2
        go_ret
        exact ⟨by rw [HE.out]; rfl, K1.out.drewN _, fun h => by rw [HE.out] at h; cases h⟩
      · have HE : Hid (lenE m a = none) := by unfold Hid; rw [HEE.out, if_neg h8, if_neg hs, if_neg hg]
        go_wp2
        go_ret
        exact ⟨by rw [HE.out]; rfl, K1.out.drewN _, fun _ => by rw [← HN.out]; exact HR1.out.drewN _⟩

end readW
end Go.Proofs.Ytomkgnlooheibaa
