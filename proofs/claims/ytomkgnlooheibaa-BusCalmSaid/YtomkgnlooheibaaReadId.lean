/- frame's reader: id. -/
import Derived.Test.YtomkgnlooheibaaReader
namespace Go.Proofs.Ytomkgnlooheibaa
open Go.RowKit Go.Bus Go.Bus.bitK Go.Bus.numK Go.Bus.decK
set_option linter.unusedVariables false
namespace readW
def errOf : Option Nat → Ending
  | none => .returned .nilIface
  | some k => .returned (.iface 70 (.int .i64 (k : Int)))
def idE (m : List Bool) : Option Nat := if m.length < 14 then some 2 else if nb m 0 1 ≠ 0 ∨ nb m 12 1 ≠ nb m 13 1 then some 4 else none

def IdPost (b : Nat) (lv : Value) (m : List Bool) (w : World) (e : Ending) (w' : World) : Prop :=
  e = errOf (idE m) ∧ Only b w w' ∧ (idE m = none → Rd w' b lv 14 (nb m 1 11) (decide (nb m 13 1 = 1)) (.slice none 0 0) 0)

set_option maxRecDepth 100000 in
set_option maxHeartbeats 1000000 in
theorem id_any {b : Nat} {lv : Value} {w : World} {m : List Bool} (hR : Rd w b lv 0 0 false (.slice none 0 0) 0) (hs : Sl w b Value.bool lv m) :
    Calls Try.prog 53 #[.pointer (some ⟨b, 0, none⟩)] w (IdPost b lv m w) := by
  obtain ⟨A, cap, rfl, hcap, hmax⟩ := hs.form
  have hbz := Nat.le_of_lt (Has.lt hR)
  have HR := Lib.hid hR; clear hR
  have HS := Lib.hid hs; clear hs
  by_cases h14 : m.length < 14
  · have he : idE m = some 2 := if_pos h14
    have HE := Lib.hid he; clear he
    go_enter Try.func53, Try.ntmps53
    go_wp2_with fail
    refine (left_any HR.out HS.out (Nat.zero_le _)).mono ?_
    rintro e w1 ⟨rfl, q, rfl⟩
    go_wp2
    go_ret
    exact ⟨by rw [HE.out]; rfl, (Only.refl hbz).drewN _, fun h => by rw [HE.out] at h; cases h⟩
  · have he : idE m = if nb m 0 1 ≠ 0 ∨ nb m 12 1 ≠ nb m 13 1 then some 4 else none := if_neg h14
    have HE := Lib.hid he; clear he
    have p0 := one_bit (m := m) (a := 0) (by omega)
    have p12 := one_bit (m := m) (a := 12) (by omega)
    have p13 := one_bit (m := m) (a := 13) (by omega)
    have P0 := Lib.hid p0; clear p0
    have P12 := Lib.hid p12; clear p12
    have P13 := Lib.hid p13; clear p13
    go_enter Try.func53, Try.ntmps53
    go_wp2_with fail
    refine (left_any HR.out HS.out (Nat.zero_le _)).mono ?_
    rintro e w1 ⟨rfl, q, rfl⟩
    go_wp2_with fail
    refine (take_rd 1 (HR.out.drewN q) (HS.out.below ((Only.refl hbz).drewN q).below) (by omega) (by omega) (by omega)).mono ?_
    rintro e w2 ⟨rfl, hR2, hb2⟩
    have K2 : Only b w w2 := ((Only.refl hbz).drewN q).trans hb2
    have HR2 := Lib.hid hR2; clear hR2 hb2
    go_wp2_with fail
    refine (take_rd 11 HR2.out (HS.out.below K2.below) (by omega) (by omega) (by omega)).mono ?_
    rintro e w3 ⟨rfl, hR3, hb3⟩
    have K3 : Only b w w3 := K2.trans hb3
    obtain ⟨c0, c1, c2, c3, c4, c5, hf⟩ := hR3.cells
    have HR3 := Lib.hid hR3; clear hR3 hb3
    go_wp2_with fail
    refine (take_rd 1 (HR3.out.id _) (HS.out.below (K3.set 2 _).below) (by omega) (by omega) (by omega)).mono ?_
    rintro e w4 ⟨rfl, hR4, hb4⟩
    have K4 : Only b w w4 := (K3.set 2 _).trans hb4
    have HR4 := Lib.hid hR4; clear hR4 hb4 c0 c1 c2 c3 c4 c5 hf
    go_wp2_with fail
    refine (take_rd 1 HR4.out (HS.out.below K4.below) (by omega) (by omega) (by omega)).mono ?_
    rintro e w5 ⟨rfl, hR5, hb5⟩
    have K5 : Only b w w5 := K4.trans hb5
    obtain ⟨c0, c1, c2, c3, c4, c5, hf⟩ := hR5.cells
    have HR5 := Lib.hid hR5; clear hR5 hb5
    have HR6 := Lib.hid (HR5.out.wide (decide (nb m 13 1 = 1))); clear HR5
    have K6 := K5.set 3 (.bool (decide (nb m 13 1 = 1)))
    have p0 := P0.out
    have p12 := P12.out
    have p13 := P13.out
    clear P0 P12 P13
    rcases p0 with z0 | z0 <;> rcases p12 with z12 | z12 <;> rcases p13 with z13 | z13
    all_goals
      simp only [Nat.zero_add, Nat.reduceAdd] at *
      rw [z0, z12, z13]
      have Z0 := Lib.hid z0; clear z0
      have Z12 := Lib.hid z12; clear z12
      have Z13 := Lib.hid z13; clear z13
      have HK := Lib.hid K6; clear K6
      go_wp2
      go_ret
      have h1 := HK.out
      have h2 := HR6.out
      rw [Z13.out] at h1 h2
      refine ⟨?_, h1, fun h => ?_⟩
      · rw [HE.out, Z0.out, Z12.out, Z13.out]; rfl
      · rw [Z13.out]; exact h2
end readW
end Go.Proofs.Ytomkgnlooheibaa
