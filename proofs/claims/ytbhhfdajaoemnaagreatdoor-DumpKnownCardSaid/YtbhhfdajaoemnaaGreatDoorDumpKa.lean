/- busbarlaw27's no of any text, and at the texts of DumpKnown. Conditions: some of the library's errors are laid, one variable of the library's holds some int. -/
import Derived.Test.YtbhhfdajaoemnaaGreatDoorDumpFj
import Derived.Test.YtbhhfdajaoemnaaGreatDoorPlain
import Derived.Test.YtbhhfdajaoemnaaGreatDoorAt
namespace Go.Proofs.YtbhhfdajaoemnaaGreatDoor
open Go.RowKit Go.Bus Go.Bus.dumpK Go.Bus.textK
set_option linter.unusedVariables false
set_option linter.unusedSimpArgs false
namespace dumpW
def noOfK (S : List UInt8) : Int := match parseF S with
  | .error no => no
  | .ok _ => 0
def OneK (l : Ln) (t : Value) (w : World) (e : Ending) (w' : World) : Prop := ∃ A c, e = .returned (.tuple #[.agg #[.int .u64 (l.time : Nat), .string ⟨l.port.toArray⟩, .int .u32 (l.id : Nat), .bool l.wide, .slice A l.data.length c], t]) ∧ Below w.heap.size w w'
theorem parse_one (S : List UInt8) (hl : S.length ≤ 16777216) (w : World) (hM : Mx w) (hR : laidK.Rng w) (hE : asK.ErrT w) : ∃ (l : Ln) (t : Value),
    (∀ W, Below w.heap.size w W → Calls Tryz.prog 19 #[.string ⟨S.toArray⟩] W (OneK l t W)) ∧
    (∀ W, Below w.heap.size w W → Calls Tryz.prog 16 #[t, .int .i64 (noOfK S)] W fun e w' => e = .returned (.bool true) ∧ Below W.heap.size W w') := by
  cases hp : parseF S with
  | error no =>
    have hno := parseF_no hp
    have hn : noOfK S = no := by unfold noOfK; rw [hp]
    rw [hn]
    refine ⟨⟨0, [], 0, false, []⟩, .iface 74 (.int .i64 no), fun W hb => (dparse_any S hl W (hM.at_below hb) (hR.at_below hb)).mono ?_, fun W hb => asK.plain_no no W hno.1 hno.2 (hE.at_below hb)⟩
    rintro e w' ⟨h1, h2⟩
    rw [hp] at h2
    exact ⟨none, 0, h2, h1⟩
  | ok l =>
    have hn : noOfK S = 0 := by unfold noOfK; rw [hp]
    rw [hn]
    refine ⟨l, .nilIface, fun W hb => (dparse_any S hl W (hM.at_below hb) (hR.at_below hb)).mono ?_, fun W hb => asK.plain_nil W⟩
    rintro e w' ⟨h1, h2⟩
    rw [hp] at h2
    obtain ⟨v, rfl, ho⟩ := h2
    obtain ⟨A, c, rfl⟩ := own_sliceL ho
    exact ⟨A, c, rfl, h1⟩
set_option maxRecDepth 100000 in
set_option maxHeartbeats 4000000 in
theorem no_any (S : List UInt8) (hl : S.length ≤ 16777216) (w : World) (hM : Mx w) (hR : laidK.Rng w) (hE : asK.ErrT w) : Calls Tryz.prog 15 #[.string ⟨S.toArray⟩, .int .i64 (noOfK S)] w fun e w' => e = .returned (.bool true) ∧ Below w.heap.size w w' := by
  obtain ⟨l, t, hp, hpl⟩ := parse_one S hl w hM hR hE
  obtain ⟨no, hno⟩ : ∃ no, no = noOfK S := ⟨_, rfl⟩
  rw [← hno] at hpl ⊢
  have HP := Lib.hid hp
  have HPL := Lib.hid hpl
  obtain ⟨SB, hSB⟩ : ∃ SB : ByteArray, SB = ⟨S.toArray⟩ := ⟨_, rfl⟩
  rw [← hSB] at HP ⊢
  clear hSB hl hM hR hE hp hpl hno
  go_enter Tryz.func15, Tryz.ntmps15
  go_wp2_with fail
  refine (HP.out _ (by repeat' (first | (with_reducible assumption) | (with_reducible refine Below.setCell ?_ ?_ _) | (with_reducible refine Below.alloc ?_ ?_ _) | (with_reducible refine Below.drew ?_) | (with_reducible refine below_drewN ?_ _) | (with_reducible exact Below.refl _ _) | (show _ ≤ _; (try simp); (try omega); done) | exact Below.refl _ _ | assumption))).mono ?_
  rintro e w1 ⟨A0, c0, rfl, hb⟩
  have HB1 := Lib.hid hb
  clear hb
  go_wp2_with fail
  refine (HPL.out _ (by have hB := HB1.out; have hs := hB.size; exact (by repeat' (first | (with_reducible assumption) | (with_reducible refine Below.setCell ?_ ?_ _) | (with_reducible refine Below.alloc ?_ ?_ _) | (with_reducible refine Below.drew ?_) | (with_reducible refine below_drewN ?_ _) | (with_reducible exact Below.refl _ _) | (show _ ≤ _; (try simp); (try omega); done) | exact Below.refl _ _ | assumption)))).mono ?_
  rintro e w2 ⟨rfl, hb⟩
  have HB2 : Hid (Below w.heap.size w w2) := Lib.hid (Below.trans (by have hB := HB1.out; have hs := hB.size; exact (by repeat' (first | (with_reducible assumption) | (with_reducible refine Below.setCell ?_ ?_ _) | (with_reducible refine Below.alloc ?_ ?_ _) | (with_reducible refine Below.drew ?_) | (with_reducible refine below_drewN ?_ _) | (with_reducible exact Below.refl _ _) | (show _ ≤ _; (try simp); (try omega); done) | exact Below.refl _ _ | assumption))) (hb.mono (by have := HB1.out.size; simp; omega)))
  clear hb
  go_wp2
  go_ret
  exact ⟨rfl, HB2.out⟩
theorem no_at {S : List UInt8} {n : Int} (h : noOfK S = n) (hl : S.length ≤ 16777216) (w : World) (hM : Mx w) (hR : laidK.Rng w) (hE : asK.ErrT w) : Calls Tryz.prog 15 #[.string ⟨S.toArray⟩, .int .i64 n] w fun e w' => e = .returned (.bool true) ∧ Below w.heap.size w w' := by
  subst h; exact no_any S hl w hM hR hE
end dumpW
end Go.Proofs.YtbhhfdajaoemnaaGreatDoor
