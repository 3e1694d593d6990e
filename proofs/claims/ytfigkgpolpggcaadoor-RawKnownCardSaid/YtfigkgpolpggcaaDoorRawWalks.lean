/- The walks of the statements RawThere, RawBack, RawParses, RawPrints, RawFits, RawEnds. Condition: the listed variables. -/
import Derived.Test.YtfigkgpolpggcaaDoorRawWorks
import Derived.Test.YtfigkgpolpggcaaDoorRawRParse
import Derived.Test.YtfigkgpolpggcaaDoorPlain
namespace Go.Proofs.YtfigkgpolpggcaaDoor.rawThereW
open Go.RowKit Go.Bus Go.Bus.rawK Go.Bus.textK
set_option linter.unusedVariables false
theorem dec_len (u : Nat) (h : u < 18446744073709551616) : (Lib.decDigits u).length ≤ 20 := by
  rw [Lib.decDigits_length]
  rcases Nat.eq_zero_or_pos u with rfl | h0
  · decide +kernel
  · have := Lib.numDigits_eq u h0 h; split at this <;> omega
theorem prt_len (v : Int) (s : Bool) (hv : 0 ≤ v) (hv' : v < 18446744073709551616) : (prt v s).length ≤ 21 := by
  cases s
  · simp only [prt, Bool.false_eq_true, if_false]
    have := dec_len v.toNat (by omega)
    omega
  · simp only [prt, if_true]
    have hw := i64_wrap v hv hv'
    have hb : -9223372036854775808 ≤ IntKind.i64.wrap v ∧ IntKind.i64.wrap v ≤ 9223372036854775807 := by rw [hw]; split <;> omega
    unfold Lib.itoa
    split
    · have := dec_len (IntKind.i64.wrap v).natAbs (by omega)
      simp; omega
    · have := dec_len (IntKind.i64.wrap v).toNat (by omega)
      omega

set_option maxRecDepth 100000 in
set_option maxHeartbeats 1000000 in
theorem walk (v : Int) (s : Bool) (w : World) (hv : 0 ≤ v) (hv' : v < 18446744073709551616) (ht : rawP.Tab w) (hr : laidK.Rng w) : Calls Tryd.prog 6 #[.int .u64 v, .bool s] w fun e w' => e = .returned (.bool true) ∧ Below w.heap.size w w' := by
  have HT := Lib.hid ht; clear ht
  have HR := Lib.hid hr; clear hr
  have HTH := Lib.hid (there v s hv hv')
  have HL := Lib.hid (prt_len v s hv hv')
  go_enter Tryd.func6, Tryd.ntmps6
  go_wp2_with fail
  refine (rawP.print_any _ _ _ hv hv' HT.out).mono ?_
  rintro e w1 ⟨rfl, hb1⟩
  have HB := Lib.hid hb1; clear hb1
  go_wp2_with fail
  refine (rawQ.parse_any _ _ _ (by have := HL.out; show (prt v s).toArray.size ≤ _; simp; omega) (HR.out.at_below HB.out)).mono ?_
  rintro e w2 h2
  obtain ⟨rfl, hb2⟩ := h2
  rw [show (⟨(prt v s).toArray⟩ : ByteArray).data.toList = prt v s from rfl, HTH.out]
  have e0 : rawQ.errV ((v, (0 : Int)).2) = Value.nilIface := rfl
  rw [e0]
  clear e0
  have HB2 := Lib.hid (HB.out.trans (hb2.mono HB.out.size)); clear hb2
  go_wp2_with fail
  refine (rawW.works_yes _ (HT.out.at_below HB2.out)).mono ?_
  rintro e w3 ⟨rfl, hb3⟩
  have HB3 := Lib.hid (HB2.out.trans (hb3.mono HB2.out.size)); clear hb3
  go_wp2
  go_ret
  exact ⟨rfl, HB3.out⟩

end Go.Proofs.YtfigkgpolpggcaaDoor.rawThereW
namespace Go.Proofs.YtfigkgpolpggcaaDoor.rawBackW
open Go.RowKit Go.Bus Go.Bus.rawK Go.Bus.textK
set_option linter.unusedVariables false

theorem str_eq (s : ByteArray) : (⟨s.data.toList.toArray⟩ : ByteArray) = s := by cases s; simp

set_option maxRecDepth 100000 in
set_option maxHeartbeats 1000000 in
theorem walk (s : ByteArray) (sg : Bool) (w : World) (hs : s.size ≤ 140737488351232) (ht : rawP.Tab w) (hr : laidK.Rng w) : Calls Tryd.prog 7 #[.string s, .bool sg] w fun e w' => e = .returned (.bool true) ∧ Below w.heap.size w w' := by
  have HT := Lib.hid ht; clear ht
  have HR := Lib.hid hr; clear hr
  by_cases h0 : (pz s.data.toList sg).2 = 0
  · have HPB := Lib.hid (print_back s.data.toList sg h0)
    have hbd := pz_bounds s.data.toList sg
    obtain ⟨v, hv⟩ : ∃ v, v = (pz s.data.toList sg).1 := ⟨_, rfl⟩
    rw [← hv] at hbd
    have hpz : pz s.data.toList sg = (v, 0) := by rw [hv, ← h0]
    have HPZ := Lib.hid hpz
    have HV := Lib.hid hv
    obtain ⟨v0, v1⟩ := hbd
    clear h0 hv hpz
    go_enter Tryd.func7, Tryd.ntmps7
    go_wp2_with fail
    refine (rawQ.parse_any _ _ _ hs HR.out).mono ?_
    rintro e w2 h2
    obtain ⟨rfl, hb2⟩ := h2
    rw [HPZ.out]
    have e0 : rawQ.errV ((v, (0 : Int)).2) = Value.nilIface := rfl
    rw [e0]
    clear e0
    have HB2 := Lib.hid hb2; clear hb2
    go_wp2_with fail
    refine (rawW.works_yes _ (HT.out.at_below HB2.out)).mono ?_
    rintro e w3 ⟨rfl, hb3⟩
    have HB3 := Lib.hid (HB2.out.trans (hb3.mono HB2.out.size)); clear hb3
    go_wp2_with fail
    refine (rawP.print_any _ _ _ v0 v1 (HT.out.at_below HB3.out)).mono ?_
    rintro e w4 ⟨rfl, hb4⟩
    have HB4 := Lib.hid (HB3.out.trans (hb4.mono HB3.out.size)); clear hb4
    rw [HV.out, HPB.out, str_eq]
    go_wp2
    go_ret
    exact ⟨ret_bool (by simp), HB4.out⟩
  · have hz := pz_zero s.data.toList sg h0
    obtain ⟨n, hn⟩ : ∃ n, n = (pz s.data.toList sg).2 := ⟨_, rfl⟩
    have hpz : pz s.data.toList sg = (0, n) := by rw [hn, ← hz]
    have hn0 : ¬ n = 0 := by rw [hn]; exact h0
    have HPZ := Lib.hid hpz
    have HE := Lib.hid (show rawQ.errV ((((0 : Int), n)).2) = .iface 89 (.int .i64 n) from if_neg hn0)
    clear h0 hz hn hpz hn0
    go_enter Tryd.func7, Tryd.ntmps7
    go_wp2_with fail
    refine (rawQ.parse_any _ _ _ hs HR.out).mono ?_
    rintro e w2 h2
    obtain ⟨rfl, hb2⟩ := h2
    rw [HPZ.out, HE.out]
    have HB2 := Lib.hid hb2; clear hb2
    go_wp2_with fail
    refine (rawW.works_yes _ (HT.out.at_below HB2.out)).mono ?_
    rintro e w3 ⟨rfl, hb3⟩
    have HB3 := Lib.hid (HB2.out.trans (hb3.mono HB2.out.size)); clear hb3
    go_wp2
    go_ret
    exact ⟨rfl, HB3.out⟩

end Go.Proofs.YtfigkgpolpggcaaDoor.rawBackW
namespace Go.Proofs.YtfigkgpolpggcaaDoor.rawParsesW
open Go.RowKit Go.Bus Go.Bus.rawK Go.Bus.textK
set_option linter.unusedVariables false

set_option maxRecDepth 100000 in
set_option maxHeartbeats 1000000 in
theorem walk (s : ByteArray) (sg : Bool) (w : World) (hs : s.size ≤ 140737488351232) (hg : asK.ErrT w) (hr : laidK.Rng w) : Calls Tryd.prog 8 #[.string s, .bool sg] w fun e w' => e = .returned (.bool true) ∧ Below w.heap.size w w' := by
  have HG := Lib.hid hg; clear hg
  have HR := Lib.hid hr; clear hr
  rcases pz_err s.data.toList sg with h0 | h0
  · obtain ⟨v, hv⟩ : ∃ v, v = (pz s.data.toList sg).1 := ⟨_, rfl⟩
    have HPZ := Lib.hid (show pz s.data.toList sg = (v, 0) by rw [hv, ← h0])
    clear h0 hv
    go_enter Tryd.func8, Tryd.ntmps8
    go_wp2_with fail
    refine (rawQ.parse_any _ _ _ hs HR.out).mono ?_
    rintro e w2 h2
    obtain ⟨rfl, hb2⟩ := h2
    rw [HPZ.out]
    have e0 : rawQ.errV ((v, (0 : Int)).2) = Value.nilIface := rfl
    rw [e0]
    clear e0
    have HB2 := Lib.hid hb2; clear hb2
    go_wp2_with fail
    refine (rawQ.rparse_any _ _ _ hs).mono ?_
    rintro e w3 h3
    obtain ⟨rfl, hb3⟩ := h3
    rw [HPZ.out]
    have HB3 := Lib.hid (HB2.out.trans (hb3.mono HB2.out.size)); clear hb3
    go_wp2_with fail
    refine (asK.plain_nil _).mono ?_
    rintro e w4 ⟨rfl, hb4⟩
    have HB4 := Lib.hid (HB3.out.trans (hb4.mono HB3.out.size)); clear hb4
    go_wp2
    go_ret
    exact ⟨ret_bool (by simp), HB4.out⟩
  · have hz := pz_zero s.data.toList sg (by rcases h0 with h | h <;> rw [h] <;> decide)
    obtain ⟨n, hn⟩ : ∃ n, n = (pz s.data.toList sg).2 := ⟨_, rfl⟩
    have hpz : pz s.data.toList sg = (0, n) := by rw [hn, ← hz]
    rw [← hn] at h0
    have hn1 : 1 ≤ n := by omega
    have hn2 : n ≤ 26 := by omega
    have HPZ := Lib.hid hpz
    have HE := Lib.hid (show rawQ.errV ((((0 : Int), n)).2) = .iface 89 (.int .i64 n) from if_neg (show ¬ n = 0 by omega))
    clear h0 hz hn hpz
    go_enter Tryd.func8, Tryd.ntmps8
    go_wp2_with fail
    refine (rawQ.parse_any _ _ _ hs HR.out).mono ?_
    rintro e w2 h2
    obtain ⟨rfl, hb2⟩ := h2
    rw [HPZ.out, HE.out]
    have HB2 := Lib.hid hb2; clear hb2
    go_wp2_with fail
    refine (rawQ.rparse_any _ _ _ hs).mono ?_
    rintro e w3 h3
    obtain ⟨rfl, hb3⟩ := h3
    rw [HPZ.out]
    have HB3 := Lib.hid (HB2.out.trans (hb3.mono HB2.out.size)); clear hb3
    go_wp2_with fail
    refine (asK.plain_no n _ hn1 hn2 (HG.out.at_below HB3.out)).mono ?_
    rintro e w4 ⟨rfl, hb4⟩
    have HB4 := Lib.hid (HB3.out.trans (hb4.mono HB3.out.size)); clear hb4
    go_wp2
    go_ret
    exact ⟨ret_bool (by simp), HB4.out⟩

end Go.Proofs.YtfigkgpolpggcaaDoor.rawParsesW
namespace Go.Proofs.YtfigkgpolpggcaaDoor.rawPrintsW
open Go.RowKit Go.Bus Go.Bus.rawK Go.Bus.textK
set_option linter.unusedVariables false

set_option maxRecDepth 100000 in
set_option maxHeartbeats 1000000 in
theorem walk (v : Int) (s : Bool) (w : World) (hv : 0 ≤ v) (hv' : v < 18446744073709551616) (ht : rawP.Tab w) : Calls Tryd.prog 3 #[.int .u64 v, .bool s] w fun e w' => e = .returned (.bool true) ∧ Below w.heap.size w w' := by
  have HT := Lib.hid ht; clear ht
  go_enter Tryd.func3, Tryd.ntmps3
  go_wp2_with fail
  refine (rawP.print_any _ _ _ hv hv' HT.out).mono ?_
  rintro e w1 ⟨rfl, hb1⟩
  have HB := Lib.hid hb1; clear hb1
  go_wp2_with fail
  refine (rawP.rprint_any _ _ _ hv hv').mono ?_
  rintro e w2 ⟨rfl, hb2⟩
  have HB2 := Lib.hid (HB.out.trans (hb2.mono HB.out.size)); clear hb2
  go_wp2
  go_ret
  exact ⟨ret_bool (by simp), HB2.out⟩

end Go.Proofs.YtfigkgpolpggcaaDoor.rawPrintsW
namespace Go.Proofs.YtfigkgpolpggcaaDoor.rawFitsW
open Go.RowKit Go.Bus Go.Bus.rawK Go.Bus.textK
set_option linter.unusedVariables false

set_option maxRecDepth 100000 in
set_option maxHeartbeats 1000000 in
theorem walk (v n : Int) (s : Bool) (w : World) (hv : 0 ≤ v) (hv' : v < 18446744073709551616) : Calls Tryd.prog 62 #[.int .u64 v, .int .i64 n, .bool s] w fun e w' => e = .returned (.bool true) ∧ Below w.heap.size w w' := by
  go_enter Tryd.func62, Tryd.ntmps62
  go_wp2_with fail
  refine (rawW.fits_any _ _ _ _ hv hv').mono ?_
  rintro e w' ⟨rfl, rfl⟩
  go_wp2_with fail
  refine (rawW.rfits_any _ _ _ _ hv hv').mono ?_
  rintro e w' ⟨rfl, rfl⟩
  go_wp2_with fail
  refine (rawW.low_any _ _ _ hv hv').mono ?_
  rintro e w' ⟨rfl, rfl⟩
  go_wp2_with fail
  refine (rawW.rlow_any _ _ _ hv hv').mono ?_
  rintro e w' ⟨rfl, rfl⟩
  go_wp2_with fail
  refine (rawW.extend_any _ _ _ _ hv hv').mono ?_
  rintro e w' ⟨rfl, rfl⟩
  go_wp2_with fail
  refine (rawW.rextend_any _ _ _ _ hv hv').mono ?_
  rintro e w' ⟨rfl, rfl⟩
  go_wp2
  go_ret
  exact ⟨rfl, Below.refl _ _⟩

end Go.Proofs.YtfigkgpolpggcaaDoor.rawFitsW
namespace Go.Proofs.YtfigkgpolpggcaaDoor.rawEndsW
open Go.RowKit Go.Bus Go.Bus.rawK Go.Bus.textK
set_option linter.unusedVariables false

set_option maxRecDepth 100000 in
set_option maxHeartbeats 1000000 in
theorem walk (n : Int) (s : Bool) (w : World) : Calls Tryd.prog 63 #[.int .i64 n, .bool s] w fun e w' => e = .returned (.bool true) ∧ Below w.heap.size w w' := by
  go_enter Tryd.func63, Tryd.ntmps63
  go_wp2_with (first | (go_at_call 21; refine (rawW.ends_any _ _ _).mono ?_; rintro e w' ⟨rfl, rfl⟩) | (go_at_call 112; refine (rawW.rends_any _ _ _).mono ?_; rintro e w' ⟨rfl, rfl⟩))
  go_ret
  exact ⟨rfl, Below.refl _ _⟩

end Go.Proofs.YtfigkgpolpggcaaDoor.rawEndsW
