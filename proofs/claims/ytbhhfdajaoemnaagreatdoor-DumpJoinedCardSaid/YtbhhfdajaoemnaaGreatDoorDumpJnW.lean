/- DumpJoined's walk: of any two texts. Conditions: the library's tables and some of its errors are laid, one variable of the library's holds some int. -/
import Derived.Test.YtbhhfdajaoemnaaGreatDoorDumpFj
import Derived.Test.YtbhhfdajaoemnaaGreatDoorDumpQa
import Derived.Test.YtbhhfdajaoemnaaGreatDoorSameLn
import Derived.Test.YtbhhfdajaoemnaaGreatDoorAt
namespace Go.Proofs.YtbhhfdajaoemnaaGreatDoor
open Go.RowKit Go.Bus Go.Bus.cellK Go.Bus.dumpK Go.Bus.textK
set_option linter.unusedVariables false
set_option linter.unusedSimpArgs false
namespace dumpW
theorem szLn : (sizeOf (Tryz.prog.elem 24)).run Tryz.prog = fun W => .ok 5 W := by kernel_rfl
theorem slice_to (g N c n : Nat) (h : n ≤ c) (W : World) : (Instr.slice 24 (.slice (some ⟨g, 0, none⟩) N c) none (some (.int .i64 (n : Nat))) none).run Tryz.prog W = .ok (.slice (some ⟨g, 0, none⟩) n c) W := by
  rw [run_slice_h W _ _ _ _ (by kernel_rfl) _ _ (by omega) (by omega), szLn]
  simp [Result.andThen, sliced, Addr.add]
theorem slice_from (g N c n : Nat) (h : n ≤ N) (h2 : N ≤ c) (W : World) : (Instr.slice 24 (.slice (some ⟨g, 0, none⟩) N c) (some (.int .i64 (n : Nat))) none none).run Tryz.prog W = .ok (.slice (if c = n then some ⟨g, 0, none⟩ else some ⟨g, 0 + n * 5, none⟩) (N - n) (c - n)) W := by
  rw [run_slice_l W _ _ _ _ (by kernel_rfl) _ _ (by omega) (by omega), szLn]
  have e : ((⟨g, 0, none⟩ : Addr).add (n * 5)) = ⟨g, 0 + n * 5, none⟩ := Addr.add_mid _ _ _
  simp only [Result.andThen, sliced, Int.toNat_natCast, Option.map_some, e]
set_option maxRecDepth 100000 in
set_option maxHeartbeats 4000000 in
theorem jn_a (a b : List UInt8) (w : World) (hT : fmtK.Tab w) (hZ : hexW.Tz w) (hM : Mx w) (hR : laidK.Rng w) (hE : asK.ErrT w) (h1 : 65536 < a.length) :
    Calls Tryz.prog 3 #[.string ⟨a.toArray⟩, .string ⟨b.toArray⟩] w (YesL w) := by
  have HWK := Lib.hid (works_any w hT hZ)
  have d1 : decide ((65536 : Int) < (a.length : Int)) = true := by simp; omega
  have d1n : decide (65536 < a.length) = true := by simp; omega
  clear hT hZ hM hR hE
  clear h1
  go_enter Tryz.func3, Tryz.ntmps3
  go_wp2_with fail
  refine (HWK.out).mono ?_
  rintro e w1 ⟨rfl, hb1⟩
  have HB1 := Lib.hid hb1
  clear hb1
  go_wp2
  go_ret
  exact ⟨rfl, HB1.out⟩
set_option maxRecDepth 100000 in
set_option maxHeartbeats 4000000 in
theorem jn_b (a b : List UInt8) (w : World) (hT : fmtK.Tab w) (hZ : hexW.Tz w) (hM : Mx w) (hR : laidK.Rng w) (hE : asK.ErrT w) (h1 : ¬ 65536 < a.length) (h2 : 65536 < b.length) :
    Calls Tryz.prog 3 #[.string ⟨a.toArray⟩, .string ⟨b.toArray⟩] w (YesL w) := by
  have HWK := Lib.hid (works_any w hT hZ)
  have d1 : decide ((65536 : Int) < (a.length : Int)) = false := by simp; omega
  have d1n : decide (65536 < a.length) = false := by simp; omega
  have d2 : decide ((65536 : Int) < (b.length : Int)) = true := by simp; omega
  have d2n : decide (65536 < b.length) = true := by simp; omega
  clear hT hZ hM hR hE
  clear h1 h2
  go_enter Tryz.func3, Tryz.ntmps3
  go_wp2_with fail
  refine (HWK.out).mono ?_
  rintro e w1 ⟨rfl, hb1⟩
  have HB1 := Lib.hid hb1
  clear hb1
  go_wp2
  go_ret
  exact ⟨rfl, HB1.out⟩
set_option maxRecDepth 100000 in
set_option maxHeartbeats 4000000 in
theorem jn_la (a b : List UInt8) (w : World) (hT : fmtK.Tab w) (hZ : hexW.Tz w) (hM : Mx w) (hR : laidK.Rng w) (hE : asK.ErrT w) (h1 : ¬ 65536 < a.length) (h2 : ¬ 65536 < b.length) (h3 : 1000 < a.count 10) :
    Calls Tryz.prog 3 #[.string ⟨a.toArray⟩, .string ⟨b.toArray⟩] w (YesL w) := by
  have HWK := Lib.hid (works_any w hT hZ)
  have d1 : decide ((65536 : Int) < (a.length : Int)) = false := by simp; omega
  have d1n : decide (65536 < a.length) = false := by simp; omega
  have d2 : decide ((65536 : Int) < (b.length : Int)) = false := by simp; omega
  have d2n : decide (65536 < b.length) = false := by simp; omega
  obtain ⟨na, hna⟩ : ∃ n, n = a.count 10 := ⟨_, rfl⟩
  have HCa : Hid (∀ W, Calls Tryz.prog 8 #[.string ⟨a.toArray⟩] W fun e w' => e = .returned (.int .i64 (na : Nat)) ∧ W = w') := Lib.hid (fun W => by rw [hna]; exact countnl_any a (by omega) W)
  rw [← hna] at h3
  have d3 : decide ((1000 : Int) < (na : Int)) = true := by simp; omega
  have d3n : decide (1000 < na) = true := by simp; omega
  clear hT hZ hM hR hE
  clear h1 h2 h3 hna
  go_enter Tryz.func3, Tryz.ntmps3
  go_wp2_with fail
  refine (HWK.out).mono ?_
  rintro e w1 ⟨rfl, hb1⟩
  have HB1 := Lib.hid hb1
  clear hb1
  go_wp2_with fail
  refine (HCa.out w1).mono ?_
  rintro e w1' ⟨rfl, rfl⟩
  go_wp2
  go_ret
  exact ⟨rfl, HB1.out⟩
set_option maxRecDepth 100000 in
set_option maxHeartbeats 4000000 in
theorem jn_lb (a b : List UInt8) (w : World) (hT : fmtK.Tab w) (hZ : hexW.Tz w) (hM : Mx w) (hR : laidK.Rng w) (hE : asK.ErrT w) (h1 : ¬ 65536 < a.length) (h2 : ¬ 65536 < b.length) (h3 : ¬ 1000 < a.count 10) (h4 : 1000 < b.count 10) :
    Calls Tryz.prog 3 #[.string ⟨a.toArray⟩, .string ⟨b.toArray⟩] w (YesL w) := by
  have HWK := Lib.hid (works_any w hT hZ)
  have d1 : decide ((65536 : Int) < (a.length : Int)) = false := by simp; omega
  have d1n : decide (65536 < a.length) = false := by simp; omega
  have d2 : decide ((65536 : Int) < (b.length : Int)) = false := by simp; omega
  have d2n : decide (65536 < b.length) = false := by simp; omega
  obtain ⟨na, hna⟩ : ∃ n, n = a.count 10 := ⟨_, rfl⟩
  have HCa : Hid (∀ W, Calls Tryz.prog 8 #[.string ⟨a.toArray⟩] W fun e w' => e = .returned (.int .i64 (na : Nat)) ∧ W = w') := Lib.hid (fun W => by rw [hna]; exact countnl_any a (by omega) W)
  rw [← hna] at h3
  obtain ⟨nb, hnb⟩ : ∃ n, n = b.count 10 := ⟨_, rfl⟩
  have HCb : Hid (∀ W, Calls Tryz.prog 8 #[.string ⟨b.toArray⟩] W fun e w' => e = .returned (.int .i64 (nb : Nat)) ∧ W = w') := Lib.hid (fun W => by rw [hnb]; exact countnl_any b (by omega) W)
  rw [← hnb] at h4
  have d3 : decide ((1000 : Int) < (na : Int)) = false := by simp; omega
  have d3n : decide (1000 < na) = false := by simp; omega
  have d4 : decide ((1000 : Int) < (nb : Int)) = true := by simp; omega
  have d4n : decide (1000 < nb) = true := by simp; omega
  clear hT hZ hM hR hE
  clear h1 h2 h3 h4 hna hnb
  go_enter Tryz.func3, Tryz.ntmps3
  go_wp2_with fail
  refine (HWK.out).mono ?_
  rintro e w1 ⟨rfl, hb1⟩
  have HB1 := Lib.hid hb1
  clear hb1
  go_wp2_with fail
  refine (HCa.out w1).mono ?_
  rintro e w1' ⟨rfl, rfl⟩
  go_wp2_with fail
  refine (HCb.out w1).mono ?_
  rintro e w1' ⟨rfl, rfl⟩
  go_wp2
  go_ret
  exact ⟨rfl, HB1.out⟩
set_option maxRecDepth 100000 in
set_option maxHeartbeats 4000000 in
theorem jn_Aerr (a b : List UInt8) (w : World) (hT : fmtK.Tab w) (hZ : hexW.Tz w) (hM : Mx w) (hR : laidK.Rng w) (hE : asK.ErrT w) (h1 : ¬ 65536 < a.length) (h2 : ¬ 65536 < b.length) (h3 : ¬ 1000 < a.count 10) (h4 : ¬ 1000 < b.count 10) (no : Int) (k : Nat) (hf : goF (cutN 10 a) 0 = .error (no, k)) (no2 : Int) (k2 : Nat) (hg : goF (linesF b) 0 = .error (no2, k2)) :
    Calls Tryz.prog 3 #[.string ⟨a.toArray⟩, .string ⟨b.toArray⟩] w (YesL w) := by
  have HWK := Lib.hid (works_any w hT hZ)
  have d1 : decide ((65536 : Int) < (a.length : Int)) = false := by simp; omega
  have d1n : decide (65536 < a.length) = false := by simp; omega
  have d2 : decide ((65536 : Int) < (b.length : Int)) = false := by simp; omega
  have d2n : decide (65536 < b.length) = false := by simp; omega
  obtain ⟨j1, j2, j3⟩ := fileF_join (a := a) (b := b) (by omega) (by omega) (by omega) (by omega)
  have HM := Lib.hid hM
  have HR := Lib.hid hR
  have HE := Lib.hid hE
  have hcat : ¬ 9223372036854775807 < a.length + 1 := by omega
  have hcat2 : ¬ 9223372036854775807 < a.length + 1 + b.length := by omega
  have e1 : ((⟨a.toArray⟩ : ByteArray) ++ ⟨#[10]⟩) = ⟨(a ++ [10]).toArray⟩ := strApp a [10]
  have e2 : ((⟨a.toArray⟩ : ByteArray) ++ ⟨#[10]⟩ ++ ⟨b.toArray⟩) = ⟨((a ++ [10]) ++ b).toArray⟩ := by rw [e1]; exact strApp _ _
  rw [hf] at j1 j3
  rw [hg] at j2
  simp only at j3
  obtain ⟨hno, hk0, hk1⟩ := goF_no _ _ _ _ hf
  obtain ⟨-, hk2, -⟩ := goF_no _ _ _ _ hg
  have HF1 : Hid (∀ W, Below w.heap.size w W → Calls Tryz.prog 9 #[.string (((⟨a.toArray⟩ : ByteArray) ++ ⟨#[10]⟩))] W fun e w' => e = .returned (.tuple #[.slice none 0 0, .iface 78 (.agg #[.int .i64 no, .int .i64 (k : Nat), .int .i64 0])]) ∧ Below W.heap.size W w') := Lib.hid (fun W hw => by rw [e1]; exact file_err j1 (by omega) (by first | omega | (rw [List.length_append, List.length_singleton]; omega) | (rw [List.length_append, List.length_append, List.length_singleton]; omega)) W (HM.out.at_below hw) (HR.out.at_below hw))
  have HF2 : Hid (∀ W, Below w.heap.size w W → Calls Tryz.prog 9 #[.string ⟨b.toArray⟩] W fun e w' => e = .returned (.tuple #[.slice none 0 0, .iface 78 (.agg #[.int .i64 no2, .int .i64 (k2 : Nat), .int .i64 0])]) ∧ Below W.heap.size W w') := Lib.hid (fun W hw => by exact file_err j2 (by omega) (by first | omega | (rw [List.length_append, List.length_singleton]; omega) | (rw [List.length_append, List.length_append, List.length_singleton]; omega)) W (HM.out.at_below hw) (HR.out.at_below hw))
  have HF3 : Hid (∀ W, Below w.heap.size w W → Calls Tryz.prog 9 #[.string (((⟨a.toArray⟩ : ByteArray) ++ ⟨#[10]⟩ ++ ⟨b.toArray⟩))] W fun e w' => e = .returned (.tuple #[.slice none 0 0, .iface 78 (.agg #[.int .i64 no, .int .i64 (k : Nat), .int .i64 0])]) ∧ Below W.heap.size W w') := Lib.hid (fun W hw => by rw [e2]; exact file_err j3 (by omega) (by first | omega | (rw [List.length_append, List.length_singleton]; omega) | (rw [List.length_append, List.length_append, List.length_singleton]; omega)) W (HM.out.at_below hw) (HR.out.at_below hw))
  obtain ⟨na, hna⟩ : ∃ n, n = a.count 10 := ⟨_, rfl⟩
  have HCa : Hid (∀ W, Calls Tryz.prog 8 #[.string ⟨a.toArray⟩] W fun e w' => e = .returned (.int .i64 (na : Nat)) ∧ W = w') := Lib.hid (fun W => by rw [hna]; exact countnl_any a (by omega) W)
  rw [← hna] at h3
  obtain ⟨nb, hnb⟩ : ∃ n, n = b.count 10 := ⟨_, rfl⟩
  have HCb : Hid (∀ W, Calls Tryz.prog 8 #[.string ⟨b.toArray⟩] W fun e w' => e = .returned (.int .i64 (nb : Nat)) ∧ W = w') := Lib.hid (fun W => by rw [hnb]; exact countnl_any b (by omega) W)
  rw [← hnb] at h4
  have d3 : decide ((1000 : Int) < (na : Int)) = false := by simp; omega
  have d3n : decide (1000 < na) = false := by simp; omega
  have d4 : decide ((1000 : Int) < (nb : Int)) = false := by simp; omega
  have d4n : decide (1000 < nb) = false := by simp; omega
  clear hT hZ hM hR hE
  clear h1 h2 h3 h4 hna hnb hf hg j1 j2 j3 e1 e2
  go_enter Tryz.func3, Tryz.ntmps3
  go_wp2_with fail
  refine (HWK.out).mono ?_
  rintro e w1 ⟨rfl, hb1⟩
  have HB1 := Lib.hid hb1
  clear hb1
  go_wp2_with fail
  refine (HCa.out w1).mono ?_
  rintro e w1' ⟨rfl, rfl⟩
  go_wp2_with fail
  refine (HCb.out w1).mono ?_
  rintro e w1' ⟨rfl, rfl⟩
  go_wp2_with fail
  refine (HF1.out _ HB1.out).mono ?_
  rintro e w2 ⟨rfl, hb⟩
  have HB2 := Lib.hid (HB1.out.trans (hb.mono HB1.out.size))
  clear hb
  go_wp2_with fail
  refine (HF2.out _ HB2.out).mono ?_
  rintro e w3 ⟨rfl, hb⟩
  have HB3 := Lib.hid (HB2.out.trans (hb.mono HB2.out.size))
  clear hb
  go_wp2_with fail
  refine (HF3.out _ HB3.out).mono ?_
  rintro e w4 ⟨rfl, hb⟩
  have HB4 := Lib.hid (HB3.out.trans (hb.mono HB3.out.size))
  clear hb
  go_wp2_with fail
  refine (asK.place_fault no _ _ w4 hno.1 hno.2 (HE.out.at_below HB4.out)).mono ?_
  rintro e w5 ⟨rfl, hb⟩
  have HB5 := Lib.hid (HB4.out.trans (hb.mono HB4.out.size))
  clear hb
  go_wp2_with fail
  refine (isK.num_fault no _ _ w5 hno.1 hno.2).mono ?_
  rintro e w6 ⟨rfl, hb⟩
  have HB6 := Lib.hid (HB5.out.trans (hb.mono HB5.out.size))
  clear hb
  go_wp2_with fail
  refine (asK.at_fault no (k : Nat) 0 w6 hno.1 hno.2 (HE.out.at_below HB6.out)).mono ?_
  rintro e w8 ⟨rfl, hb⟩
  have HB8 := Lib.hid (HB6.out.trans (hb.mono HB6.out.size))
  clear hb
  go_wp2
  go_ret
  exact ⟨rfl, HB8.out⟩
set_option maxRecDepth 100000 in
set_option maxHeartbeats 4000000 in
theorem jn_Aok (a b : List UInt8) (w : World) (hT : fmtK.Tab w) (hZ : hexW.Tz w) (hM : Mx w) (hR : laidK.Rng w) (hE : asK.ErrT w) (h1 : ¬ 65536 < a.length) (h2 : ¬ 65536 < b.length) (h3 : ¬ 1000 < a.count 10) (h4 : ¬ 1000 < b.count 10) (no : Int) (k : Nat) (hf : goF (cutN 10 a) 0 = .error (no, k)) (m : List Ln) (hg : goF (linesF b) 0 = .ok m) :
    Calls Tryz.prog 3 #[.string ⟨a.toArray⟩, .string ⟨b.toArray⟩] w (YesL w) := by
  have HWK := Lib.hid (works_any w hT hZ)
  have d1 : decide ((65536 : Int) < (a.length : Int)) = false := by simp; omega
  have d1n : decide (65536 < a.length) = false := by simp; omega
  have d2 : decide ((65536 : Int) < (b.length : Int)) = false := by simp; omega
  have d2n : decide (65536 < b.length) = false := by simp; omega
  obtain ⟨j1, j2, j3⟩ := fileF_join (a := a) (b := b) (by omega) (by omega) (by omega) (by omega)
  have HM := Lib.hid hM
  have HR := Lib.hid hR
  have HE := Lib.hid hE
  have hcat : ¬ 9223372036854775807 < a.length + 1 := by omega
  have hcat2 : ¬ 9223372036854775807 < a.length + 1 + b.length := by omega
  have e1 : ((⟨a.toArray⟩ : ByteArray) ++ ⟨#[10]⟩) = ⟨(a ++ [10]).toArray⟩ := strApp a [10]
  have e2 : ((⟨a.toArray⟩ : ByteArray) ++ ⟨#[10]⟩ ++ ⟨b.toArray⟩) = ⟨((a ++ [10]) ++ b).toArray⟩ := by rw [e1]; exact strApp _ _
  rw [hf] at j1 j3
  rw [hg] at j2
  simp only at j3
  obtain ⟨hno, hk0, hk1⟩ := goF_no _ _ _ _ hf
  have HF1 : Hid (∀ W, Below w.heap.size w W → Calls Tryz.prog 9 #[.string (((⟨a.toArray⟩ : ByteArray) ++ ⟨#[10]⟩))] W fun e w' => e = .returned (.tuple #[.slice none 0 0, .iface 78 (.agg #[.int .i64 no, .int .i64 (k : Nat), .int .i64 0])]) ∧ Below W.heap.size W w') := Lib.hid (fun W hw => by rw [e1]; exact file_err j1 (by omega) (by first | omega | (rw [List.length_append, List.length_singleton]; omega) | (rw [List.length_append, List.length_append, List.length_singleton]; omega)) W (HM.out.at_below hw) (HR.out.at_below hw))
  have HF2 : Hid (∀ W, Below w.heap.size w W → Calls Tryz.prog 9 #[.string ⟨b.toArray⟩] W fun e w' => ∃ A c xs, e = .returned (.tuple #[.slice A m.length c, .nilIface]) ∧ (0 < m.length → ∃ g, A = some ⟨g, 0, none⟩) ∧ OwX 5 lineO w' (Iv W.heap.size w'.heap.size) W.heap.size 43 (.slice A m.length c) m xs ∧ Below W.heap.size W w') := Lib.hid (fun W hw => by exact file_ok j2 (by first | omega | (rw [List.length_append, List.length_singleton]; omega) | (rw [List.length_append, List.length_append, List.length_singleton]; omega)) W (HM.out.at_below hw) (HR.out.at_below hw))
  have HF3 : Hid (∀ W, Below w.heap.size w W → Calls Tryz.prog 9 #[.string (((⟨a.toArray⟩ : ByteArray) ++ ⟨#[10]⟩ ++ ⟨b.toArray⟩))] W fun e w' => e = .returned (.tuple #[.slice none 0 0, .iface 78 (.agg #[.int .i64 no, .int .i64 (k : Nat), .int .i64 0])]) ∧ Below W.heap.size W w') := Lib.hid (fun W hw => by rw [e2]; exact file_err j3 (by omega) (by first | omega | (rw [List.length_append, List.length_singleton]; omega) | (rw [List.length_append, List.length_append, List.length_singleton]; omega)) W (HM.out.at_below hw) (HR.out.at_below hw))
  obtain ⟨na, hna⟩ : ∃ n, n = a.count 10 := ⟨_, rfl⟩
  have HCa : Hid (∀ W, Calls Tryz.prog 8 #[.string ⟨a.toArray⟩] W fun e w' => e = .returned (.int .i64 (na : Nat)) ∧ W = w') := Lib.hid (fun W => by rw [hna]; exact countnl_any a (by omega) W)
  rw [← hna] at h3
  obtain ⟨nb, hnb⟩ : ∃ n, n = b.count 10 := ⟨_, rfl⟩
  have HCb : Hid (∀ W, Calls Tryz.prog 8 #[.string ⟨b.toArray⟩] W fun e w' => e = .returned (.int .i64 (nb : Nat)) ∧ W = w') := Lib.hid (fun W => by rw [hnb]; exact countnl_any b (by omega) W)
  rw [← hnb] at h4
  have d3 : decide ((1000 : Int) < (na : Int)) = false := by simp; omega
  have d3n : decide (1000 < na) = false := by simp; omega
  have d4 : decide ((1000 : Int) < (nb : Int)) = false := by simp; omega
  have d4n : decide (1000 < nb) = false := by simp; omega
  clear hT hZ hM hR hE
  clear h1 h2 h3 h4 hna hnb hf hg j1 j2 j3 e1 e2
  go_enter Tryz.func3, Tryz.ntmps3
  go_wp2_with fail
  refine (HWK.out).mono ?_
  rintro e w1 ⟨rfl, hb1⟩
  have HB1 := Lib.hid hb1
  clear hb1
  go_wp2_with fail
  refine (HCa.out w1).mono ?_
  rintro e w1' ⟨rfl, rfl⟩
  go_wp2_with fail
  refine (HCb.out w1).mono ?_
  rintro e w1' ⟨rfl, rfl⟩
  go_wp2_with fail
  refine (HF1.out _ HB1.out).mono ?_
  rintro e w2 ⟨rfl, hb⟩
  have HB2 := Lib.hid (HB1.out.trans (hb.mono HB1.out.size))
  clear hb
  go_wp2_with fail
  refine (HF2.out _ HB2.out).mono ?_
  rintro e w3 ⟨A2, p2, xs2, rfl, hA2, ho2, hb⟩
  have HO2 := Lib.hid ho2
  have HA2 := Lib.hid hA2
  have HS2 := Lib.hid hb
  have HB3 := Lib.hid (HB2.out.trans (hb.mono HB2.out.size))
  clear hb ho2 hA2
  go_wp2_with fail
  refine (HF3.out _ HB3.out).mono ?_
  rintro e w4 ⟨rfl, hb⟩
  have HB4 := Lib.hid (HB3.out.trans (hb.mono HB3.out.size))
  clear hb
  go_wp2_with fail
  refine (asK.place_fault no _ _ w4 hno.1 hno.2 (HE.out.at_below HB4.out)).mono ?_
  rintro e w5 ⟨rfl, hb⟩
  have HB5 := Lib.hid (HB4.out.trans (hb.mono HB4.out.size))
  clear hb
  go_wp2_with fail
  refine (isK.num_fault no _ _ w5 hno.1 hno.2).mono ?_
  rintro e w6 ⟨rfl, hb⟩
  have HB6 := Lib.hid (HB5.out.trans (hb.mono HB5.out.size))
  clear hb
  go_wp2_with fail
  refine (asK.at_fault no (k : Nat) 0 w6 hno.1 hno.2 (HE.out.at_below HB6.out)).mono ?_
  rintro e w8 ⟨rfl, hb⟩
  have HB8 := Lib.hid (HB6.out.trans (hb.mono HB6.out.size))
  clear hb
  go_wp2
  go_ret
  exact ⟨rfl, HB8.out⟩
set_option maxRecDepth 100000 in
set_option maxHeartbeats 4000000 in
theorem jn_B (a b : List UInt8) (w : World) (hT : fmtK.Tab w) (hZ : hexW.Tz w) (hM : Mx w) (hR : laidK.Rng w) (hE : asK.ErrT w) (h1 : ¬ 65536 < a.length) (h2 : ¬ 65536 < b.length) (h3 : ¬ 1000 < a.count 10) (h4 : ¬ 1000 < b.count 10) (l : List Ln) (hf : goF (cutN 10 a) 0 = .ok l) (no : Int) (k : Nat) (hg : goF (linesF b) 0 = .error (no, k)) :
    Calls Tryz.prog 3 #[.string ⟨a.toArray⟩, .string ⟨b.toArray⟩] w (YesL w) := by
  have HWK := Lib.hid (works_any w hT hZ)
  have d1 : decide ((65536 : Int) < (a.length : Int)) = false := by simp; omega
  have d1n : decide (65536 < a.length) = false := by simp; omega
  have d2 : decide ((65536 : Int) < (b.length : Int)) = false := by simp; omega
  have d2n : decide (65536 < b.length) = false := by simp; omega
  obtain ⟨j1, j2, j3⟩ := fileF_join (a := a) (b := b) (by omega) (by omega) (by omega) (by omega)
  have HM := Lib.hid hM
  have HR := Lib.hid hR
  have HE := Lib.hid hE
  have hcat : ¬ 9223372036854775807 < a.length + 1 := by omega
  have hcat2 : ¬ 9223372036854775807 < a.length + 1 + b.length := by omega
  have e1 : ((⟨a.toArray⟩ : ByteArray) ++ ⟨#[10]⟩) = ⟨(a ++ [10]).toArray⟩ := strApp a [10]
  have e2 : ((⟨a.toArray⟩ : ByteArray) ++ ⟨#[10]⟩ ++ ⟨b.toArray⟩) = ⟨((a ++ [10]) ++ b).toArray⟩ := by rw [e1]; exact strApp _ _
  rw [hf] at j1 j3
  rw [hg] at j2 j3
  simp only at j3
  obtain ⟨hno, hk0, hk1⟩ := goF_no _ _ _ _ hg
  have hk4 : k ≤ 2000 := by have := linesF_le b; omega
  have HF1 : Hid (∀ W, Below w.heap.size w W → Calls Tryz.prog 9 #[.string (((⟨a.toArray⟩ : ByteArray) ++ ⟨#[10]⟩))] W fun e w' => ∃ A c xs, e = .returned (.tuple #[.slice A l.length c, .nilIface]) ∧ (0 < l.length → ∃ g, A = some ⟨g, 0, none⟩) ∧ OwX 5 lineO w' (Iv W.heap.size w'.heap.size) W.heap.size 43 (.slice A l.length c) l xs ∧ Below W.heap.size W w') := Lib.hid (fun W hw => by rw [e1]; exact file_ok j1 (by first | omega | (rw [List.length_append, List.length_singleton]; omega) | (rw [List.length_append, List.length_append, List.length_singleton]; omega)) W (HM.out.at_below hw) (HR.out.at_below hw))
  have HF2 : Hid (∀ W, Below w.heap.size w W → Calls Tryz.prog 9 #[.string ⟨b.toArray⟩] W fun e w' => e = .returned (.tuple #[.slice none 0 0, .iface 78 (.agg #[.int .i64 no, .int .i64 (k : Nat), .int .i64 0])]) ∧ Below W.heap.size W w') := Lib.hid (fun W hw => by exact file_err j2 (by omega) (by first | omega | (rw [List.length_append, List.length_singleton]; omega) | (rw [List.length_append, List.length_append, List.length_singleton]; omega)) W (HM.out.at_below hw) (HR.out.at_below hw))
  obtain ⟨na1, hna1⟩ : ∃ n, n = a.count 10 + 1 := ⟨_, rfl⟩
  have HC1 : Hid (∀ W, Calls Tryz.prog 8 #[.string (((⟨a.toArray⟩ : ByteArray) ++ ⟨#[10]⟩))] W fun e w' => e = .returned (.int .i64 (na1 : Nat)) ∧ W = w') := Lib.hid (fun W => by rw [e1, hna1]; have h := countnl_any (a ++ [10]) (by rw [List.length_append, List.length_singleton]; omega) W; rw [List.count_append, show List.count (10 : UInt8) [10] = 1 from rfl] at h; exact h)
  rw [← hna1] at j3
  have hna2 : na1 ≤ 1001 := by omega
  have HF3 : Hid (∀ W, Below w.heap.size w W → Calls Tryz.prog 9 #[.string (((⟨a.toArray⟩ : ByteArray) ++ ⟨#[10]⟩ ++ ⟨b.toArray⟩))] W fun e w' => e = .returned (.tuple #[.slice none 0 0, .iface 78 (.agg #[.int .i64 no, .int .i64 ((k + na1) : Nat), .int .i64 0])]) ∧ Below W.heap.size W w') := Lib.hid (fun W hw => by rw [e2]; exact file_err j3 (by omega) (by first | omega | (rw [List.length_append, List.length_singleton]; omega) | (rw [List.length_append, List.length_append, List.length_singleton]; omega)) W (HM.out.at_below hw) (HR.out.at_below hw))
  obtain ⟨na, hna⟩ : ∃ n, n = a.count 10 := ⟨_, rfl⟩
  have HCa : Hid (∀ W, Calls Tryz.prog 8 #[.string ⟨a.toArray⟩] W fun e w' => e = .returned (.int .i64 (na : Nat)) ∧ W = w') := Lib.hid (fun W => by rw [hna]; exact countnl_any a (by omega) W)
  rw [← hna] at h3
  obtain ⟨nb, hnb⟩ : ∃ n, n = b.count 10 := ⟨_, rfl⟩
  have HCb : Hid (∀ W, Calls Tryz.prog 8 #[.string ⟨b.toArray⟩] W fun e w' => e = .returned (.int .i64 (nb : Nat)) ∧ W = w') := Lib.hid (fun W => by rw [hnb]; exact countnl_any b (by omega) W)
  rw [← hnb] at h4
  have d3 : decide ((1000 : Int) < (na : Int)) = false := by simp; omega
  have d3n : decide (1000 < na) = false := by simp; omega
  have d4 : decide ((1000 : Int) < (nb : Int)) = false := by simp; omega
  have d4n : decide (1000 < nb) = false := by simp; omega
  clear hT hZ hM hR hE
  clear h1 h2 h3 h4 hna hnb hf hg hna1 j1 j2 j3 e1 e2
  go_enter Tryz.func3, Tryz.ntmps3
  go_wp2_with fail
  refine (HWK.out).mono ?_
  rintro e w1 ⟨rfl, hb1⟩
  have HB1 := Lib.hid hb1
  clear hb1
  go_wp2_with fail
  refine (HCa.out w1).mono ?_
  rintro e w1' ⟨rfl, rfl⟩
  go_wp2_with fail
  refine (HCb.out w1).mono ?_
  rintro e w1' ⟨rfl, rfl⟩
  go_wp2_with fail
  refine (HF1.out _ HB1.out).mono ?_
  rintro e w2 ⟨A1, p1, xs1, rfl, hA1, ho1, hb⟩
  have HO1 := Lib.hid ho1
  have HA1 := Lib.hid hA1
  have HS1 := Lib.hid hb
  have HB2 := Lib.hid (HB1.out.trans (hb.mono HB1.out.size))
  clear hb ho1 hA1
  go_wp2_with fail
  refine (HF2.out _ HB2.out).mono ?_
  rintro e w3 ⟨rfl, hb⟩
  have HB3 := Lib.hid (HB2.out.trans (hb.mono HB2.out.size))
  clear hb
  go_wp2_with fail
  refine (HF3.out _ HB3.out).mono ?_
  rintro e w4 ⟨rfl, hb⟩
  have HB4 := Lib.hid (HB3.out.trans (hb.mono HB3.out.size))
  clear hb
  go_wp2_with fail
  refine (asK.place_fault no _ _ w4 hno.1 hno.2 (HE.out.at_below HB4.out)).mono ?_
  rintro e w5 ⟨rfl, hb⟩
  have HB5 := Lib.hid (HB4.out.trans (hb.mono HB4.out.size))
  clear hb
  go_wp2_with fail
  refine (isK.num_fault no _ _ w5 hno.1 hno.2).mono ?_
  rintro e w6 ⟨rfl, hb⟩
  have HB6 := Lib.hid (HB5.out.trans (hb.mono HB5.out.size))
  clear hb
  go_wp2_with fail
  refine (HC1.out w6).mono ?_
  rintro e w6' ⟨rfl, rfl⟩
  go_wp2_with fail
  refine (asK.at_fault no ((k + na1 : Nat)) 0 w6 hno.1 hno.2 (HE.out.at_below HB6.out)).mono ?_
  rintro e w8 ⟨rfl, hb⟩
  have HB8 := Lib.hid (HB6.out.trans (hb.mono HB6.out.size))
  clear hb
  go_wp2
  go_ret
  exact ⟨rfl, HB8.out⟩
set_option maxRecDepth 100000 in
set_option maxHeartbeats 4000000 in
theorem jn_C (a b : List UInt8) (w : World) (hT : fmtK.Tab w) (hZ : hexW.Tz w) (hM : Mx w) (hR : laidK.Rng w) (hE : asK.ErrT w) (h1 : ¬ 65536 < a.length) (h2 : ¬ 65536 < b.length) (h3 : ¬ 1000 < a.count 10) (h4 : ¬ 1000 < b.count 10) (l : List Ln) (hf : goF (cutN 10 a) 0 = .ok l) (m : List Ln) (hg : goF (linesF b) 0 = .ok m) :
    Calls Tryz.prog 3 #[.string ⟨a.toArray⟩, .string ⟨b.toArray⟩] w (YesL w) := by
  have HWK := Lib.hid (works_any w hT hZ)
  have d1 : decide ((65536 : Int) < (a.length : Int)) = false := by simp; omega
  have d1n : decide (65536 < a.length) = false := by simp; omega
  have d2 : decide ((65536 : Int) < (b.length : Int)) = false := by simp; omega
  have d2n : decide (65536 < b.length) = false := by simp; omega
  obtain ⟨j1, j2, j3⟩ := fileF_join (a := a) (b := b) (by omega) (by omega) (by omega) (by omega)
  have HM := Lib.hid hM
  have HR := Lib.hid hR
  have HE := Lib.hid hE
  have hcat : ¬ 9223372036854775807 < a.length + 1 := by omega
  have hcat2 : ¬ 9223372036854775807 < a.length + 1 + b.length := by omega
  have e1 : ((⟨a.toArray⟩ : ByteArray) ++ ⟨#[10]⟩) = ⟨(a ++ [10]).toArray⟩ := strApp a [10]
  have e2 : ((⟨a.toArray⟩ : ByteArray) ++ ⟨#[10]⟩ ++ ⟨b.toArray⟩) = ⟨((a ++ [10]) ++ b).toArray⟩ := by rw [e1]; exact strApp _ _
  rw [hf] at j1 j3
  rw [hg] at j2 j3
  simp only at j3
  have hl0 : 0 < l.length := by rw [goF_len _ _ _ hf, cut_count]; omega
  have hl1 : l.length ≤ 2000 := by rw [goF_len _ _ _ hf, cut_count]; omega
  have hm1 : m.length ≤ 2000 := by rw [goF_len _ _ _ hg]; have := linesF_le b; omega
  have HF1 : Hid (∀ W, Below w.heap.size w W → Calls Tryz.prog 9 #[.string (((⟨a.toArray⟩ : ByteArray) ++ ⟨#[10]⟩))] W fun e w' => ∃ A c xs, e = .returned (.tuple #[.slice A l.length c, .nilIface]) ∧ (0 < l.length → ∃ g, A = some ⟨g, 0, none⟩) ∧ OwX 5 lineO w' (Iv W.heap.size w'.heap.size) W.heap.size 43 (.slice A l.length c) l xs ∧ Below W.heap.size W w') := Lib.hid (fun W hw => by rw [e1]; exact file_ok j1 (by first | omega | (rw [List.length_append, List.length_singleton]; omega) | (rw [List.length_append, List.length_append, List.length_singleton]; omega)) W (HM.out.at_below hw) (HR.out.at_below hw))
  have HF2 : Hid (∀ W, Below w.heap.size w W → Calls Tryz.prog 9 #[.string ⟨b.toArray⟩] W fun e w' => ∃ A c xs, e = .returned (.tuple #[.slice A m.length c, .nilIface]) ∧ (0 < m.length → ∃ g, A = some ⟨g, 0, none⟩) ∧ OwX 5 lineO w' (Iv W.heap.size w'.heap.size) W.heap.size 43 (.slice A m.length c) m xs ∧ Below W.heap.size W w') := Lib.hid (fun W hw => by exact file_ok j2 (by first | omega | (rw [List.length_append, List.length_singleton]; omega) | (rw [List.length_append, List.length_append, List.length_singleton]; omega)) W (HM.out.at_below hw) (HR.out.at_below hw))
  have HF3 : Hid (∀ W, Below w.heap.size w W → Calls Tryz.prog 9 #[.string (((⟨a.toArray⟩ : ByteArray) ++ ⟨#[10]⟩ ++ ⟨b.toArray⟩))] W fun e w' => ∃ A c xs, e = .returned (.tuple #[.slice A (l ++ m).length c, .nilIface]) ∧ (0 < (l ++ m).length → ∃ g, A = some ⟨g, 0, none⟩) ∧ OwX 5 lineO w' (Iv W.heap.size w'.heap.size) W.heap.size 43 (.slice A (l ++ m).length c) (l ++ m) xs ∧ Below W.heap.size W w') := Lib.hid (fun W hw => by rw [e2]; exact file_ok j3 (by first | omega | (rw [List.length_append, List.length_singleton]; omega) | (rw [List.length_append, List.length_append, List.length_singleton]; omega)) W (HM.out.at_below hw) (HR.out.at_below hw))
  obtain ⟨na, hna⟩ : ∃ n, n = a.count 10 := ⟨_, rfl⟩
  have HCa : Hid (∀ W, Calls Tryz.prog 8 #[.string ⟨a.toArray⟩] W fun e w' => e = .returned (.int .i64 (na : Nat)) ∧ W = w') := Lib.hid (fun W => by rw [hna]; exact countnl_any a (by omega) W)
  rw [← hna] at h3
  obtain ⟨nb, hnb⟩ : ∃ n, n = b.count 10 := ⟨_, rfl⟩
  have HCb : Hid (∀ W, Calls Tryz.prog 8 #[.string ⟨b.toArray⟩] W fun e w' => e = .returned (.int .i64 (nb : Nat)) ∧ W = w') := Lib.hid (fun W => by rw [hnb]; exact countnl_any b (by omega) W)
  rw [← hnb] at h4
  have d3 : decide ((1000 : Int) < (na : Int)) = false := by simp; omega
  have d3n : decide (1000 < na) = false := by simp; omega
  have d4 : decide ((1000 : Int) < (nb : Int)) = false := by simp; omega
  have d4n : decide (1000 < nb) = false := by simp; omega
  clear hT hZ hM hR hE
  clear h1 h2 h3 h4 hna hnb hf hg j1 j2 j3 e1 e2
  go_enter Tryz.func3, Tryz.ntmps3
  go_wp2_with fail
  refine (HWK.out).mono ?_
  rintro e w1 ⟨rfl, hb1⟩
  have HB1 := Lib.hid hb1
  clear hb1
  go_wp2_with fail
  refine (HCa.out w1).mono ?_
  rintro e w1' ⟨rfl, rfl⟩
  go_wp2_with fail
  refine (HCb.out w1).mono ?_
  rintro e w1' ⟨rfl, rfl⟩
  go_wp2_with fail
  refine (HF1.out _ HB1.out).mono ?_
  rintro e w2 ⟨A1, p1, xs1, rfl, hA1, ho1, hb⟩
  have HO1 := Lib.hid ho1
  have HA1 := Lib.hid hA1
  have HS1 := Lib.hid hb
  have HB2 := Lib.hid (HB1.out.trans (hb.mono HB1.out.size))
  clear hb ho1 hA1
  go_wp2_with fail
  refine (HF2.out _ HB2.out).mono ?_
  rintro e w3 ⟨A2, p2, xs2, rfl, hA2, ho2, hb⟩
  have HO2 := Lib.hid ho2
  have HA2 := Lib.hid hA2
  have HS2 := Lib.hid hb
  have HB3 := Lib.hid (HB2.out.trans (hb.mono HB2.out.size))
  clear hb ho2 hA2
  go_wp2_with fail
  refine (HF3.out _ HB3.out).mono ?_
  rintro e w4 ⟨A3, p3, xs3, rfl, hA3, ho3, hb⟩
  have HO3 := Lib.hid ho3
  have HA3 := Lib.hid hA3
  have HS3 := Lib.hid hb
  have HB4 := Lib.hid (HB3.out.trans (hb.mono HB3.out.size))
  clear hb ho3 hA3
  obtain ⟨g3, rfl⟩ := HA3.out (by rw [List.length_append]; omega)
  have hlm : (l ++ m).length = l.length + m.length := List.length_append
  rw [hlm] at HO3
  have hc3 : l.length + m.length ≤ p3 := (lines_R HO3.out).len.2.1
  have hc4 : p3 ≤ 9223372036854775807 := by have := (lines_R HO3.out).len.2.2; unfold maxLen at this; omega
  obtain ⟨N, hN⟩ : ∃ N, N = (l ++ m).length := ⟨_, rfl⟩
  have hNl : N = l.length + m.length := by rw [hN, hlm]
  obtain ⟨A5, hA5⟩ : ∃ A, A = (if p3 = l.length then some (⟨g3, 0, none⟩ : Addr) else some ⟨g3, 0 + l.length * 5, none⟩) := ⟨_, rfl⟩
  have HSL1 : Hid (SlK 5 lineR w4 (Iv w3.heap.size w4.heap.size) (.slice (some ⟨g3, 0, none⟩) l.length p3) l) := Lib.hid ((lines_R HO3.out).first)
  have HSL2 : Hid (SlK 5 lineR w4 (Iv w3.heap.size w4.heap.size) (.slice A5 m.length (p3 - l.length)) m) := Lib.hid ((lines_R HO3.out).rest (fun h0 => by rw [hA5, if_neg (by omega)]))
  have hsl1 : ∀ W, (Instr.slice 24 (.slice (some ⟨g3, 0, none⟩) (l ++ m).length p3) none (some (.int .i64 (l.length : Nat))) none).run Tryz.prog W = .ok (.slice (some ⟨g3, 0, none⟩) l.length p3) W := fun W => slice_to g3 _ p3 l.length (by omega) W
  have hsl2 : ∀ W, (Instr.slice 24 (.slice (some ⟨g3, 0, none⟩) (l ++ m).length p3) (some (.int .i64 (l.length : Nat))) none none).run Tryz.prog W = .ok (.slice A5 m.length (p3 - l.length)) W := fun W => by
    rw [slice_from g3 _ p3 l.length (by omega) (by omega) W, ← hA5, hlm, Nat.add_sub_cancel_left]
  rw [← hN] at hsl1 hsl2 ⊢
  have HL1 := Lib.hid ((lines_R HO1.out).belowF lineR_mono (B := w2.heap.size) (fun b hb => hb.2) (HS2.out.trans (HS3.out.mono HS2.out.size)))
  have HL2 := Lib.hid ((lines_R HO2.out).belowF lineR_mono (B := w3.heap.size) (fun b hb => hb.2) HS3.out)
  have z23 : w2.heap.size ≤ w3.heap.size := HS2.out.size
  have z34 : w3.heap.size ≤ w4.heap.size := HS3.out.size
  have k1 : ((N : Int) == (l.length : Int) + (m.length : Int)) = true := by rw [beq_iff_eq]; omega
  have k2 : (N == l.length + m.length) = true := by rw [beq_iff_eq]; omega
  have k3 : l.length ≤ N := by omega
  have k4 : N ≤ p3 := by omega
  clear hN hlm hA5 hNl hc3
  go_wp2_with fail
  refine (same_lines _ _ l _ _ w4 HSL1.out HL1.out (fun b hb => hb.2) (fun b hb => Nat.lt_of_lt_of_le hb.2 (Nat.le_trans z23 z34))).mono ?_
  rintro e w5 ⟨rfl, hb⟩
  have HS4 := Lib.hid hb
  clear hb
  have z45 : w4.heap.size ≤ w5.heap.size := HS4.out.size
  go_wp2_with fail
  refine (same_lines _ _ m _ _ w5 (HSL2.out.belowF lineR_mono (fun b hb => hb.2) HS4.out) (HL2.out.belowF lineR_mono (fun b hb => Nat.lt_of_lt_of_le hb.2 z34) HS4.out) (fun b hb => Nat.lt_of_lt_of_le hb.2 z45) (fun b hb => Nat.lt_of_lt_of_le hb.2 (Nat.le_trans z34 z45))).mono ?_
  rintro e w6 ⟨rfl, hb⟩
  have HS5 := Lib.hid hb
  clear hb
  go_wp2
  go_ret
  exact ⟨rfl, HB4.out.trans ((HS4.out.mono HB4.out.size).trans (HS5.out.mono (Nat.le_trans HB4.out.size z45)))⟩
theorem joined_any (a b : List UInt8) (w : World) (hT : fmtK.Tab w) (hZ : hexW.Tz w) (hM : Mx w) (hR : laidK.Rng w) (hE : asK.ErrT w) : Calls Tryz.prog 3 #[.string ⟨a.toArray⟩, .string ⟨b.toArray⟩] w (YesL w) := by
  by_cases h1 : 65536 < a.length
  · exact jn_a a b w hT hZ hM hR hE h1
  · by_cases h2 : 65536 < b.length
    · exact jn_b a b w hT hZ hM hR hE h1 h2
    · by_cases h3 : 1000 < a.count 10
      · exact jn_la a b w hT hZ hM hR hE h1 h2 h3
      · by_cases h4 : 1000 < b.count 10
        · exact jn_lb a b w hT hZ hM hR hE h1 h2 h3 h4
        · cases hf : goF (cutN 10 a) 0 with
          | error e =>
            obtain ⟨no, k⟩ := e
            cases hg : goF (linesF b) 0 with
            | error e => obtain ⟨no2, k2⟩ := e; exact jn_Aerr a b w hT hZ hM hR hE h1 h2 h3 h4 no k hf no2 k2 hg
            | ok m => exact jn_Aok a b w hT hZ hM hR hE h1 h2 h3 h4 no k hf m hg
          | ok l =>
            cases hg : goF (linesF b) 0 with
            | error e => obtain ⟨no, k⟩ := e; exact jn_B a b w hT hZ hM hR hE h1 h2 h3 h4 l hf no k hg
            | ok m => exact jn_C a b w hT hZ hM hR hE h1 h2 h3 h4 l hf m hg
end dumpW
end Go.Proofs.YtbhhfdajaoemnaaGreatDoor
