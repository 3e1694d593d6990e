/- Proves QueueKnownSaid: the document's examples. Closed. -/
import Derived.Test.YtibegijfaeehnaaRows
import Derived.Test.YtibegijfaeehnaaQueueInt
import Derived.Test.YtibegijfaeehnaaQueueBool
import Derived.Test.YtibegijfaeehnaaAhead
import Derived.Test.YtibegijfaeehnaaOpen
import Derived.Test.YtibegijfaeehnaaNum
namespace Go.Proofs.Ytibegijfaeehnaa.queueKnown
open Go.RowKit Go.Bus Go.Bus.ringK Go.Bus.orderK Go.ChangeShapes Go.WideShapes Go.ChangeAt Go.Joins
set_option linter.unusedVariables false
theorem o1 : decide (ord 2 false < ord 1 false) = false := by decide +kernel
theorem o2 : decide (ord 1 false < ord 262144 true) = true := by decide +kernel
theorem o3 : decide (ord 262144 true < ord 1 false) = false := by decide +kernel
theorem o4 : decide (ord 2 false < ord 262144 true) = false := by decide +kernel
theorem o5 : decide (ord 262144 true < ord 262145 true) = true := by decide +kernel
theorem o6 : decide (ord 2049 false < ord 1 false) = false := by decide +kernel
theorem o7 : decide (ord 1 false < ord 2049 false) = false := by decide +kernel
theorem keep_int {w w' : World} {q g room from_ : Nat} {L : List Int} (h : qint.RingS w q g room from_ L) (e1 : w'.heap[q]? = w.heap[q]?) (e2 : w'.heap[g]? = w.heap[g]?) : qint.RingS w' q g room from_ L := by
  obtain ⟨h1, ⟨cs, h2, h3, h4⟩, h5, h6⟩ := h
  refine ⟨?_, ⟨cs, ?_, h3, h4⟩, h5, h6⟩
  · unfold Has at *; rw [e1]; exact h1
  · unfold Has at *; rw [e2]; exact h2
theorem keep_bool {w w' : World} {q g room from_ : Nat} {L : List Bool} (h : qbool.RingS w q g room from_ L) (e1 : w'.heap[q]? = w.heap[q]?) (e2 : w'.heap[g]? = w.heap[g]?) : qbool.RingS w' q g room from_ L := by
  obtain ⟨h1, ⟨cs, h2, h3, h4⟩, h5, h6⟩ := h
  refine ⟨?_, ⟨cs, ?_, h3, h4⟩, h5, h6⟩
  · unfold Has at *; rw [e1]; exact h1
  · unfold Has at *; rw [e2]; exact h2

set_option maxRecDepth 2000000 in
set_option maxHeartbeats 2000000 in
theorem walk (w : World) : Calls Try.prog 8 #[] w fun e w' => e = .returned (.bool true) ∧ Below w.heap.size w w' := by
  go_enter Try.func8, Try.ntmps8
  go_wp2_with fail
  refine (qint.new_bad 0 _ (by omega)).mono ?_
  rintro e w1 ⟨rfl, rfl⟩
  go_wp2_with fail
  refine (qint.new_bad 65 _ (by omega)).mono ?_
  rintro e w1 ⟨rfl, rfl⟩
  go_wp2_with fail
  refine (qint.new_ok 2 _ (by omega) (by omega)).mono ?_
  rintro e w1 ⟨q, g, rfl, hR1, hb1, hq1, hg1⟩
  have hlt1 := hR1.lt
  have HR1 := Lib.hid hR1; clear hR1
  go_wp2_with fail
  refine (qbool.new_ok 64 _ (by omega) (by omega)).mono ?_
  rintro e w2 ⟨p, k, rfl, hR2, hb2, hq2, hg2⟩
  have hlt2 := hR2.lt
  have HB := Lib.hid hR2; clear hR2
  have HR2 := Lib.hid (HR1.out.below hb2 hlt1.1 hlt1.2)
  have hB2 : Below w.heap.size w w2 := hb1.trans (hb2.mono hb1.size)
  have hz2 := hB2.size
  clear hb1 hb2 HR1
  have n1 : ¬ p = q := by omega
  have n2 : ¬ p = g := by omega
  have n3 : ¬ k = q := by omega
  have n4 : ¬ k = g := by omega
  have b1 : w.heap.size ≤ p := by omega
  have b2 : w.heap.size ≤ k := by omega
  clear hlt1 hlt2 hq2 hg2
  go_wp2_with fail
  refine (isK.num_no 1 _ (by omega) (by omega)).mono ?_
  rintro e w3 ⟨rfl, rfl⟩
  go_wp2_with fail
  refine (isK.num_no 1 _ (by omega) (by omega)).mono ?_
  rintro e w3 ⟨rfl, rfl⟩
  go_wp2_with fail
  refine (qint.push_ok (B := w.heap.size) HR2.out 7 (by simp) (by omega) hq1 hg1).mono ?_
  rintro e w3 ⟨rfl, hR3, hb3, hz3, hk3⟩
  have HR3 := Lib.hid hR3
  have HB3 := Lib.hid (keep_bool HB.out (hk3 p n1 n2) (hk3 k n3 n4))
  have hB3 := hB2.trans hb3
  clear hR3 hb3 hz3 hk3 HR2 HB hB2
  go_wp2_with fail
  refine (qint.push_ok (B := w.heap.size) HR3.out 8 (by simp) (by omega) hq1 hg1).mono ?_
  rintro e w4 ⟨rfl, hR4, hb4, hz4, hk4⟩
  have HR4 := Lib.hid hR4
  have HB4 := Lib.hid (keep_bool HB3.out (hk4 p n1 n2) (hk4 k n3 n4))
  have hB4 := hB3.trans hb4
  clear hR4 hb4 hz4 hk4 HR3 HB3 hB3
  go_wp2_with fail
  refine (qint.push_full HR4.out 9 (by simp)).mono ?_
  rintro e w5 ⟨rfl, m5, rfl⟩
  go_wp2_with fail
  refine (qint.peek_one (x := 7) (L := [8]) (by exact HR4.out.drewN _) (by omega)).mono ?_
  rintro e w6 ⟨rfl, m6, rfl⟩
  go_wp2_with fail
  refine (qint.pop_one (B := w.heap.size) (x := 7) (L := [8]) (by exact keep_int HR4.out rfl rfl) (by omega) hq1 hg1).mono ?_
  rintro e w7 ⟨rfl, hR7, hb7, hz7, hk7⟩
  have HR7 := Lib.hid hR7
  have HB7 := Lib.hid (keep_bool HB4.out (hk7 p n1 n2) (hk7 k n3 n4))
  have hB7 : Below w.heap.size w w7 := Below.trans (b := _) (by exact ⟨hB4.os, hB4.tape, hB4.output, hB4.size, hB4.block⟩) hb7
  clear hR7 hb7 hz7 hk7 HR4 HB4 hB4
  go_wp2_with fail
  refine (qint.pop_one (B := w.heap.size) (x := 8) (L := []) HR7.out (by omega) hq1 hg1).mono ?_
  rintro e w8 ⟨rfl, hR8, hb8, hz8, hk8⟩
  have HR8 := Lib.hid hR8
  have HB8 := Lib.hid (keep_bool HB7.out (hk8 p n1 n2) (hk8 k n3 n4))
  have hB8 := hB7.trans hb8
  clear hR8 hb8 hz8 hk8 HR7 HB7 hB7
  go_wp2_with fail
  refine (qint.pop_none HR8.out).mono ?_
  rintro e w9 ⟨rfl, m9, rfl⟩
  unfold qint.zS
  go_wp2_with fail
  refine (isK.num_no 24 _ (by omega) (by omega)).mono ?_
  rintro e w9 ⟨rfl, rfl⟩
  go_wp2_with fail
  refine (isK.num_no 25 _ (by omega) (by omega)).mono ?_
  rintro e w9 ⟨rfl, rfl⟩
  go_wp2
  go_loopw [17] (fun i wr => ∃ (a : Nat), i = .int .i64 a ∧ a ≤ 64 ∧ qbool.RingS wr p k 64 0 (List.replicate a true) ∧ Below w.heap.size w wr) (fun i _ => 64 - (intOf i).toNat)
  case atStart => exact ⟨0, rfl, by omega, keep_bool HB8.out rfl rfl, below_drewN hB8 _⟩
  case round =>
    clear HB8 HR8 hB8 n1 n2 n3 n4 hq1 hg1 hz2
    obtain ⟨a, rfl, ha, hR, hB⟩ := hrel
    have HR := Lib.hid hR; clear hR
    by_cases hlt : a < 64
    · go_wp2_with fail
      refine (qbool.push_ok (B := w.heap.size) HR.out true (by simpa using hlt) (by omega) b1 b2).mono ?_
      rintro e w3 ⟨rfl, hR3, hb3, hz3, hk3⟩
      rw [show List.replicate a true ++ [true] = List.replicate (a + 1) true from List.replicate_succ'.symm] at hR3
      have HR3 := Lib.hid hR3
      have hB3 := hB.trans hb3
      clear hR3 hb3 hz3 hk3
      go_wp2
      go_roundw
      case rel => exact ⟨a + 1, by go_num, by omega, HR3.out, hB3⟩
      case measure => first | (simp [intOf]; done) | (simp [intOf]; omega)
    · have ha64 : a = 64 := by omega
      have HA := Lib.hid ha64
      have d7 : ((a : Int) != 64) = false := by rw [ha64]; rfl
      clear ha64 ha
      go_wp2_with fail
      refine (qbool.push_full HR.out true (by rw [List.length_replicate]; exact HA.out)).mono ?_
      rintro e w3 ⟨rfl, m3, hw3⟩
      have HRn : Hid (qbool.RingS w3 p k 64 0 (List.replicate a true)) := by rw [hw3]; exact HR.out.drewN _
      have hB' : Below w.heap.size w w3 := by rw [hw3]; exact below_drewN hB m3
      clear hw3 HR hB
      go_wp2_with fail
      refine (qbool.len_any HRn.out).mono ?_
      rintro e w9 ⟨rfl, rfl⟩
      rw [List.length_replicate]
      clear HRn
      go_wp2_with fail
      refine (orderK.ahead_any _ _ _ _ _ _ _).mono ?_
      rintro e w4 ⟨rfl, hb_w4⟩
      rw [o1]
      have hz4 := hb_w4.size
      (try simp at hz4)
      have z4 : w3.heap.size < w4.heap.size := by omega
      have hB_w4 : Below w.heap.size w w4 := Below.trans (b := _) (by exact hB'.alloc hB'.size _) (hb_w4.mono (by simp; exact Nat.le_succ_of_le hB'.size))
      have r4 : Has w4 w3.heap.size 25 #[.int .u32 262144, .bool true, .slice none 0 0] := Has.below (w := _) (Has.new w3 _ _) hb_w4 (by simp)
      have c0 := r4.cell 0
      have c1 := r4.cell 1
      have c2 := r4.cell 2
      simp only [List.getElem?_toArray, List.getElem?_cons_zero, List.getElem?_cons_succ] at c0 c1 c2
      clear hb_w4 hz4
      go_wp2_with fail
      refine (orderK.ahead_any _ _ _ _ _ _ _).mono ?_
      rintro e w10 ⟨rfl, hb_w10⟩
      rw [o2]
      have hK_w10 : Below w4.heap.size w4 w10 := hb_w10
      have hB_w10 : Below w.heap.size w w10 := hB_w4.trans (hK_w10.mono hB_w4.size)
      have c0 := (hK_w10.cell (p := ⟨w3.heap.size, 0, none⟩) z4).trans c0
      have c1 := (hK_w10.cell (p := ⟨w3.heap.size, 1, none⟩) z4).trans c1
      have c2 := (hK_w10.cell (p := ⟨w3.heap.size, 2, none⟩) z4).trans c2
      have z4 : w3.heap.size < w10.heap.size := Nat.lt_of_lt_of_le z4 hK_w10.size
      clear hb_w10 hK_w10 hB_w4
      go_wp2_with fail
      refine (orderK.ahead_any _ _ _ _ _ _ _).mono ?_
      rintro e w11 ⟨rfl, hb_w11⟩
      rw [o3]
      have hK_w11 : Below w10.heap.size w10 w11 := hb_w11
      have hB_w11 : Below w.heap.size w w11 := hB_w10.trans (hK_w11.mono hB_w10.size)
      have c0 := (hK_w11.cell (p := ⟨w3.heap.size, 0, none⟩) z4).trans c0
      have c1 := (hK_w11.cell (p := ⟨w3.heap.size, 1, none⟩) z4).trans c1
      have c2 := (hK_w11.cell (p := ⟨w3.heap.size, 2, none⟩) z4).trans c2
      have z4 : w3.heap.size < w11.heap.size := Nat.lt_of_lt_of_le z4 hK_w11.size
      clear hb_w11 hK_w11 hB_w10
      go_wp2_with fail
      refine (orderK.ahead_any _ _ _ _ _ _ _).mono ?_
      rintro e w12 ⟨rfl, hb_w12⟩
      rw [o4]
      have hK_w12 : Below w11.heap.size w11 w12 := hb_w12
      have hB_w12 : Below w.heap.size w w12 := hB_w11.trans (hK_w12.mono hB_w11.size)
      have c0 := (hK_w12.cell (p := ⟨w3.heap.size, 0, none⟩) z4).trans c0
      have c1 := (hK_w12.cell (p := ⟨w3.heap.size, 1, none⟩) z4).trans c1
      have c2 := (hK_w12.cell (p := ⟨w3.heap.size, 2, none⟩) z4).trans c2
      have z4 : w3.heap.size < w12.heap.size := Nat.lt_of_lt_of_le z4 hK_w12.size
      clear hb_w12 hK_w12 hB_w11
      go_wp2_with fail
      refine (orderK.ahead_any _ _ _ _ _ _ _).mono ?_
      rintro e w13 ⟨rfl, hb_w13⟩
      rw [o5]
      have hK_w13 : Below w12.heap.size w12 w13 := hb_w13
      have hB_w13 : Below w.heap.size w w13 := hB_w12.trans (hK_w13.mono hB_w12.size)
      have c0 := (hK_w13.cell (p := ⟨w3.heap.size, 0, none⟩) z4).trans c0
      have c1 := (hK_w13.cell (p := ⟨w3.heap.size, 1, none⟩) z4).trans c1
      have c2 := (hK_w13.cell (p := ⟨w3.heap.size, 2, none⟩) z4).trans c2
      have z4 : w3.heap.size < w13.heap.size := Nat.lt_of_lt_of_le z4 hK_w13.size
      clear hb_w13 hK_w13 hB_w12
      go_wp2_with fail
      refine (orderK.ahead_any _ _ _ _ _ _ _).mono ?_
      rintro e w14 ⟨rfl, hb_w14⟩
      rw [o6]
      have hK_w14 : Below w13.heap.size w13 w14 := hb_w14
      have hB_w14 : Below w.heap.size w w14 := hB_w13.trans (hK_w14.mono hB_w13.size)
      have c0 := (hK_w14.cell (p := ⟨w3.heap.size, 0, none⟩) z4).trans c0
      have c1 := (hK_w14.cell (p := ⟨w3.heap.size, 1, none⟩) z4).trans c1
      have c2 := (hK_w14.cell (p := ⟨w3.heap.size, 2, none⟩) z4).trans c2
      have z4 : w3.heap.size < w14.heap.size := Nat.lt_of_lt_of_le z4 hK_w14.size
      clear hb_w14 hK_w14 hB_w13
      go_wp2_with fail
      refine (orderK.ahead_any _ _ _ _ _ _ _).mono ?_
      rintro e w15 ⟨rfl, hb_w15⟩
      rw [o7]
      have hK_w15 : Below w14.heap.size w14 w15 := hb_w15
      have hB_w15 : Below w.heap.size w w15 := hB_w14.trans (hK_w15.mono hB_w14.size)
      go_wp2
      go_ret
      exact ⟨rfl, hB_w15⟩

/-! The row's step. -/
theorem own : ownKnob Try.prog.godebug = none := by kernel_rfl
theorem laidOut : laidOutB Try.prog = true := by kernel_rfl

set_option maxRecDepth 100000 in
theorem lifted (os : Os) (started : os.Started) (H : Type) (enc : TypeId × Value → H) :
    ReturnsInHanded {} Try.checked os 8 .any (Rows.queueKnownSpec.pre6 enc Try.prog Try.f8 Rows.queueKnownRow.domain false) (Rows.queueKnownSpec.post enc Try.prog Try.f8 false true false false) := by
  refine returnsInHanded_of_change_sized (C := Try.checked) own started (by kernel_rfl) Try.func8
    (ChangeSpec.witness6 (enc := enc) (C := Try.checked) false ⟨#[], #[], []⟩ 8 (by kernel_rfl) (by kernel_rfl) (by kernel_rfl) (by kernel_rfl)) ?_
  intro W base args ds gs before hval0 hW hcnd hsz0 _
  have hval : ∀ (j : Nat) t v, Try.f8.params[j]? = some t → args[j]? = some v → Value.okWide Try.prog W .any base t v := hval0
  have hsz : (DataW.weightsEach Try.prog (Try.f8.params.toList ++ Rows.queueKnownSpec.plain.varTypes Try.prog) (ds ++ gs)).all (· ≤ reachBytes) = true := hsz0
  have hW' := hW
  obtain ⟨p, q, hA0, hV, rfl, hfz, hnd⟩ := hW
  have hA : DataW.TrodAll enc Try.prog W 0 (fun _ => true) true Try.f8.params.toList args.toList ds p := hA0
  rw [Try.params8] at hA hval hsz
  obtain ⟨ha0, rfl, rfl⟩ := trodAll_nil hA
  obtain rfl : args = #[] := by cases args; simp_all
  obtain ⟨rfl, rfl⟩ := trodVars_none hV
  clear hA0 hval0 hsz0
  refine (walk W).mono fun e W' ⟨he, bel⟩ => ?_
  subst he
  exact ⟨_, rfl, _, _, _, [], _, [], hW', trodAll_mk1 (shut_bool Try.underlying4 _), trodAll_mk0, rfl, bel.frame _, fun h => by cases h⟩

theorem over : Rows.queueKnownRow.holds Try.pinned (OpenSpec.ofChange Rows.queueKnownSpec) :=
  OpenClaim.holds_of_wide 8 Try.f8 rfl rfl rfl rfl rfl rfl rfl ⟨rfl, rfl, rfl, rfl, rfl⟩ rfl rfl rfl rfl rfl (by kernel_rfl) Try.func8 (by kernel_rfl)
    (of_decide_eq_true (by kernel_rfl)) (by unfold Func.isWrapper; first | (rw [if_pos (by decide +kernel)]; kernel_rfl) | (rw [if_neg (by decide +kernel)]; exact ⟨rfl, rfl⟩))
    (fun os started H enc _ => lifted os started H enc)

theorem proved : Rows.QueueKnownSaid := over
#print axioms proved
end Go.Proofs.Ytibegijfaeehnaa.queueKnown
