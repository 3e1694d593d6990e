/- Proves QueueOutSaid: what comes out of a row is what went in. No condition. -/
import Derived.Test.YtibegijfaeehnaaRows
import Derived.Test.YtibegijfaeehnaaStrsOpen
import Derived.Test.YtibegijfaeehnaaQueueStr
import Derived.Test.YtibegijfaeehnaaAhead
import Derived.Test.YtibegijfaeehnaaPick
import Derived.Test.YtibegijfaeehnaaNum
namespace Go.Proofs.Ytibegijfaeehnaa.queueOut
open Go.RowKit Go.Bus Go.Bus.ringK Go.Bus.orderK Go.ChangeShapes Go.WideShapes Go.ChangeAt Go.Joins
set_option linter.unusedVariables false

theorem sub_snoc (l : List ByteArray) (a b : Nat) (hb : b ≤ a) (ha : a < l.length) : (l.drop b).take (a - b) ++ [l[a]] = (l.drop b).take (a + 1 - b) := by
  have h1 : a + 1 - b = (a - b) + 1 := by omega
  rw [h1, List.take_succ_eq_append_getElem (by rw [List.length_drop]; omega), List.getElem_drop]
  congr 3
  omega
theorem sub_cons (l : List ByteArray) (a b : Nat) (hb : b < a) (ha : a ≤ l.length) : (l.drop b).take (a - b) = l[b]'(by omega) :: (l.drop (b + 1)).take (a - (b + 1)) := by
  rw [List.drop_eq_getElem_cons (by omega)]
  have h1 : a - b = (a - (b + 1)) + 1 := by omega
  rw [h1, List.take_succ_cons]
theorem sub_length (l : List ByteArray) (a b : Nat) (hb : b ≤ a) (ha : a ≤ l.length) : ((l.drop b).take (a - b)).length = a - b := by
  rw [List.length_take, List.length_drop]; omega

theorem ring_of {w w' : World} {q g room from_ : Nat} {L : List ByteArray} (h : qstring.RingS w q g room from_ L) (e : w'.heap = w.heap) : qstring.RingS w' q g room from_ L := by
  obtain ⟨h1, ⟨cs, h2, h3, h4⟩, h5, h6⟩ := h
  refine ⟨?_, ⟨cs, ?_, h3, h4⟩, h5, h6⟩
  · unfold Has at *; rw [e]; exact h1
  · unfold Has at *; rw [e]; exact h2

set_option maxRecDepth 100000 in
set_option maxHeartbeats 1000000 in
theorem works_yes (w : World) : Calls Try.prog 28 #[] w fun e w' => e = .returned (.bool true) ∧ Below w.heap.size w w' := by
  have h0 : ord 1 false < ord 2 false := by decide +kernel
  go_enter Try.func28, Try.ntmps28
  go_wp2_with fail
  refine (orderK.ahead_any _ _ _ _ _ _ _).mono ?_
  rintro e w1 ⟨rfl, hb_w1⟩
  obtain ⟨hc_w1, hf_w1⟩ := bcell hb_w1; have hz_w1 := hb_w1.size; (try simp at hz_w1); have hB_w1 : Below w.heap.size w w1 := Below.trans (by repeat (first | exact Below.refl _ _ | assumption | refine Below.drew ?_ | refine below_drewN ?_ _ | (refine Below.alloc ?_ (by (try simp); (try omega)) _) | (refine Below.setCell ?_ (by (try simp); (try omega)) _))) (hb_w1.mono (by (try simp); (try omega)))
  go_wp2
  go_ret
  exact ⟨rfl, hB_w1⟩

set_option maxRecDepth 100000 in
set_option maxHeartbeats 1000000 in
theorem kept_yes (sv : Value) (l : List ByteArray) (room : Nat) (w : World) (hs : Sl w w.heap.size Value.string sv l) (h1 : 1 ≤ room) (hr : room ≤ 64) :
    Calls Try.prog 29 #[sv, .int .i64 (room : Int)] w fun e w' => e = .returned (.bool true) ∧ Below w.heap.size w w' := by
  obtain ⟨A, cap, rfl, hcap, hmax⟩ := hs.form
  have HS := Lib.hid hs; clear hs
  unfold maxLen at hmax
  go_enter Try.func29, Try.ntmps29
  go_wp2_with fail
  refine (qstring.new_ok room _ h1 hr).mono ?_
  rintro e w1 ⟨q, g, rfl, hR, hb1, hq, hg⟩
  have HR0 := Lib.hid hR; clear hR
  have HB0 := Lib.hid hb1; clear hb1
  go_wp2
  go_loopw [7, 8] (fun i o wr => ∃ (a b from_ : Nat), i = .int .i64 a ∧ o = .int .i64 b ∧ b ≤ a ∧ a ≤ l.length ∧ qstring.RingS wr q g room from_ ((l.drop b).take (a - b)) ∧ Below w.heap.size w wr) (fun _ o _ => l.length - (intOf o).toNat)
  case atStart => exact ⟨0, 0, 0, rfl, rfl, Nat.le_refl _, Nat.zero_le _, by simpa using HR0.out, HB0.out⟩
  case round =>
    clear HR0 HB0
    obtain ⟨a, b, from_, rfl, rfl, hba, hal, hR, hB⟩ := hrel
    obtain ⟨wo, rfl⟩ : ∃ wo : World, wo = wr := ⟨_, rfl⟩
    by_cases hlt : b < l.length
    · have HR := Lib.hid hR; clear hR
      have HB := Lib.hid hB; clear hB
      go_wp2
      go_loopw [7] (fun i wr => ∃ (a : Nat), i = .int .i64 a ∧ b ≤ a ∧ a ≤ l.length ∧ qstring.RingS wr q g room from_ ((l.drop b).take (a - b)) ∧ Below w.heap.size w wr) (fun i _ => l.length - (intOf i).toNat)
      case atStart => exact ⟨a, rfl, hba, hal, HR.out, HB.out⟩
      case round =>
        clear HR HB hba hal
        obtain ⟨a, rfl, hba, hal, hR, hB⟩ := hrel
        have hL := sub_length l a b hba hal
        have hrl := hR.hlen
        rw [hL] at hrl
        have HLN := Lib.hid hL
        have HR := Lib.hid hR; clear hR hL
        by_cases hgo : a < l.length ∧ a - b < room
        · obtain ⟨ha, hab⟩ := hgo
          obtain ⟨bb, off, rfl, hbb, hc0⟩ := HS.out.at_ ha
          have hc : wr.cell? ⟨bb, off + a, none⟩ = some (.string l[a]) := (hB.cell (p := ⟨bb, off + a, none⟩) hbb).trans hc0
          clear hc0
          have HSN := Lib.hid (sub_snoc l a b hba ha)
          generalize l[a] = x at *
          have HB := Lib.hid hB; clear hB
          go_wp2_with fail
          refine (qstring.push_ok (B := w.heap.size) HR.out x (by rw [HLN.out]; exact hab) hr hq hg).mono ?_
          rintro e w2 ⟨rfl, hR2, hb2, hz2⟩
          rw [HSN.out] at hR2
          have HR2 := Lib.hid hR2
          have hB2 := HB.out.trans hb2
          clear hR2 hb2 hz2
          go_wp2
          go_roundw
          case rel => exact ⟨a + 1, by go_num, by omega, by omega, HR2.out, hB2⟩
          case measure => first | (simp [intOf]; done) | (simp [intOf]; omega)
        · have hab : b < a := by omega
          have HSC := Lib.hid (sub_cons l a b hab hal)
          have hmin : min (room : Int) ((l.length : Int) - (b : Int)) = (a : Int) - (b : Int) := by omega
          by_cases ha : a < l.length
          · have hfull : a - b = room := by omega
            obtain ⟨b2, off2, rfl, hb2, hc0⟩ := HS.out.at_ ha
            have hc : wr.cell? ⟨b2, off2 + a, none⟩ = some (.string l[a]) := (hB.cell (p := ⟨b2, off2 + a, none⟩) hb2).trans hc0
            clear hc0
            generalize l[a] = y at *
            have HB := Lib.hid hB; clear hB
            have HFU := Lib.hid (HLN.out.trans hfull)
            go_wp2_with fail
            refine (qstring.push_full HR.out y HFU.out).mono ?_
            rintro e w2 ⟨rfl, n2, rfl⟩
            have HRN := Lib.hid (HR.out.drewN n2)
            have HBN := Lib.hid (below_drewN HB.out n2)
            clear HR HB hc HFU hb2
            have d5 : (((a - b : Nat) : Int) != (a : Int) - (b : Int)) = false := by rw [bne_eq_false_iff_eq]; omega
            go_wp2_with fail
            refine (qstring.len_any (g := g) (room := room) (from_ := from_) (L := (l.drop b).take (a - b)) (by exact HRN.out)).mono ?_
            rintro e w3 ⟨rfl, rfl⟩
            rw [HLN.out]
            have HR3 := HRN.out
            rw [HSC.out] at HR3
            have HRC := Lib.hid HR3
            clear HR3 HRN HLN HSC
            obtain ⟨bb, off, he3, hbb, hc0⟩ := HS.out.at_ hlt
            obtain ⟨rfl, rfl⟩ : b2 = bb ∧ off2 = off := by simpa using he3
            clear he3
            have hcb := (HBN.out.cell (p := ⟨b2, off2 + b, none⟩) hbb).trans hc0
            clear hc0
            generalize l[b] = x at *
            have HCB := Lib.hid hcb; clear hcb
            go_wp2_with fail
            refine (qstring.peek_one (by exact HRC.out) hr).mono ?_
            rintro e w4 ⟨rfl, n4, rfl⟩
            go_wp2_with fail
            refine (qstring.pop_one (B := w.heap.size) (by exact ring_of HRC.out rfl) hr hq hg).mono ?_
            rintro e w5 ⟨rfl, hR5, hb5, hz5⟩
            have hB5 : Below w.heap.size w w5 := Below.trans (b := _) (by exact ⟨HBN.out.os, HBN.out.tape, HBN.out.output, HBN.out.size, HBN.out.block⟩) hb5
            have hcb5 : w5.cell? ⟨b2, off2 + b, none⟩ = some (.string x) := (hb5.cell (p := ⟨b2, off2 + b, none⟩) hbb).trans HCB.out
            have HR5 := Lib.hid hR5
            clear hR5 hb5 hz5 HBN HRC HCB
            go_wp2
            go_roundw
            case rel => exact ⟨a, b + 1, _, by first | rfl | go_num, by first | rfl | go_num, by omega, by omega, HR5.out, hB5⟩
            case measure => first | (simp [intOf]; done) | (simp [intOf]; omega)
          · obtain rfl : a = l.length := by omega
            have HRN := Lib.hid HR.out
            have HBN := Lib.hid hB
            clear HR hB hmin hgo
            have hle : (l.length : Int) - (b : Int) ≤ (room : Int) := by omega
            have d7 : (((l.length : Int) - (b : Int)) != min (room : Int) ((l.length : Int) - (b : Int))) = false := by rw [bne_eq_false_iff_eq]; omega
            have d5 : (((l.length - b : Nat) : Int) != (l.length : Int) - (b : Int)) = false := by rw [bne_eq_false_iff_eq]; omega
            go_wp2_with fail
            all_goals
              refine (qstring.len_any (g := g) (room := room) (from_ := from_) (L := (l.drop b).take (l.length - b)) (by exact HRN.out)).mono ?_
              rintro e w3 ⟨rfl, rfl⟩
              rw [HLN.out]
              have HR3 := HRN.out
              rw [HSC.out] at HR3
              have HRC := Lib.hid HR3
              clear HR3 HRN HLN HSC
              obtain ⟨bb, off, rfl, hbb, hc0⟩ := HS.out.at_ hlt
              have hcb := (HBN.out.cell (p := ⟨bb, off + b, none⟩) hbb).trans hc0
              clear hc0
              generalize l[b] = x at *
              have HCB := Lib.hid hcb; clear hcb
              go_wp2_with fail
              refine (qstring.peek_one (by exact HRC.out) hr).mono ?_
              rintro e w4 ⟨rfl, n4, rfl⟩
              go_wp2_with fail
              refine (qstring.pop_one (B := w.heap.size) (by exact ring_of HRC.out rfl) hr hq hg).mono ?_
              rintro e w5 ⟨rfl, hR5, hb5, hz5⟩
              have hB5 : Below w.heap.size w w5 := Below.trans (b := _) (by exact ⟨HBN.out.os, HBN.out.tape, HBN.out.output, HBN.out.size, HBN.out.block⟩) hb5
              have hcb5 : w5.cell? ⟨bb, off + b, none⟩ = some (.string x) := (hb5.cell (p := ⟨bb, off + b, none⟩) hbb).trans HCB.out
              have HR5 := Lib.hid hR5
              clear hR5 hb5 hz5 HBN HRC HCB
              go_wp2
              go_roundw
              case rel => exact ⟨l.length, b + 1, _, by first | rfl | go_num, by first | rfl | go_num, by omega, by omega, HR5.out, hB5⟩
              case measure => first | (simp [intOf]; done) | (simp [intOf]; omega)
    · obtain rfl : b = a := by omega
      have hlb : b = l.length := by omega
      rw [Nat.sub_self, List.take_zero] at hR
      have HR := Lib.hid hR; clear hR
      go_wp2_with fail
      refine (qstring.pop_none HR.out).mono ?_
      rintro e w2 ⟨rfl, n2, rfl⟩
      unfold qstring.zS
      go_wp2_with fail
      refine (isK.num_no 25 _ (by omega) (by omega)).mono ?_
      rintro e w3 ⟨rfl, rfl⟩
      go_wp2
      go_ret
      exact ⟨rfl, below_drewN hB _⟩

set_option maxRecDepth 100000 in
set_option maxHeartbeats 1000000 in
theorem walk (sv : Value) (l : List ByteArray) (x : Int) (w : World) (hs : Sl w w.heap.size Value.string sv l) (hx : (Lit.int .i64 x).wf = true) :
    Calls Try.prog 7 #[sv, .int .i64 x] w fun e w' => e = .returned (.bool true) ∧ Below w.heap.size w w' := by
  obtain ⟨A, cap, rfl, hcap, hmax⟩ := hs.form
  have HS := Lib.hid hs; clear hs
  have hxb := wf_i64 hx
  clear hx
  have hr0 := Int.emod_nonneg x (show (64 : Int) ≠ 0 by omega)
  have hr1 := Int.emod_lt_of_pos x (show (0 : Int) < 64 by omega)
  obtain ⟨r, hr⟩ : ∃ r : Nat, (r : Int) = 1 + x % 64 := ⟨(1 + x % 64).toNat, by omega⟩
  have HR := Lib.hid hr
  have hr2 : 1 ≤ r := by omega
  have hr3 : r ≤ 64 := by omega
  clear hr
  go_enter Try.func7, Try.ntmps7
  go_wp2_with fail
  refine (works_yes _).mono ?_
  rintro e w1 ⟨rfl, hb1⟩
  go_wp2_with fail
  refine (pickK.pick_any x 64 _ (by omega) (by omega) (by omega) (by omega)).mono ?_
  rintro e w2 ⟨rfl, rfl⟩
  go_wp2_with fail
  rw [← HR.out]
  refine (kept_yes _ l r _ (HS.out.at_below hb1) hr2 hr3).mono ?_
  rintro e w3 ⟨rfl, hb3⟩
  go_wp2
  go_ret
  exact ⟨rfl, hb1.trans (hb3.mono hb1.size)⟩

/-! The row's step. -/
theorem own : ownKnob Try.prog.godebug = none := by kernel_rfl
theorem laidOut : laidOutB Try.prog = true := by kernel_rfl

set_option maxRecDepth 100000 in
theorem lifted (os : Os) (started : os.Started) (H : Type) (enc : TypeId × Value → H) :
    ReturnsInHanded {} Try.checked os 7 .any (Rows.queueOutSpec.pre6 enc Try.prog Try.f7 Rows.queueOutRow.domain false) (Rows.queueOutSpec.post enc Try.prog Try.f7 false true false false) := by
  refine returnsInHanded_of_change_sized (C := Try.checked) own started (by kernel_rfl) Try.func7
    (ChangeSpec.witness6 (enc := enc) (C := Try.checked) false ⟨#[], #[.slice none 0 0, .int .i64 0], []⟩ 8 (by kernel_rfl) (by kernel_rfl) (by kernel_rfl) (by kernel_rfl)) ?_
  intro W base args ds gs before hval0 hW hcnd hsz0 _
  have hval : ∀ (j : Nat) t v, Try.f7.params[j]? = some t → args[j]? = some v → Value.okWide Try.prog W .any base t v := hval0
  have hsz : (DataW.weightsEach Try.prog (Try.f7.params.toList ++ Rows.queueOutSpec.plain.varTypes Try.prog) (ds ++ gs)).all (· ≤ reachBytes) = true := hsz0
  have hW' := hW
  obtain ⟨p, q, hA0, hV, rfl, hfz, hnd⟩ := hW
  have hA : DataW.TrodAll enc Try.prog W 0 (fun _ => true) true Try.f7.params.toList args.toList ds p := hA0
  rw [Try.params7] at hA hval hsz
  obtain ⟨v0, vs0, d0, ds0, p0, q0, hargs, rfl, rfl, h0, r0⟩ := trodAll_cons hA
  obtain ⟨v1, vs1, d1, ds1, p1, q1, rfl, rfl, rfl, h1, r1⟩ := trodAll_cons r0
  obtain ⟨rfl, rfl, rfl⟩ := trodAll_nil r1
  obtain rfl : args = #[v0, v1] := by cases args; simp_all
  obtain ⟨rfl, rfl⟩ := trodVars_none hV
  have k0 := h0
  have lt0 : ∀ x ∈ p0, x.block < W.heap.size := by obtain ⟨m, hm⟩ := h0; exact DataW.trod_lt m _ _ _ hm
  have wt0 : ∀ m ∈ d0.weights Try.prog 45, m ≤ reachBytes := fun m hm => by
    simpa using List.all_eq_true.1 hsz m (DataW.weights_mem_each (j := 0) rfl rfl m hm)
  have k1 := h1
  have lt1 : ∀ x ∈ p1, x.block < W.heap.size := by obtain ⟨m, hm⟩ := h1; exact DataW.trod_lt m _ _ _ hm
  have wt1 : ∀ m ∈ d1.weights Try.prog 3, m ≤ reachBytes := fun m hm => by
    simpa using List.all_eq_true.1 hsz m (DataW.weights_mem_each (j := 1) rfl rfl m hm)
  obtain ⟨l0, fc0⟩ := strsA.open_strl (hval 0 45 v0 rfl rfl) h0
  obtain ⟨x1, rfl, rfl, rfl, g1⟩ := open_int Try.underlying3 (hval 1 3 v1 rfl rfl) h1
  clear hA0 hval0 hsz0
  refine (walk v0 l0 x1 W fc0 g1).mono fun e W' ⟨he, bel⟩ => ?_
  subst he
  exact ⟨_, rfl, _, _, _, [], _, [], hW', trodAll_mk1 (shut_bool Try.underlying4 _), (trodAll_cons_mk (Below.trod laidOut (by kernel_rfl) (of_decide_eq_true (by kernel_rfl)) k0 bel lt0) (trodAll_cons_mk (shut_int Try.underlying3 g1) trodAll_mk0)), rfl, bel.frame _, fun h => by cases h⟩

theorem over : Rows.queueOutRow.holds Try.pinned (OpenSpec.ofChange Rows.queueOutSpec) :=
  OpenClaim.holds_of_wide 7 Try.f7 rfl rfl rfl rfl rfl rfl rfl ⟨rfl, rfl, rfl, rfl, rfl⟩ rfl rfl rfl rfl rfl (by kernel_rfl) Try.func7 (by kernel_rfl)
    (of_decide_eq_true (by kernel_rfl)) (by unfold Func.isWrapper; first | (rw [if_pos (by decide +kernel)]; kernel_rfl) | (rw [if_neg (by decide +kernel)]; exact ⟨rfl, rfl⟩))
    (fun os started H enc _ => lifted os started H enc)

theorem proved : Rows.QueueOutSaid := over
#print axioms proved
end Go.Proofs.Ytibegijfaeehnaa.queueOut
