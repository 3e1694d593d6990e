/- Texts of this claim, one behind the other. No condition but those that each states. -/
import Derived.Test.YtbbfpbmogklomaaGreatDoorZKa
import Derived.Test.YtbbfpbmogklomaaGreatDoorZKe
import Derived.Maps.AppendAt
import Derived.WalkSpells
import Derived.Deep.QuietTactic
import Derived.BigQuiet
import Derived.Lib.SlicesS
import Derived.RegionTactic
import Derived.Deep.RegionWith
import Derived.ArgAppend
import Derived.Outline

namespace Go.Proofs.YtbbfpbmogklomaaGreatDoor
open Go.RowKit Go.Bus Go.Bus.cellK Go.Bus.codeK Go.Bus.lentC
set_option linter.unusedVariables false
set_option linter.unusedSimpArgs false
namespace codeW
theorem neq_insM (x : Ins) (w : World) : (binOp .neq 25 (.agg #[.int .i64 x.op, .int .i64 x.a, .int .i64 x.b, .int .i64 x.n, .int .u64 x.imm]) (.agg #[.int .i64 x.op, .int .i64 x.a, .int .i64 x.b, .int .i64 x.n, .int .u64 x.imm])).run Tryz.prog w = .ok (.bool false) w := by
  simp [go_sem]
def marksI : List Ins := (List.range 16).map fun i : Nat => markI i

set_option maxRecDepth 100000 in
set_option maxHeartbeats 4000000 in
theorem instrs_full (v : Value) (l : List Ins) (F : Foot) (w : World) (h : SlK 5 insE w F v l) (hF : ∀ b, F b → b < w.heap.size) (hby : l.length * 40 ≤ 140737488351232) :
    Calls Tryz.prog 68 #[v] w fun e w' => ∃ u, e = .returned u ∧ w'.ownsRow w.heap.size 25 5 u (l.length + 16) ((l ++ marksI).flatMap insC) ∧ Below w.heap.size w w' := by
  obtain ⟨i0, hi, hz0, hz1, hz2⟩ := info_parts Tryz.infoIm
  obtain ⟨A, cap, rfl, n1, n2⟩ := h.form
  have n3 : cap ≤ 9223372036854775807 := by unfold maxLen at n2; omega
  have HV := Lib.hid (fun (w1 : World) (hb : Below w.heap.size w w1) => h.belowF insE_mono hF hb)
  clear h hF n2
  go_enter Tryz.func68, Tryz.ntmps68
  go_wp2
  go_loopw [3, 4] (fun o i wr => ∃ (k : Nat), i = .int .i64 k ∧ k ≤ l.length ∧ Hid (wr.ownsRow w.heap.size 25 5 o k ((l.take k).flatMap insC)) ∧ Hid (Below w.heap.size w wr)) (fun _ i _ => l.length - (intOf i).toNat)
  case atStart => exact ⟨0, rfl, Nat.zero_le _, Lib.hid (World.ownsRow_nil _ _ _ _), Lib.hid (Below.refl _ _)⟩
  case round =>
    obtain ⟨k, rfl, hk, HO, HB⟩ := hrel
    by_cases hlt : k < l.length
    · obtain ⟨b, off, cs, hA, _, hcl, hr, he⟩ := (HV.out _ HB.out).at_ hlt
      subst hA
      have hts := take_snoc l k hlt
      generalize l[k] = x at *
      have hcx : cs = insC x := he
      subst hcx
      have c0 : wr.cell? ⟨b, off + k * 5, none⟩ = some (.int .i64 x.op) := hr 0 _ rfl
      have c1 : wr.cell? ⟨b, off + k * 5 + 1, none⟩ = some (.int .i64 x.a) := hr 1 _ rfl
      have c2 : wr.cell? ⟨b, off + k * 5 + 2, none⟩ = some (.int .i64 x.b) := hr 2 _ rfl
      have c3 : wr.cell? ⟨b, off + k * 5 + 3, none⟩ = some (.int .i64 x.n) := hr 3 _ rfl
      have c4 : wr.cell? ⟨b, off + k * 5 + 4, none⟩ = some (.int .u64 x.imm) := hr 4 _ rfl
      have HTS := Lib.hid hts
      clear hr he hcl hts
      have hsz := HB.out.size
      go_wp2_with (at_builtin; refine wpList_append_own_at _ rfl _ _ 26 rfl w.heap.size 25 i0 (.agg #[.int .i64 0, .int .i64 0, .int .i64 0, .int .i64 0, .int .u64 0]) 5 40 Tryz.underlying26 hi hz0 hz1 hz2 rfl (by decide) _ k _ rfl (HO.out.alloc _) ⟨wr.heap.size, 0, none⟩ 1 1 (insC x) rfl rfl (news_new2 wr _ _) (by intro u hu; simp [insC] at hu; rcases hu with rfl | rfl | rfl | rfl | rfl <;> rfl) (by unfold maxLen; omega) (by omega) (by simp; omega) ?_)
      intro v3 w3 ho3 hg3 _ hat3
      rw [← flat_snoc HTS.out] at ho3
      have HO3 := Lib.hid ho3
      have HB3 : Hid (Below w.heap.size w w3) := Lib.hid (Below.grown (HB.out.alloc (by omega) _) hg3 (by simp; omega) fun r hr => (HO.out.lt r hr).1)
      clear ho3 hg3 hat3 HO HB
      go_wp2
      go_roundw
      case rel => exact ⟨k + 1, by go_num, by omega, HO3, HB3⟩
      case measure => simp [intOf]; omega
    · obtain rfl : k = l.length := by omega
      have ho := HO.out
      rw [List.take_of_length_le (Nat.le_refl _)] at ho
      have HO1 := Lib.hid ho
      clear ho HO
      go_wp2
      go_loopw [3, 5] (fun o i wr => ∃ (k : Nat), i = .int .i64 k ∧ k ≤ 16 ∧ Hid (wr.ownsRow w.heap.size 25 5 o (l.length + k) ((l ++ marksI.take k).flatMap insC)) ∧ Hid (Below w.heap.size w wr)) (fun _ i _ => 16 - (intOf i).toNat)
      case atStart => exact ⟨0, rfl, Nat.zero_le _, Lib.hid (by simpa using HO1.out), HB⟩
      case round =>
        clear HO1 HB
        obtain ⟨k, rfl, hk, HO, HB⟩ := hrel
        by_cases hlt : k < 16
        · have hts : l ++ marksI.take (k + 1) = (l ++ marksI.take k) ++ [markI (k : Nat)] := by rw [List.append_assoc]; congr 1; exact marks_take (fun i : Nat => markI i) k hlt
          have HTS := Lib.hid hts
          clear hts
          have hsz := HB.out.size
          go_wp2_with (first
            | (go_at_call 74; refine (marki_any k _ (by omega) (by omega)).mono ?_; rintro e w1 ⟨rfl, hb1⟩; have hsz1 := hb1.size; have HO1 := Lib.hid (own_kept HO.out hb1); have HB1 := Lib.hid (HB.out.trans (hb1.mono (by omega))); clear hb1)
            | (at_builtin; refine wpList_append_own_at _ rfl _ _ 26 rfl w.heap.size 25 i0 (.agg #[.int .i64 0, .int .i64 0, .int .i64 0, .int .i64 0, .int .u64 0]) 5 40 Tryz.underlying26 hi hz0 hz1 hz2 rfl (by decide) _ (l.length + k) _ rfl (HO1.out.alloc _) ⟨w1.heap.size, 0, none⟩ 1 1 [.int .i64 (-97), .int .i64 0, .int .i64 0, .int .i64 0, .int .u64 (k : Nat)] rfl rfl (news_new2 w1 _ _) (by intro u hu; simp only [List.mem_cons, List.not_mem_nil, or_false] at hu; rcases hu with rfl | rfl | rfl | rfl | rfl <;> rfl) (by unfold maxLen; omega) (by omega) (by simp; omega) ?_))
          intro v3 w3 ho3 hg3 _ hat3
          rw [show [Value.int .i64 (-97), .int .i64 0, .int .i64 0, .int .i64 0, .int .u64 (k : Nat)] = insC (markI (k : Nat)) from by
            have hwk : IntKind.u64.wrap (k : Int) = (k : Int) := by rw [IntKind.wrap_u64]; omega
            show _ = [Value.int .i64 (-97), .int .i64 0, .int .i64 0, .int .i64 0, .int .u64 (IntKind.u64.wrap (k : Int))]
            rw [hwk]] at ho3
          have HO3 : Hid (w3.ownsRow w.heap.size 25 5 v3 (l.length + (k + 1)) ((l ++ marksI.take (k + 1)).flatMap insC)) := Lib.hid (by rw [flat_snoc HTS.out, ← Nat.add_assoc]; simpa only [List.flatMap_append, List.append_assoc] using ho3)
          have HB3 : Hid (Below w.heap.size w w3) := Lib.hid (Below.grown (HB1.out.alloc (by omega) _) hg3 (by simp; omega) fun r hr => (HO1.out.lt r hr).1)
          clear ho3 hg3 hat3 HO HB
          go_wp2
          go_roundw
          case rel => exact ⟨k + 1, by go_num, by omega, HO3, HB3⟩
          case measure => simp [intOf]; omega
        · obtain rfl : k = 16 := by omega
          have ho := HO.out
          rw [show marksI.take 16 = marksI from marks_all _] at ho
          have HO1 := Lib.hid ho
          clear ho HO
          go_wp2
          go_ret
          exact ⟨_, rfl, HO1.out, HB.out⟩

set_option maxRecDepth 100000 in
set_option maxHeartbeats 4000000 in
theorem instrs_lent (v : Value) (l : List Ins) (F : Foot) (w : World) (h : SlK 5 insE w F v l) (hF : ∀ b, F b → b < w.heap.size) (hby : l.length * 40 ≤ 140737488351232) :
    Calls Tryz.prog 32 #[v] w fun e w' => ∃ u, e = .returned u ∧ LentK w' w.heap.size 25 5 u l.length ((l ++ marksI).flatMap insC) ∧ Below w.heap.size w w' := by
  obtain ⟨A, cap, rfl, n1, n2⟩ := h.form
  have n3 : cap ≤ 9223372036854775807 := by unfold maxLen at n2; omega
  have HF := Lib.hid (instrs_full _ l F w h hF hby)
  clear h hF n2
  go_enter Tryz.func32, Tryz.ntmps32
  go_wp2_with (go_at_call 68; refine (HF.out).mono ?_; rintro e w1 ⟨u, rfl, ho, hb⟩; obtain ⟨g, c, rfl, n4, n5⟩ := own_form ho (by omega); have HO := Lib.hid ho; have HB := Lib.hid hb; clear ho hb)
  go_ret
  exact ⟨_, rfl, ⟨g, c, rfl, HO.out⟩, HB.out⟩


set_option maxRecDepth 100000 in
set_option maxHeartbeats 4000000 in
theorem instrs_kfull (v u : Value) (l : List Ins) (w : World) (h : SlK 5 insE w (Old w.heap.size) v (l ++ marksI)) (h' : SlK 5 insE w (Old w.heap.size) u l) (hby : l.length * 40 ≤ 140737488351232) :
    Calls Tryz.prog 71 #[v, u] w fun e w' => e = .returned (.bool true) ∧ Below w.heap.size w w' := by
  obtain ⟨A, cap, rfl, n1, n2⟩ := h.form
  obtain ⟨A', cap', rfl, m1, m2⟩ := h'.form
  have n3 : cap ≤ 9223372036854775807 := by unfold maxLen at n2; omega
  have m3 : cap' ≤ 9223372036854775807 := by unfold maxLen at m2; omega
  have HV := Lib.hid (fun (w1 : World) (hb : Below w.heap.size w w1) => h.below insE_mono hb)
  have HU := Lib.hid (fun (w1 : World) (hb : Below w.heap.size w w1) => h'.below insE_mono hb)
  have hl : (l ++ marksI).length = l.length + 16 := by rw [List.length_append]; rfl
  rw [hl] at HV n1
  rw [hl]
  have HL := Lib.hid hl
  clear h h' n2 m2 hl
  go_enter Tryz.func71, Tryz.ntmps71
  go_wp2
  go_loopw [5] (fun i wr => ∃ (k : Nat), i = .int .i64 k ∧ k ≤ l.length + 16 ∧ Hid (Below w.heap.size w wr)) (fun i _ => l.length + 16 - (intOf i).toNat)
  case atStart => exact ⟨0, rfl, Nat.zero_le _, Lib.hid (Below.refl _ _)⟩
  case round =>
    obtain ⟨k, rfl, hk, HB⟩ := hrel
    by_cases hlt : k < l.length + 16
    · obtain ⟨b, off, cs, hA, hbo, hcl, hr, he⟩ := (HV.out _ HB.out).at_ (by rw [HL.out]; exact hlt)
      subst hA
      have hsz := HB.out.size
      have HM := Lib.hid (fun w => marki_any ((k : Int) - (l.length : Int)) w (by omega) (by omega))
      by_cases hin : k < l.length
      · obtain ⟨b', off', cs', hA', hbo', hcl', hr', he'⟩ := (HU.out _ HB.out).at_ hin
        subst hA'
        rw [List.getElem_append_left hin] at he
        generalize l[k] = x at *
        have hcx : cs = insC x := he
        have hcx' : cs' = insC x := he'
        subst hcx; subst hcx'
        have c0 : wr.cell? ⟨b, off + k * 5, none⟩ = some (.int .i64 x.op) := hr 0 _ rfl
        have c1 : wr.cell? ⟨b, off + k * 5 + 1, none⟩ = some (.int .i64 x.a) := hr 1 _ rfl
        have c2 : wr.cell? ⟨b, off + k * 5 + 2, none⟩ = some (.int .i64 x.b) := hr 2 _ rfl
        have c3 : wr.cell? ⟨b, off + k * 5 + 3, none⟩ = some (.int .i64 x.n) := hr 3 _ rfl
        have c4 : wr.cell? ⟨b, off + k * 5 + 4, none⟩ = some (.int .u64 x.imm) := hr 4 _ rfl
        have c5 : wr.cell? ⟨b', off' + k * 5, none⟩ = some (.int .i64 x.op) := hr' 0 _ rfl
        have c6 : wr.cell? ⟨b', off' + k * 5 + 1, none⟩ = some (.int .i64 x.a) := hr' 1 _ rfl
        have c7 : wr.cell? ⟨b', off' + k * 5 + 2, none⟩ = some (.int .i64 x.b) := hr' 2 _ rfl
        have c8 : wr.cell? ⟨b', off' + k * 5 + 3, none⟩ = some (.int .i64 x.n) := hr' 3 _ rfl
        have c9 : wr.cell? ⟨b', off' + k * 5 + 4, none⟩ = some (.int .u64 x.imm) := hr' 4 _ rfl
        clear hr he hcl hr' he' hcl'
        have hd := decide_eq_true hin
        go_wp2_with (go_at_call 74; refine (HM.out _).mono ?_; rintro e w1 ⟨rfl, hb1⟩; have hsz1 := hb1.size; have hsz1w : w.heap.size ≤ w1.heap.size := Nat.le_trans hsz hsz1; have HB1 := Lib.hid (HB.out.trans (hb1.mono (by omega))); obtain ⟨hc, hf⟩ := bcell hb1; have hbw : b < w1.heap.size := Nat.lt_of_lt_of_le hbo hsz1w; have hbw' : b' < w1.heap.size := Nat.lt_of_lt_of_le hbo' hsz1w; have d0 := (hc _ _ (by first | exact Nat.lt_of_lt_of_le hbo hsz | omega)).trans c0; have d1 := (hc _ _ (by first | exact Nat.lt_of_lt_of_le hbo hsz | omega)).trans c1; have d2 := (hc _ _ (by first | exact Nat.lt_of_lt_of_le hbo hsz | omega)).trans c2; have d3 := (hc _ _ (by first | exact Nat.lt_of_lt_of_le hbo hsz | omega)).trans c3; have d4 := (hc _ _ (by first | exact Nat.lt_of_lt_of_le hbo hsz | omega)).trans c4; have d5 := (hc _ _ (by first | exact Nat.lt_of_lt_of_le hbo' hsz | omega)).trans c5; have d6 := (hc _ _ (by first | exact Nat.lt_of_lt_of_le hbo' hsz | omega)).trans c6; have d7 := (hc _ _ (by first | exact Nat.lt_of_lt_of_le hbo' hsz | omega)).trans c7; have d8 := (hc _ _ (by first | exact Nat.lt_of_lt_of_le hbo' hsz | omega)).trans c8; have d9 := (hc _ _ (by first | exact Nat.lt_of_lt_of_le hbo' hsz | omega)).trans c9; clear hb1 hc hf)
        go_quiet (fail)
        go_wp2
        go_roundw
        case rel => exact ⟨k + 1, by go_num, by omega, Lib.hid (by have hB := HB1.out; exact (by repeat' (first | (with_reducible assumption) | (with_reducible refine Below.setCell ?_ ?_ _) | (with_reducible refine Below.alloc ?_ ?_ _) | (with_reducible refine Below.drew ?_) | (with_reducible refine below_drewN ?_ _) | (with_reducible exact Below.refl _ _) | (show _ ≤ _; (try simp); (try omega); done) | exact Below.refl _ _ | assumption)))⟩
        case measure => simp [intOf]; omega
      · have hj : k - l.length < 16 := by omega
        rw [List.getElem_append_right (by omega), show marksI[k - l.length]'(by simp [marksI]; omega) = markI ((k - l.length : Nat) : Int) from by simp [marksI]] at he
        have hcx : cs = insC (markI ((k - l.length : Nat) : Int)) := he
        rw [show ((k - l.length : Nat) : Int) = (k : Int) - (l.length : Int) from by omega] at hcx
        generalize hmk : (k : Int) - (l.length : Int) = j at *
        subst hcx
        have c0 : wr.cell? ⟨b, off + k * 5, none⟩ = some (.int .i64 (-97)) := hr 0 _ rfl
        have c1 : wr.cell? ⟨b, off + k * 5 + 1, none⟩ = some (.int .i64 0) := hr 1 _ rfl
        have c2 : wr.cell? ⟨b, off + k * 5 + 2, none⟩ = some (.int .i64 0) := hr 2 _ rfl
        have c3 : wr.cell? ⟨b, off + k * 5 + 3, none⟩ = some (.int .i64 0) := hr 3 _ rfl
        have c4 : wr.cell? ⟨b, off + k * 5 + 4, none⟩ = some (.int .u64 (IntKind.u64.wrap j)) := hr 4 _ rfl
        clear hr he hcl
        go_wp2_with (go_at_call 74; refine (HM.out _).mono ?_; rintro e w1 ⟨rfl, hb1⟩; have hsz1 := hb1.size; have hsz1w : w.heap.size ≤ w1.heap.size := Nat.le_trans hsz hsz1; have HB1 := Lib.hid (HB.out.trans (hb1.mono (by omega))); obtain ⟨hc, hf⟩ := bcell hb1; have hbw : b < w1.heap.size := Nat.lt_of_lt_of_le hbo hsz1w; have d0 := (hc _ _ (by first | exact Nat.lt_of_lt_of_le hbo hsz | omega)).trans c0; have d1 := (hc _ _ (by first | exact Nat.lt_of_lt_of_le hbo hsz | omega)).trans c1; have d2 := (hc _ _ (by first | exact Nat.lt_of_lt_of_le hbo hsz | omega)).trans c2; have d3 := (hc _ _ (by first | exact Nat.lt_of_lt_of_le hbo hsz | omega)).trans c3; have d4 := (hc _ _ (by first | exact Nat.lt_of_lt_of_le hbo hsz | omega)).trans c4; clear hb1 hc hf)
        go_quiet (fail)
        go_wp2
        go_roundw
        case rel => exact ⟨k + 1, by go_num, by omega, Lib.hid (by have hB := HB1.out; exact (by repeat' (first | (with_reducible assumption) | (with_reducible refine Below.setCell ?_ ?_ _) | (with_reducible refine Below.alloc ?_ ?_ _) | (with_reducible refine Below.drew ?_) | (with_reducible refine below_drewN ?_ _) | (with_reducible exact Below.refl _ _) | (show _ ≤ _; (try simp); (try omega); done) | exact Below.refl _ _ | assumption)))⟩
        case measure => simp [intOf]; omega
    · obtain rfl : k = l.length + 16 := by omega
      go_wp2
      go_ret
      exact ⟨rfl, HB.out⟩


set_option maxRecDepth 100000 in
set_option maxHeartbeats 4000000 in
theorem instrs_kept (v u : Value) (l : List Ins) (w : World) (base : Nat) (h : LentK w base 25 5 v l.length ((l ++ marksI).flatMap insC)) (h' : SlK 5 insE w (Old w.heap.size) u l) (hby : l.length * 40 ≤ 140737488351232) :
    Calls Tryz.prog 36 #[v, u] w fun e w' => e = .returned (.bool true) ∧ Below w.heap.size w w' := by
  obtain ⟨g, c, rfl, ho⟩ := h
  obtain ⟨_, _, _, q4, q5⟩ := own_range ho
  have q6 : c ≤ 9223372036854775807 := by unfold maxLen at q5; omega
  have hll : l.length + 16 = (l ++ marksI).length := by rw [List.length_append]; rfl
  have hs := own_slk (R := insE) (cells := insC) (fun _ => rfl) (fun _ _ _ => rfl) hll (by omega) ho
  have HK := Lib.hid (instrs_kfull _ u l w hs h' hby)
  obtain ⟨A', cap', rfl, m1, m2⟩ := h'.form
  have m3 : cap' ≤ 9223372036854775807 := by unfold maxLen at m2; omega
  clear ho h' hs hll q5 m2
  go_enter Tryz.func36, Tryz.ntmps36
  go_wp2_with (go_at_call 71; refine (HK.out).mono ?_; rintro e w1 ⟨rfl, hb1⟩; have HB := Lib.hid hb1; clear hb1)
  go_ret
  exact ⟨rfl, HB.out⟩

end codeW
end Go.Proofs.YtbbfpbmogklomaaGreatDoor

namespace Go.Proofs.YtbbfpbmogklomaaGreatDoor
open Go.RowKit Go.Bus Go.Bus.cellK Go.Bus.codeK Go.Bus.farmC Go.Proofs.YtbbfpbmogklomaaGreatDoor.codeW
open Go.Bus.apartG (Pair P1 S0 at_k set_k set_same p1_step fill_set fill_len)
open Go.Bus.farmK (own_ne_own)
set_option linter.unusedVariables false
set_option linter.unusedSimpArgs false
theorem Tryz.infoRowInstrs : (Tryz.prog.info? 26).map (fun i => (i.zero, i.size, i.bytes)) = some (some (.slice none 0 0), 1, 24) := by kernel_rfl
namespace apartInstrs
abbrev Row := Value × List Ins
def mkI (k i : Nat) : Ins := ⟨-7 - (k : Int), 0, 0, 0, (i : Nat)⟩
def M (k n : Nat) : List Ins := (List.range n).map (mkI k)
theorem M_len (k n : Nat) : (M k n).length = n := by simp [M]
theorem M_snoc (k n : Nat) : M k n ++ [mkI k n] = M k (n + 1) := by simp [M, List.range_succ]
theorem M_take {k n m : Nat} (h : n ≤ m) : (M k m).take n = M k n := by
  unfold M; rw [← List.map_take, List.take_range, Nat.min_eq_left h]
theorem M_get {k n i : Nat} (h : i < n) : (M k n)[i]'(by rw [M_len]; exact h) = mkI k i := by simp [M]
def E (k : Nat) (X : List Ins) : List Ins := M k (X.length + 64)
theorem insC_len (x : Ins) : (insC x).length = 5 := rfl
theorem mark_any (k i : Nat) (x z : Int) (w : World) (hx : x = k) (hz : z = i) (hk : k ≤ 1000000) (hi : i ≤ 281474976710656) :
    Calls Tryz.prog 74 #[.int .i64 x, .int .i64 z] w fun e w' => e = .returned (.agg #[.int .i64 (-7 - (k : Int)), .int .i64 0, .int .i64 0, .int .i64 0, .int .u64 (i : Nat)]) ∧ Below w.heap.size w w' := by
  subst hx
  subst hz
  refine (markk_any k i w (by omega) (by omega) (by omega) (by omega)).mono ?_
  rintro e w' ⟨rfl, hb⟩
  exact ⟨by rw [show IntKind.u64.wrap ((i : Nat) : Int) = i from by rw [IntKind.wrap_u64]; omega], hb⟩
theorem keepc {w W : World} {B : Nat} (hb : Below B w W) {b o : Nat} {v : Value} (hB : b < B) (h : w.cell? ⟨b, o, none⟩ = some v) : W.cell? ⟨b, o, none⟩ = some v := (hb.cell (p := ⟨b, o, none⟩) hB).trans h
theorem neq_mk (a b : Int) (w : World) : (binOp .neq 25 (.agg #[.int .i64 a, .int .i64 0, .int .i64 0, .int .i64 0, .int .u64 b]) (.agg #[.int .i64 a, .int .i64 0, .int .i64 0, .int .i64 0, .int .u64 b])).run Tryz.prog w = .ok (.bool false) w := by
  simp [go_sem]
theorem own_cap5 {w : World} {base : Nat} {e : TypeId} {A : Option Addr} {n c : Nat} {xs : List Value} (h : w.ownsRow base e 5 (.slice A n c) n xs) : n ≤ c ∧ c ≤ 9223372036854775807 := by
  rcases h.2 with ⟨h0, h1⟩ | ⟨g, cap, cur, hv, _, _, h1, h2, _⟩
  · simp only [Value.slice.injEq] at h0
    obtain ⟨_, rfl, rfl⟩ := h0
    omega
  · simp only [Value.slice.injEq] at hv
    obtain ⟨_, _, rfl⟩ := hv
    exact ⟨h1, by unfold maxLen at h2; omega⟩
set_option maxRecDepth 100000 in
set_option maxHeartbeats 6000000 in
theorem apart_any (q base : Nat) (rows : List Row) (w : World) (hq : Has w q 26 (rows.map (·.1)).toArray) (hF : Farm w base 25 5 insC rows) (hbase : base ≤ w.heap.size) (hN : rows.length ≤ 1000000) (hN0 : 0 < rows.length) (hlen : ∀ p ∈ rows, p.2.length ≤ 1000000000) :
    Calls Tryz.prog 41 #[.slice (some ⟨q, 0, none⟩) rows.length rows.length] w fun e w' => e = .returned (.bool true) ∧ Below base w w' := by
  obtain ⟨i0, hi, hz0, hz1, hz2⟩ := info_parts Tryz.infoIm
  obtain ⟨i1, hj, hy0, hy1, hy2⟩ := info_parts Tryz.infoRowInstrs
  have hqlt := hq.lt
  have HQ := Lib.hid hq
  have HF := Lib.hid hF
  have HL := Lib.hid hlen
  have hMM : ∀ k n, M k n = (List.range n).map (mkI k) := fun _ _ => rfl
  have HMM := Lib.hid hMM
  clear hq hF hlen hMM
  go_enter Tryz.func41, Tryz.ntmps41
  go_wp2
  go_loopw [3] (fun i wr => ∃ (k : Nat) (R : List Row), i = .int .i64 k ∧ k ≤ rows.length ∧ Hid (S0 M rows R k) ∧ Farm wr base 25 5 insC R ∧ Has wr q 26 (rows.map (·.1)).toArray ∧ Below base w wr ∧ w.heap.size ≤ wr.heap.size) (fun i _ => rows.length - (intOf i).toNat)
  case atStart => exact ⟨0, rows, rfl, Nat.zero_le _, Lib.hid ⟨rfl, rfl, fun j p h => absurd h (by omega)⟩, HF.out, HQ.out, Below.refl _ _, Nat.le_refl _⟩
  case round =>
    clear HF
    obtain ⟨k, R, rfl, hk, HS, hFm, hqr, hbel, hsz⟩ := hrel
    have HFm := Lib.hid hFm; clear hFm
    have HQR := Lib.hid hqr; clear hqr
    have HB := Lib.hid hbel; clear hbel
    have hRl : R.length = rows.length := by have := congrArg List.length HS.out.heads; simpa using this
    by_cases hlt : k < rows.length
    · obtain ⟨⟨V, X⟩, hr⟩ : ∃ p, rows[k]? = some p := ⟨_, List.getElem?_eq_getElem hlt⟩
      have hX : X.length ≤ 1000000000 := HL.out (V, X) (List.mem_of_getElem? hr)
      obtain ⟨Y, hRk, hYl⟩ := HS.out.at_ hr
      simp only at hYl
      obtain ⟨A, c, rfl, hc1, hc2, hA⟩ := HFm.out.form hRk
      have hkR : k < R.length := by omega
      have hqk : ∀ W : World, Has W q 26 (rows.map (·.1)).toArray → W.cell? ⟨q, k, none⟩ = some (.slice A Y.length c) := fun W h => by rw [h.cell k]; simp [hr]
      have HQK := Lib.hid hqk
      have HRk := Lib.hid hRk
      have HA := Lib.hid hA
      have hY : Y.length ≤ 1000000000 := by omega
      have hqc := hqk _ HQR.out
      clear hqk hRk hr hYl hA
      go_wp2
      clear hqc
      go_loopw [4] (fun i wr => ∃ t : Nat, i = .int .i64 t ∧ t ≤ Y.length ∧ Farm wr base 25 5 insC (R.set k (.slice A Y.length c, M k t ++ Y.drop t)) ∧ Has wr q 26 (rows.map (·.1)).toArray ∧ Below base w wr ∧ w.heap.size ≤ wr.heap.size) (fun i _ => Y.length - (intOf i).toNat)
      case atStart => exact ⟨0, rfl, Nat.zero_le _, by rw [show M k 0 ++ Y.drop 0 = Y by simp [M], set_same HRk.out]; exact HFm.out, HQR.out, HB.out, hsz⟩
      case round =>
        clear HFm HQR HB hsz
        obtain ⟨t, rfl, ht, hFr, hqr, hbel, hsz⟩ := hrel
        have hqc := HQK.out _ hqr
        by_cases htl : t < Y.length
        · obtain ⟨g, rfl⟩ := HA.out (by omega)
          have hlen2 : (M k t ++ Y.drop t).length = Y.length := fill_len (HMM.out k) (by omega)
          have hgk : (R.set k (.slice (some ⟨g, 0, none⟩) Y.length c, M k t ++ Y.drop t))[k]? = some (.slice (some ⟨g, 0, none⟩) Y.length c, M k t ++ Y.drop t) := List.getElem?_set_self hkR
          have htl2 : t < (M k t ++ Y.drop t).length := by omega
          have hown := hFr.own k _ _ hgk
          have hcl : ∀ (W : World), Farm W base 25 5 insC (R.set k (.slice (some ⟨g, 0, none⟩) Y.length c, M k t ++ Y.drop t)) → ∀ j u, (insC ((M k t ++ Y.drop t)[t]'htl2))[j]? = some u → W.cell? ⟨g, t * 5 + j, none⟩ = some u ∧ W.frozen? ⟨g, t * 5 + j, none⟩ = false := fun W hW j u hj => hW.cell insC_len hgk hlen2 htl2 hj
          have hst : ∀ (W : World), Below wr.heap.size wr W → Farm (putC W g (t * 5) (insC (mkI k t))) base 25 5 insC (R.set k (.slice (some ⟨g, 0, none⟩) Y.length c, M k (t + 1) ++ Y.drop (t + 1))) ∧ Has (putC W g (t * 5) (insC (mkI k t))) q 26 (rows.map (·.1)).toArray ∧ Below base w (putC W g (t * 5) (insC (mkI k t))) ∧ w.heap.size ≤ (putC W g (t * 5) (insC (mkI k t))).heap.size := by
            intro W hW
            have hFW := hFr.below hW
            have hFn := hFW.set (t := t) hgk hlen2 insC_len htl2 (mkI k t)
            rw [List.set_set, fill_set (HMM.out k) htl] at hFn
            have hownW := hFW.own k _ _ hgk
            rw [hlen2] at hownW
            have hsm := (stored_many (insC (mkI k t)) W (t * 5) _ hownW).2
            have hne : q ≠ g := fun e => own_has_ne hownW (hqr.below hW hqr.lt) (by decide) (by rw [e]; rfl)
            refine ⟨hFn, (hqr.below hW hqr.lt).grown hsm (fun e => hne (by injection e)), Below.grown (hbel.trans (hW.mono (Nat.le_trans hbase hbel.size))) hsm (Nat.le_trans (Nat.le_trans hbase hbel.size) hW.size) (fun r hr => by cases hr; exact (hownW.lt g rfl).1), Nat.le_trans hsz (Nat.le_trans hW.size hsm.size)⟩
          have HST := Lib.hid hst
          have zg : g < wr.heap.size := (hown.lt g (by rfl)).2
          have zq : q < wr.heap.size := hqr.lt
          obtain ⟨⟨z0, z1, z2, z3, z4⟩, hz⟩ : ∃ z : Ins, z = (M k t ++ Y.drop t)[t]'htl2 := ⟨_, rfl⟩
          rw [← hz] at hcl
          have HCL := Lib.hid (fun (W : World) (hW : Below wr.heap.size wr W) => hcl W (hFr.below hW))
          have c0 : wr.cell? ⟨g, t * 5, none⟩ = some (.int .i64 z0) := (hcl wr hFr 0 _ rfl).1
          have HQW := Lib.hid (fun (W : World) (hW : Below wr.heap.size wr W) => HQK.out W (hqr.below hW zq))
          clear hst hcl hz hown hFr hqr hbel hgk hlen2 htl2
          go_wp2_with fail
          go_region_with (go_at_call 74; refine (mark_any k t _ _ _ (by rfl) (by rfl) (by omega) (by omega)).mono ?_; rintro e w9 ⟨rfl, hb9⟩; have hB9 : Below wr.heap.size wr w9 := Below.trans (by repeat' (first | (with_reducible assumption) | (with_reducible refine Below.setCell ?_ ?_ _) | (with_reducible refine Below.alloc ?_ ?_ _) | (with_reducible refine Below.drew ?_) | (with_reducible refine below_drewN ?_ _) | (with_reducible exact Below.refl _ _) | (show _ ≤ _; (try simp); (try omega); done) | exact Below.refl _ _ | assumption)) (hb9.mono (by (try simp); (try omega))); have HB9 := Lib.hid hB9; have hz9 := hB9.size; have zg9 : g < w9.heap.size := Nat.lt_of_lt_of_le zg hz9; have zq9 : q < w9.heap.size := Nat.lt_of_lt_of_le zq hz9; have hq9 := HQW.out w9 hB9; have e0 := (HCL.out w9 hB9 0 _ rfl).1; have e1 := (HCL.out w9 hB9 1 _ rfl).1; have e2 := (HCL.out w9 hB9 2 _ rfl).1; have e3 := (HCL.out w9 hB9 3 _ rfl).1; have e4 := (HCL.out w9 hB9 4 _ rfl).1; have f0 := (HCL.out w9 hB9 0 _ rfl).2; have f1 := (HCL.out w9 hB9 1 _ rfl).2; have f2 := (HCL.out w9 hB9 2 _ rfl).2; have f3 := (HCL.out w9 hB9 3 _ rfl).2; have f4 := (HCL.out w9 hB9 4 _ rfl).2; simp only [Nat.add_zero] at e0 f0; clear hb9 hB9 hz9)
          all_goals
            go_wp2
            go_roundw
          all_goals first
            | exact ⟨t + 1, by go_num, by omega, (HST.out _ HB9.out).1, (HST.out _ HB9.out).2.1, (HST.out _ HB9.out).2.2.1, (HST.out _ HB9.out).2.2.2⟩
            | exact ⟨t + 1, by go_num, by omega, (by exact (HST.out _ (HB9.out.drew)).1), (by exact (HST.out _ (HB9.out.drew)).2.1), (by exact (HST.out _ (HB9.out.drew)).2.2.1), (by exact (HST.out _ (HB9.out.drew)).2.2.2)⟩
            | (simp [intOf]; done)
            | (simp [intOf]; omega)
        · obtain rfl : t = Y.length := by omega
          rw [List.drop_of_length_le (Nat.le_refl _), List.append_nil] at hFr
          have HS1 := Lib.hid (HS.out.next HRk.out (M_len k _))
          have HFr := Lib.hid hFr
          have HQr := Lib.hid hqr
          have HBr := Lib.hid hbel
          clear hFr hqr hbel HS
          go_wp2
          go_roundw
          case rel => exact ⟨k + 1, _, by go_num, by omega, HS1, HFr.out, HQr.out, HBr.out, hsz⟩
          case measure => first | (simp [intOf]; done) | (simp [intOf]; omega)
    · obtain rfl : k = rows.length := by omega
      have hcont : ∀ (j : Nat) (p : Row), R[j]? = some p → p.2 = M j p.2.length := fun j p hp => HS.out.done j p (by have := (List.getElem?_eq_some_iff.1 hp).1; omega) hp
      have hbd : ∀ p ∈ R, p.2.length ≤ 1000000000 := by
        intro p hp
        obtain ⟨j, hj⟩ := List.mem_iff_getElem?.1 hp
        have hjl := (List.getElem?_eq_some_iff.1 hj).1
        obtain ⟨p2, hr2⟩ : ∃ p2, rows[j]? = some p2 := ⟨_, List.getElem?_eq_getElem (by omega)⟩
        obtain ⟨z, hz, hzl⟩ := HS.out.at_ hr2
        have := HL.out p2 (List.mem_of_getElem? hr2)
        rw [hj] at hz
        have := Option.some.inj hz
        rw [this]; simp only; omega
      have hhd : R.map (·.1) = rows.map (·.1) := HS.out.heads
      have hq2 : Has wr q 26 (R.map (·.1)).toArray := by rw [hhd]; exact HQR.out
      have HQR2 := Lib.hid hq2
      have HCO := Lib.hid hcont
      have HBD := Lib.hid hbd
      have hR1 : R.length ≤ rows.length := Nat.le_of_eq hRl
      have hR2 : rows.length ≤ R.length := Nat.le_of_eq hRl.symm
      clear hcont hbd hhd hq2 HQR HL HS hlt hk hRl
      go_wp2
      go_loopw [5, 6] (fun gsv' i wr => ∃ (gsv : Value) (k : Nat) (F D : List Row), gsv = gsv' ∧ i = .int .i64 k ∧ k ≤ rows.length ∧ Hid (P1 E R F D k) ∧ Farm wr base 25 5 insC (F ++ D) ∧ wr.ownsRow w.heap.size 26 1 gsv k ((F.take k).map (·.1)) ∧ Has wr q 26 (R.map (·.1)).toArray ∧ Below base w wr ∧ w.heap.size ≤ wr.heap.size) (fun _ i _ => rows.length - (intOf i).toNat)
      case atStart => exact ⟨_, 0, R, [], rfl, rfl, Nat.zero_le _, Lib.hid ⟨rfl, rfl, fun i p h => absurd h (by omega), fun i _ => rfl⟩, by simpa using HFm.out, World.ownsRow_nil _ _ _ _, HQR2.out, HB.out, hsz⟩
      case round =>
        clear HFm HQR2 HB hsz
        obtain ⟨gsv, k, F, D, rfl, rfl, hk, HP, hFm, hgs, hqr, hbel, hsz⟩ := hrel
        have HFm := Lib.hid hFm; clear hFm
        have HGS := Lib.hid hgs; clear hgs
        have HQR := Lib.hid hqr; clear hqr
        have HB := Lib.hid hbel; clear hbel
        by_cases hlt : k < rows.length
        · have hltR : k < R.length := by omega
          obtain ⟨⟨V, X⟩, hr⟩ : ∃ p, R[k]? = some p := ⟨_, List.getElem?_eq_getElem hltR⟩
          have hX : X.length ≤ 1000000000 := HBD.out (V, X) (List.mem_of_getElem? hr)
          have hXM : X = M k X.length := HCO.out k (V, X) hr
          have hFk : (F ++ D)[k]? = some (V, X) := by
            rw [List.getElem?_append_left (by rw [HP.out.lenF]; exact hltR), HP.out.todo k (Nat.le_refl _)]; exact hr
          obtain ⟨A, c, rfl, hc1, hc2, hA⟩ := HFm.out.form hFk
          have hcv : wr.cell? ⟨q, k, none⟩ = some (.slice A X.length c) := by
            rw [HQR.out.cell k]; simp [hr]
          have HFK := Lib.hid hFk
          have HR := Lib.hid hr
          have HXM := Lib.hid hXM
          clear hFk hr hA hXM
          obtain ⟨wo, rfl⟩ : ∃ wo : World, wo = wr := ⟨_, rfl⟩
          have hkF : k < F.length := by rw [HP.out.lenF]; exact hltR
          have hdl : D.length = k := HP.out.lenD
          have h0 : Farm wo base 25 5 insC (F.set k (.slice A X.length c, M k (X.length + 0)) ++ (D ++ [((Value.slice none 0 0 : Value), ([] : List Ins))])) := by
            have e1 : F.set k (.slice A X.length c, M k (X.length + 0)) = F := by
              have hk2 : F[k]? = some (.slice A X.length c, X) := by rw [HP.out.todo k (Nat.le_refl _)]; exact HR.out
              have e2 : M k (X.length + 0) = X := HXM.out.symm
              rw [e2]
              exact set_same hk2
            rw [e1, ← List.append_assoc]
            exact HFm.out.snoc (World.ownsRow_nil _ _ _ _) (fun i u y q _ _ => by simp [Value.ownBlock])
          have H0 := Lib.hid h0; clear h0
          go_wp2
          go_loopw [7, 8] (fun gv' i wr => ∃ (gv : Value) (j : Nat) (d : Row), gv = gv' ∧ i = .int .i64 j ∧ j ≤ 64 ∧ Hid (Pair (.slice A X.length c) X (X.length + j) gv d) ∧ Farm wr base 25 5 insC (F.set k (gv, M k (X.length + j)) ++ (D ++ [d])) ∧
              wr.ownsRow w.heap.size 26 1 gsv k ((F.take k).map (·.1)) ∧ Has wr q 26 (R.map (·.1)).toArray ∧ Below base w wr ∧ w.heap.size ≤ wr.heap.size) (fun _ i _ => 64 - (intOf i).toNat)
          case atStart => exact ⟨_, 0, _, rfl, rfl, Nat.zero_le _, Lib.hid (.inl ⟨rfl, A, c, rfl, rfl⟩), H0.out, HGS.out, HQR.out, HB.out, hsz⟩
          case round =>
            clear H0 hcv
            obtain ⟨gv, j, d, rfl, rfl, hj64, hPr, hFr, hgr, hqr, hbr, hzr⟩ := hrel
            obtain ⟨A1, c1, rfl⟩ : ∃ A1 c1, gv = .slice A1 (X.length + j) c1 := by
              rcases hPr.out with ⟨_, A1, c1, _, h⟩ | ⟨_, _, A1, c1, h⟩ <;> exact ⟨A1, c1, h⟩
            have hZ : (M k (X.length + j)).length = X.length + j := M_len _ _
            have hcv : wr.cell? ⟨q, k, none⟩ = some (.slice A X.length c) := by
              rw [hqr.cell k]; simp [HR.out]
            by_cases hlt2 : j < 64
            · have hown := hFr.own k _ _ (at_k hkF _ _)
              have hrd := own_reads (by rw [hZ] at hown; exact hown)
              obtain ⟨hn1, hn2⟩ := hrd
              have HPr := Lib.hid hPr.out; clear hPr
              have HFr := Lib.hid hFr; clear hFr
              have HGR := Lib.hid hgr; clear hgr
              have HQ2 := Lib.hid hqr; clear hqr
              have HBR := Lib.hid hbr; clear hbr
              have hl1 : (M k (X.length + (j + 1))).length = X.length + j + 1 := M_len _ _
              have hm1 : (M k (X.length + (j + 1))).flatMap insC = (M k (X.length + j)).flatMap insC ++ insC (mkI k (X.length + j)) := by
                rw [show X.length + (j + 1) = (X.length + j) + 1 from rfl, ← M_snoc, List.flatMap_append]; simp
              have HL1 := Lib.hid hl1; clear hl1
              have HM1 := Lib.hid hm1; clear hm1
              have HZ := Lib.hid hZ
              have HN1 := Lib.hid hn1; clear hn1
              rw [hZ] at hown
              have HOW := Lib.hid hown; clear hown hZ
              have hzr' : w.heap.size ≤ wr.heap.size := hzr
              have HNX : Hid ([.int .i64 (-7 - (k : Int)), .int .i64 0, .int .i64 0, .int .i64 0, .int .u64 ((X.length : Int) + (j : Int))] = insC (mkI k (X.length + j))) := Lib.hid (by simp [insC, mkI])
              go_wp2_with fail
              refine (mark_any k (X.length + j) _ _ _ (by rfl) (by omega) (by omega) (by omega)).mono ?_
              rintro e w9 ⟨rfl, hb9⟩
              have hzr9 : w.heap.size ≤ w9.heap.size := Nat.le_trans hzr hb9.size
              have HFr9 := Lib.hid (HFr.out.below hb9)
              have HOW9 := Lib.hid (own_kept HOW.out hb9)
              have HGR9 := Lib.hid (own_kept HGR.out hb9)
              have HQ9 := Lib.hid (HQ2.out.below hb9 HQ2.out.lt)
              have HBR9 := Lib.hid (HBR.out.trans (hb9.mono (Nat.le_trans hbase HBR.out.size)))
              clear hb9 HFr HOW HGR HQ2 HBR hcv
              by_cases hfit : X.length + j < c1
              · obtain ⟨g, rfl⟩ := hn2 (by omega)
                clear hn2
                go_wp2_with (at_builtin; refine wpList_append_fits _ rfl _ _ 26 rfl base 25 i0 5 Tryz.underlying26 hi hz1 g (X.length + j) c1 ((M k (X.length + j)).flatMap insC) rfl (HOW9.out.alloc _) ⟨w9.heap.size, 0, none⟩ 1 1 [.int .i64 (-7 - (k : Int)), .int .i64 0, .int .i64 0, .int .i64 0, .int .u64 ((X.length : Int) + (j : Int))] rfl rfl ?c1 ?c2 ?c3 ?_)
                case c1 => exact Go.Bus.lentC.news_new2 w9 _ _
                case c2 => intro u hu; simp only [List.mem_cons, List.not_mem_nil, or_false] at hu; rcases hu with rfl | rfl | rfl | rfl | rfl <;> rfl
                case c3 => omega
                intro w1 hown1 hg1
                rw [HNX.out] at hown1
                have hPn : Pair (.slice A X.length c) X (X.length + (j + 1)) (.slice (some ⟨g, 0, none⟩) (X.length + j + 1) c1) d := by
                  rcases HPr.out with ⟨hd, A0, c0, hV1, hV2⟩ | ⟨hd1, hd2, _⟩
                  · simp only [Value.slice.injEq] at hV2
                    obtain ⟨rfl, _, rfl⟩ := hV2
                    exact .inl ⟨hd, _, _, hV1, rfl⟩
                  · exact .inr ⟨hd1, hd2, _, _, rfl⟩
                have hFn := fit_step (v1 := .slice (some ⟨g, 0, none⟩) (X.length + j + 1) c1) (Z1 := M k (X.length + (j + 1))) hkF HFr9.out (by rw [HL1.out, HM1.out]; exact hown1) hg1 rfl
                have hgn : w1.ownsRow w.heap.size 26 1 gsv k ((F.take k).map (·.1)) := (HGR9.out.alloc _).kept hg1 (.inr (own_ne_own HOW9.out HGR9.out (by decide) g rfl))
                have hqn : Has w1 q 26 (R.map (·.1)).toArray := (HQ9.out.alloc _).grown hg1 (fun e => own_has_ne HOW9.out HQ9.out (by decide) e.symm)
                have hbn : Below base w w1 := Below.grown (HBR9.out.alloc (by omega) _) hg1 (by simp; omega) (fun r hr => by cases hr; exact (HOW9.out.lt g rfl).1)
                have hzn : w.heap.size ≤ w1.heap.size := Nat.le_trans (by simp; omega) hg1.size
                have HPn := Lib.hid hPn
                have HFn := Lib.hid hFn
                have HGn := Lib.hid hgn
                have HQn := Lib.hid hqn
                have HBn := Lib.hid hbn
                clear hPn hFn hgn hqn hbn hown1 hg1
                go_wp2
                go_roundw
                case rel => exact ⟨_, j + 1, d, rfl, by go_num, by omega, HPn, HFn.out, HGn.out, HQn.out, HBn.out, hzn⟩
                case measure => first | (simp [intOf]; done) | (simp [intOf]; omega)
              · have hce : c1 = X.length + j := by
                  have := (own_cap5 HOW9.out).1
                  omega
                subst hce
                clear hn2 hfit
                go_wp2_with (at_builtin; refine wpList_append_grows _ rfl _ _ 26 rfl 25 i0 (.agg #[.int .i64 0, .int .i64 0, .int .i64 0, .int .i64 0, .int .u64 0]) 5 40 Tryz.underlying26 hi hz0 hz1 hz2 rfl (by decide) A1 (X.length + j) (X.length + j) ((M k (X.length + j)).flatMap insC) rfl ?d1 ?d2 ?d3 ⟨w9.heap.size, 0, none⟩ 1 1 [.int .i64 (-7 - (k : Int)), .int .i64 0, .int .i64 0, .int .i64 0, .int .u64 ((X.length : Int) + (j : Int))] rfl rfl ?d4 ?d5 ?d6 ?d7 ?d8 ?_)
                case d1 => exact (own_reads HOW9.out).1
                case d2 => have := HOW9.out.1; omega
                case d3 => exact own_cells (HOW9.out.alloc _)
                case d4 => exact Go.Bus.lentC.news_new2 w9 _ _
                case d5 => intro u hu; simp only [List.mem_cons, List.not_mem_nil, or_false] at hu; rcases hu with rfl | rfl | rfl | rfl | rfl <;> rfl
                case d6 => omega
                case d7 => unfold maxLen; omega
                case d8 => omega
                intro v1 w1 hown1 hg1
                rw [HNX.out] at hown1
                obtain ⟨g2, c2, rfl, hg21, hg22⟩ := own_form hown1 (by omega)
                obtain ⟨d1, hPn, hFn⟩ := grow_step (A := A1) (c := X.length + j) (Z1 := M k (X.length + (j + 1))) (X := X) insC_len hkF ((M_take (Nat.le_add_right _ _)).trans HXM.out.symm) (by rw [HZ.out]; omega) HZ.out rfl HPr.out HFr9.out (by rw [HL1.out, HM1.out]; exact own_base hown1 (by simp)) (Nat.le_trans hbase hzr9) hg1 ⟨_, _, rfl⟩
                have hgn : w1.ownsRow w.heap.size 26 1 gsv k ((F.take k).map (·.1)) := (HGR9.out.alloc _).kept hg1 (by cases gsv.ownBlock with | none => exact .inl rfl | some r => exact .inr (by simp))
                have hqn : Has w1 q 26 (R.map (·.1)).toArray := (HQ9.out.alloc _).grown hg1 (by simp)
                have hbn : Below base w w1 := Below.grown (HBR9.out.alloc (by omega) _) hg1 (by simp; omega) (fun r hr => by cases hr)
                have hzn : w.heap.size ≤ w1.heap.size := Nat.le_trans (by simp; omega) hg1.size
                have HPn := Lib.hid hPn
                have HFn := Lib.hid hFn
                have HGn := Lib.hid hgn
                have HQn := Lib.hid hqn
                have HBn := Lib.hid hbn
                clear hPn hFn hgn hqn hbn hown1 hg1
                go_wp2
                go_roundw
                case rel => exact ⟨_, j + 1, d1, rfl, by go_num, by omega, HPn, HFn.out, HGn.out, HQn.out, HBn.out, hzn⟩
                case measure => first | (simp [intOf]; done) | (simp [intOf]; omega)
            · obtain rfl : j = 64 := by omega
              obtain ⟨hPn, hTn⟩ := p1_step HP.out hltR HR.out (show Pair _ X (E k X).length _ d by unfold E; rw [M_len]; exact hPr.out)
              have HPn := Lib.hid hPn
              have HTn := Lib.hid hTn
              have HFr := Lib.hid hFr; clear hFr hPr hPn hTn
              have HGR := Lib.hid hgr; clear hgr
              have HQ2 := Lib.hid hqr; clear hqr
              have HBR := Lib.hid hbr; clear hbr hZ hcv
              go_wp2_with (at_builtin; refine wpList_append_own _ rfl _ _ 81 rfl w.heap.size 26 i1 (.slice none 0 0) 1 24 Tryz.underlying81 hj hy0 hy1 hy2 rfl (by decide) _ _ _ rfl (HGR.out.alloc _) ⟨wr.heap.size, 0, none⟩ 1 1 [.slice A1 (X.length + 64) c1] rfl rfl (one_new wr _ _) ?e2 ?e3 ?e4 ?e5 ?_)
              case e2 => first | rfl | (intro u hu; simp at hu; subst hu; rfl)
              case e3 => unfold maxLen; omega
              case e4 => omega
              case e5 => first | omega | (simp; omega)
              intro v1 w1 hown1 hg1 _
              have hFa : Farm (wr.alloc (.cells #[.slice A1 (X.length + 64) c1] 26)) base 25 5 insC (F.set k (.slice A1 (X.length + 64) c1, M k (X.length + 64)) ++ (D ++ [d])) := HFr.out.below ((Below.refl _ _).alloc (Nat.le_refl _) _)
              have hFn := hFa.kept hg1 (fun i v z hiv => by
                cases hvb : v.ownBlock with
                | none => exact .inl rfl
                | some r => exact .inr fun he => own_ne_own (hFa.own i v z hiv) (HGR.out.alloc _) (by decide) r hvb he.symm)
              have hqn : Has w1 q 26 (R.map (·.1)).toArray := (HQ2.out.alloc _).grown hg1 (fun e => by have h1 := (HGR.out.lt q e.symm).1; omega)
              have hbn : Below base w w1 := Below.grown (HBR.out.alloc (by omega) _) hg1 (by simp; omega) (fun r hr => by have h1 := (HGR.out.lt r hr).1; omega)
              have hzn : w.heap.size ≤ w1.heap.size := Nat.le_trans (by simp; omega) hg1.size
              have HG1 : Hid (w1.ownsRow w.heap.size 26 1 v1 (k + 1) (((F.set k (.slice A1 (X.length + 64) c1, E k X)).take (k + 1)).map (·.1))) := by
                unfold Hid; rw [HTn.out, List.map_take]; exact hown1
              have HFn := Lib.hid hFn
              have HQn := Lib.hid hqn
              have HBn := Lib.hid hbn
              clear hFa hFn hqn hbn hown1 hg1
              go_wp2
              go_roundw
              case rel => exact ⟨_, k + 1, _, _, rfl, by go_num, by omega, HPn, HFn.out, HG1.out, HQn.out, HBn.out, hzn⟩
              case measure => first | (simp [intOf]; done) | (simp [intOf]; omega)
        · obtain rfl : k = rows.length := by omega
          have hFl : F.length = rows.length := by rw [HP.out.lenF]; omega
          have hgs2 : wr.ownsRow w.heap.size 26 1 gsv rows.length (F.map (·.1)) := by have := HGS.out; rw [List.take_of_length_le (by omega)] at this; exact this
          obtain ⟨gg, cg, rfl, hcg1, hcg2⟩ := own_form hgs2 hN0
          have HGS2 := Lib.hid hgs2; clear hgs2 HGS
          obtain ⟨wo, rfl⟩ : ∃ wo : World, wo = wr := ⟨_, rfl⟩
          have hrow : ∀ k, k < rows.length → ∃ (n g c c0 : Nat) (A0 : Option Addr), n ≤ 1000000000 ∧ wo.cell? ⟨gg, k, none⟩ = some (.slice (some ⟨g, 0, none⟩) (n + 64) c) ∧ wo.cell? ⟨q, k, none⟩ = some (.slice A0 n c0) ∧ n ≤ c0 ∧ c0 ≤ 9223372036854775807 ∧ g < wo.heap.size ∧
              (∀ i, i < n + 64 → ∀ j u, (insC (mkI k i))[j]? = some u → wo.cell? ⟨g, i * 5 + j, none⟩ = some u) ∧ (∀ i, i < n → ∃ b, A0 = some ⟨b, 0, none⟩ ∧ b < wo.heap.size ∧ ∀ j u, (insC (mkI k i))[j]? = some u → wo.cell? ⟨b, i * 5 + j, none⟩ = some u) := by
            intro k hk
            have hkR : k < R.length := by omega
            obtain ⟨⟨V, X⟩, hr⟩ : ∃ p, R[k]? = some p := ⟨_, List.getElem?_eq_getElem hkR⟩
            have hX : X.length ≤ 1000000000 := HBD.out (V, X) (List.mem_of_getElem? hr)
            have hXM : X = M k X.length := HCO.out k (V, X) hr
            obtain ⟨G, d, hFj, hDj, hPj⟩ := HP.out.done k (V, X) hk hr
            have hFD : (F ++ D)[k]? = some (G, M k (X.length + 64)) := by rw [List.getElem?_append_left (by omega)]; exact hFj
            obtain ⟨A, c, rfl, hc1, hc2, hA⟩ := HFm.out.form hFD
            rw [M_len] at hc1 hA
            obtain ⟨g, rfl⟩ := hA (by omega)
            have zg : g < wo.heap.size := ((HFm.out.own k _ _ hFD).lt g rfl).2
            have hcellG : ∀ i, i < X.length + 64 → ∀ j u, (insC (mkI k i))[j]? = some u → wo.cell? ⟨g, i * 5 + j, none⟩ = some u := by
              intro i hi j u hj
              exact (HFm.out.cell insC_len (t := i) hFD rfl (by rw [M_len]; exact hi) (by rw [M_get hi]; exact hj)).1
            have hhdG : wo.cell? ⟨gg, k, none⟩ = some (.slice (some ⟨g, 0, none⟩) (X.length + 64) c) := by
              rw [HGS2.out.cellAt k (by omega), List.getElem?_map, hFj, M_len]; rfl
            have hhdV : wo.cell? ⟨q, k, none⟩ = some V := by rw [HQR.out.cell k]; simp [hr]
            rcases hPj with ⟨_, A0, c0, hV1, hG1⟩ | ⟨hd1, hd2, _⟩
            · simp only [Value.slice.injEq] at hG1
              obtain ⟨rfl, _, rfl⟩ := hG1
              simp only at hV1
              refine ⟨X.length, g, _, _, _, hX, hhdG, by rw [hhdV, hV1], by omega, by omega, zg, hcellG, fun i hi => ⟨g, rfl, zg, hcellG i (by omega)⟩⟩
            · simp only at hd1 hd2
              have hDk : (F ++ D)[F.length + k]? = some (V, X) := by
                rw [List.getElem?_append_right (by omega), Nat.add_sub_cancel_left, hDj, ← hd1, ← hd2]
              obtain ⟨A0, c0, hV1, h1, h2, h4⟩ := HFm.out.form hDk
              refine ⟨X.length, g, c, c0, A0, hX, hhdG, by rw [hhdV, hV1], h1, h2, zg, hcellG, fun i hi => ?_⟩
              obtain ⟨b, rfl⟩ := h4 (by omega)
              subst hV1
              refine ⟨b, rfl, ((HFm.out.own _ _ _ hDk).lt b rfl).2, fun j u hj => ?_⟩
              have h6 : X[i] = mkI k i := by
                have h7 : X[i]? = (M k X.length)[i]? := by rw [← hXM]
                rw [List.getElem?_eq_getElem hi, List.getElem?_eq_getElem (by rw [M_len]; exact hi)] at h7
                rw [Option.some.inj h7, M_get hi]
              exact (HFm.out.cell insC_len (t := i) hDk rfl hi (by rw [h6]; exact hj)).1
          have HROW := Lib.hid hrow
          have zgg : gg < wo.heap.size := (HGS2.out.lt gg rfl).2
          have zq : q < wo.heap.size := HQR.out.lt
          have hzo : base ≤ wo.heap.size := HB.out.size |> fun h => Nat.le_trans hbase hsz
          clear hrow hFl HP HFm HGS2 HQR HCO HBD
          go_wp2
          go_loopw [9] (fun i wr => ∃ k : Nat, i = .int .i64 k ∧ k ≤ rows.length ∧ Hid (Below wo.heap.size wo wr)) (fun i _ => rows.length - (intOf i).toNat)
          case atStart => exact ⟨0, rfl, Nat.zero_le _, Lib.hid (Below.refl _ _)⟩
          case round =>
            obtain ⟨k, rfl, hk, HBk⟩ := hrel
            have hzk := HBk.out.size
            by_cases hlt3 : k < rows.length
            · obtain ⟨n, g, c, c0, A0, hn, hcg, hcv, hc1, hc2, zg, hG, hV⟩ := HROW.out k hlt3
              have HG := Lib.hid hG
              have HV := Lib.hid hV
              have HCG := Lib.hid hcg
              have HCV := Lib.hid hcv
              clear hG hV hcg hcv
              obtain ⟨wk, rfl⟩ : ∃ wk : World, wk = wr := ⟨_, rfl⟩
              go_wp2
              go_loopw [10] (fun i wr => ∃ t : Nat, i = .int .i64 t ∧ t ≤ n + 64 ∧ Hid (Below wo.heap.size wo wr)) (fun i _ => (n + 64) - (intOf i).toNat)
              case atStart => exact ⟨0, rfl, Nat.zero_le _, HBk⟩
              case round =>
                obtain ⟨t, rfl, ht, HBt⟩ := hrel
                have hzt := HBt.out.size
                have hcg : wr.cell? ⟨gg, k, none⟩ = some (.slice (some ⟨g, 0, none⟩) (n + 64) c) := keepc HBt.out zgg HCG.out
                have hcv : wr.cell? ⟨q, k, none⟩ = some (.slice A0 n c0) := keepc HBt.out zq HCV.out
                by_cases htl : t < n + 64
                · have heq : ∀ W, (binOp .neq 25 (.agg #[.int .i64 (-7 - (k : Int)), .int .i64 0, .int .i64 0, .int .i64 0, .int .u64 (t : Nat)]) (.agg #[.int .i64 (-7 - (k : Int)), .int .i64 0, .int .i64 0, .int .i64 0, .int .u64 (t : Nat)])).run Tryz.prog W = .ok (.bool false) W := fun W => neq_mk _ _ W
                  have hct := HG.out t htl
                  have zg2 : g < wr.heap.size := Nat.lt_of_lt_of_le zg hzt
                  by_cases htn : t < n
                  · obtain ⟨b, rfl, zb, hcb⟩ := HV.out t htn
                    have HCT := Lib.hid hct
                    have HCB := Lib.hid hcb
                    clear hct hcb
                    go_wp2_with (go_at_call 74; refine (mark_any k t _ _ _ (by rfl) (by rfl) (by omega) (by omega)).mono ?_; rintro e w9 ⟨rfl, hb9⟩; have hB9 : Below wo.heap.size wo w9 := HBt.out.trans (hb9.mono hzt); have HB9 := Lib.hid hB9; have hz9 := hB9.size; have zg9 : g < w9.heap.size := Nat.lt_of_lt_of_le zg hz9; have zb9 : b < w9.heap.size := Nat.lt_of_lt_of_le zb hz9; have zq9 : q < w9.heap.size := Nat.lt_of_lt_of_le zq hz9; have zgg9 : gg < w9.heap.size := Nat.lt_of_lt_of_le zgg hz9; have a0 := keepc hB9 zgg HCG.out; have a1 := keepc hB9 zq HCV.out; have p0 := keepc hB9 zg (HCT.out 0 _ rfl); have p1 := keepc hB9 zg (HCT.out 1 _ rfl); have p2 := keepc hB9 zg (HCT.out 2 _ rfl); have p3 := keepc hB9 zg (HCT.out 3 _ rfl); have p4 := keepc hB9 zg (HCT.out 4 _ rfl); have s0 := keepc hB9 zb (HCB.out 0 _ rfl); have s1 := keepc hB9 zb (HCB.out 1 _ rfl); have s2 := keepc hB9 zb (HCB.out 2 _ rfl); have s3 := keepc hB9 zb (HCB.out 3 _ rfl); have s4 := keepc hB9 zb (HCB.out 4 _ rfl); simp only [Nat.add_zero, mkI] at p0 p1 p2 p3 p4 s0 s1 s2 s3 s4; clear hb9 hB9)
                    go_quiet (fail)
                    go_wp2
                    go_roundw
                    case rel => exact ⟨t + 1, by go_num, by omega, Lib.hid (by have := HB9.out; exact (by repeat' (first | (with_reducible assumption) | (with_reducible refine Below.setCell ?_ ?_ _) | (with_reducible refine Below.alloc ?_ ?_ _) | (with_reducible refine Below.drew ?_) | (with_reducible refine below_drewN ?_ _) | (with_reducible exact Below.refl _ _) | (show _ ≤ _; (try simp); (try omega); done) | exact Below.refl _ _ | assumption)))⟩
                    case measure => first | (simp [intOf]; done) | (simp [intOf]; omega)
                  · have HCT := Lib.hid hct
                    clear hct
                    have dtn : decide (t < n) = false := by simp; omega
                    go_wp2_with (go_at_call 74; refine (mark_any k t _ _ _ (by rfl) (by rfl) (by omega) (by omega)).mono ?_; rintro e w9 ⟨rfl, hb9⟩; have hB9 : Below wo.heap.size wo w9 := HBt.out.trans (hb9.mono hzt); have HB9 := Lib.hid hB9; have hz9 := hB9.size; have zg9 : g < w9.heap.size := Nat.lt_of_lt_of_le zg hz9; have zq9 : q < w9.heap.size := Nat.lt_of_lt_of_le zq hz9; have zgg9 : gg < w9.heap.size := Nat.lt_of_lt_of_le zgg hz9; have a0 := keepc hB9 zgg HCG.out; have a1 := keepc hB9 zq HCV.out; have p0 := keepc hB9 zg (HCT.out 0 _ rfl); have p1 := keepc hB9 zg (HCT.out 1 _ rfl); have p2 := keepc hB9 zg (HCT.out 2 _ rfl); have p3 := keepc hB9 zg (HCT.out 3 _ rfl); have p4 := keepc hB9 zg (HCT.out 4 _ rfl); simp only [Nat.add_zero, mkI] at p0 p1 p2 p3 p4; clear hb9 hB9)
                    go_quiet (fail)
                    go_wp2
                    go_roundw
                    case rel => exact ⟨t + 1, by go_num, by omega, Lib.hid (by have := HB9.out; exact (by repeat' (first | (with_reducible assumption) | (with_reducible refine Below.setCell ?_ ?_ _) | (with_reducible refine Below.alloc ?_ ?_ _) | (with_reducible refine Below.drew ?_) | (with_reducible refine below_drewN ?_ _) | (with_reducible exact Below.refl _ _) | (show _ ≤ _; (try simp); (try omega); done) | exact Below.refl _ _ | assumption)))⟩
                    case measure => first | (simp [intOf]; done) | (simp [intOf]; omega)
                · obtain rfl : t = n + 64 := by omega
                  go_wp2
                  go_roundw
                  case rel => exact ⟨k + 1, by go_num, by omega, HBt⟩
                  case measure => first | (simp [intOf]; done) | (simp [intOf]; omega)
            · obtain rfl : k = rows.length := by omega
              go_wp2
              go_ret
              exact ⟨rfl, HB.out.trans (HBk.out.mono hzo)⟩
end apartInstrs
end Go.Proofs.YtbbfpbmogklomaaGreatDoor
