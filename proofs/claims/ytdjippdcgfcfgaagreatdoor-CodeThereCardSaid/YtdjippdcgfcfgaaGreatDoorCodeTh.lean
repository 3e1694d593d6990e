/- CodeThere's walk. Condition: errors.errorType is laid. -/
import Derived.Test.YtdjippdcgfcfgaaGreatDoorCodeBh
import Derived.Test.YtdjippdcgfcfgaaGreatDoorCodeSi
import Derived.Test.YtdjippdcgfcfgaaGreatDoorCodePt
import Derived.Test.YtdjippdcgfcfgaaGreatDoorPlain
import Derived.Test.YtdjippdcgfcfgaaGreatDoorAt
namespace Go.Proofs.YtdjippdcgfcfgaaGreatDoor
open Go.RowKit Go.Bus Go.Bus.cellK Go.Bus.codeK
set_option linter.unusedVariables false
set_option linter.unusedSimpArgs false
namespace codeW
theorem encP_bytes (p : List Ins) (w : World) {base : Nat} {u : Value} (h : w.ownsRow base 5 1 u (encP p).length ((encP p).map byteV)) : Sl w w.heap.size byteV u (encP p) := Sl.of_own h
theorem firstBad_at {p : List Ins} {i : Nat} (h : firstBad p = some i) : ∃ hi : i < p.length, rightB p[i] = false := by
  unfold firstBad at h
  rw [List.findIdx?_eq_some_iff_getElem] at h
  obtain ⟨hi, h1, _⟩ := h
  exact ⟨hi, by simpa using h1⟩
set_option maxRecDepth 100000 in
set_option maxHeartbeats 1000000 in
theorem there_good {p : List Ins} {v : Value} (w : World) (h : SlK 5 insE w (Old w.heap.size) v p) (hp : ∀ x ∈ p, x.Ok) (hg : good p) (hby : ∀ c ∈ encP p, Byte c) : Calls Tryz.prog 3 #[v] w fun e w' => e = .returned (.bool true) ∧ Below w.heap.size w w' := by
  have HE := Lib.hid (encode_good w h hp hg)
  have HP := Lib.hid h
  have hd : decGo (encP p).length (encP p) [] = .ok p := by
    have := dec_there (encP p).length p [] (fun x hx => ⟨hg.2 x hx, hp x hx⟩) (by have := hg.1; simp; omega)
    rw [List.nil_append] at this; exact this
  have HD : ∀ (W : World) (u : Value), Sl W W.heap.size byteV u (encP p) → Hid (Calls Tryz.prog 11 #[u] W fun e w' => ∃ q, e = .returned (.tuple #[q, .nilIface]) ∧ w'.ownsRow W.heap.size 35 5 q p.length (p.flatMap insC) ∧ Below W.heap.size W w') := fun W u hs => Lib.hid ((decode_any W hs hby).mono fun e w' h => by unfold DecPost at h; rw [hd] at h; exact h)
  have HDD := Lib.hid HD
  clear h hp hg hby hd HD
  go_enter Tryz.func3, Tryz.ntmps3
  go_wp2_with fail
  refine HE.out.mono ?_
  rintro e w1 ⟨A1, c1, rfl, ho1, hB⟩
  have HO1 := Lib.hid ho1
  have HB := Lib.hid hB
  have HP1 := Lib.hid (HP.out.later insE_mono hB)
  clear hB ho1
  go_wp2_with fail
  refine (works_any _).mono ?_
  rintro e w2 ⟨rfl, hB2⟩
  have HS2 := Lib.hid (encP_bytes p _ (own_kept HO1.out hB2))
  have HP2 := Lib.hid (HP1.out.later insE_mono hB2)
  have HB2 := Lib.hid (HB.out.trans (hB2.mono HB.out.size))
  clear hB2
  go_wp2_with fail
  refine (HDD.out _ _ HS2.out).out.mono ?_
  rintro e w3 ⟨q, rfl, ho3, hB3⟩
  have HQ := Lib.hid (ins_of_own ho3)
  have HP3 := Lib.hid (HP2.out.later insE_mono hB3)
  have HB3 := Lib.hid (HB2.out.trans (hB3.mono HB2.out.size))
  clear hB3 ho3
  go_wp2_with fail
  refine (sameinstrs_any _ HQ.out HP3.out).mono ?_
  rintro e w4 ⟨rfl, n, rfl⟩
  go_wp2
  go_ret
  exact ⟨rfl, Go.Bus.below_drewN HB3.out _⟩
set_option maxRecDepth 100000 in
set_option maxHeartbeats 1000000 in
theorem there_bad {p : List Ins} {v : Value} (w : World) (h : SlK 5 insE w (Old w.heap.size) v p) (hp : ∀ x ∈ p, x.Ok) (hl : p.length ≤ 16384) (i : Nat) (hb : firstBad p = some i) (hG : asK.ErrT w) : Calls Tryz.prog 3 #[v] w fun e w' => e = .returned (.bool true) ∧ Below w.heap.size w w' := by
  obtain ⟨A, cap, rfl, _, _⟩ := h.form
  have HE : Hid (Calls Tryz.prog 6 #[.slice A p.length cap] w fun e w' => e = .returned (.tuple #[.slice none 0 0, faultV 20 i]) ∧ Below w.heap.size w w') := Lib.hid ((encode_any w h hp hl).mono fun e w' he => by unfold EncPost at he; rw [hb] at he; exact he)
  obtain ⟨hi, hr⟩ := firstBad_at hb
  have HP := Lib.hid h
  have HPB := Lib.hid (fun W => print_bad W (hp _ (List.getElem_mem hi)) hr)
  have HG := Lib.hid hG
  have HH := Lib.hid hi
  have d1 : decide (16384 < (p.length : Int)) = false := by simp; omega
  have d2 : decide ((p.length : Int) ≤ (i : Int)) = false := by simp; omega
  have d3 : decide ((i : Int) < 0) = false := by simp
  have hb1 : (0 : Int) ≤ (i : Int) := Int.natCast_nonneg _
  have hb2 : (i : Int) < (p.length : Int) := by omega
  clear h hp hb hr hG
  go_enter Tryz.func3, Tryz.ntmps3
  go_wp2_with fail
  refine HE.out.mono ?_
  unfold faultV
  rintro e w1 ⟨rfl, hB⟩
  have HG1 := Lib.hid (HG.out.at_below hB)
  have HB := Lib.hid hB
  clear hB
  go_wp2_with fail
  refine (works_any _).mono ?_
  rintro e w2 ⟨rfl, hB2⟩
  have HG2 := Lib.hid (HG1.out.at_below hB2)
  have HB2 := Lib.hid (HB.out.trans (hB2.mono HB.out.size))
  clear hB2
  go_wp2_with fail
  refine (asK.place_fault 20 0 i _ (by omega) (by omega) HG2.out).mono ?_
  rintro e w3 ⟨rfl, hB3⟩
  have HG3 := Lib.hid (HG2.out.at_below hB3)
  have HB3 := Lib.hid (HB2.out.trans (hB3.mono HB2.out.size))
  have HP3 := Lib.hid (HP.out.below insE_mono HB3.out)
  clear hB3
  obtain ⟨b, off, rfl, _, c0, c1, c2, c3, c4⟩ := ins_get HP3.out HH.out
  have HPC : Hid (∀ W, Calls Tryz.prog 9 #[.agg #[.int .i64 (p[i]'HH.out).op, .int .i64 (p[i]'HH.out).a, .int .i64 (p[i]'HH.out).b, .int .i64 (p[i]'HH.out).n, .int .u64 (p[i]'HH.out).imm]] W fun e w' => e = .returned (.tuple #[.string ⟨#[]⟩, .iface 54 (.int .i64 20)]) ∧ Below W.heap.size W w') := HPB
  go_wp2_with fail
  refine (HPC.out _).mono ?_
  rintro e w4 ⟨rfl, hB4⟩
  have HG4 := Lib.hid (HG3.out.at_below hB4)
  have HB4 := Lib.hid (HB3.out.trans (hB4.mono HB3.out.size))
  clear hB4
  go_wp2_with fail
  refine (asK.plain_no 20 _ (by omega) (by omega) HG4.out).mono ?_
  rintro e w5 ⟨rfl, hB5⟩
  have HB5 := Lib.hid (HB4.out.trans (hB5.mono HB4.out.size))
  clear hB5
  go_wp2
  go_ret
  exact ⟨rfl, HB5.out⟩
set_option maxRecDepth 100000 in
set_option maxHeartbeats 1000000 in
theorem there_many {p : List Ins} {v : Value} (w : World) (h : SlK 5 insE w (Old w.heap.size) v p) (hl : 16384 < p.length) : Calls Tryz.prog 3 #[v] w fun e w' => e = .returned (.bool true) ∧ Below w.heap.size w w' := by
  obtain ⟨A, cap, rfl, _, _⟩ := h.form
  have HE := Lib.hid (encode_many w h hl)
  have d1 : decide (16384 < (p.length : Int)) = true := by simp; omega
  clear h
  go_enter Tryz.func3, Tryz.ntmps3
  go_wp2_with fail
  refine HE.out.mono ?_
  rintro e w1 ⟨rfl, hB⟩
  have HB := Lib.hid hB
  clear hB
  go_wp2_with fail
  refine (works_any _).mono ?_
  rintro e w2 ⟨rfl, hB2⟩
  have HB2 := Lib.hid (HB.out.trans (hB2.mono HB.out.size))
  clear hB2
  go_wp2
  go_ret
  exact ⟨rfl, HB2.out⟩
theorem there_any {p : List Ins} {v : Value} (w : World) (h : SlK 5 insE w (Old w.heap.size) v p) (hp : ∀ x ∈ p, x.Ok) (hG : asK.ErrT w) : Calls Tryz.prog 3 #[v] w fun e w' => e = .returned (.bool true) ∧ Below w.heap.size w w' := by
  rcases Nat.lt_or_ge 16384 p.length with hl | hl
  · exact there_many w h hl
  · cases hb : firstBad p with
    | some i => exact there_bad w h hp hl i hb hG
    | none => exact there_good w h hp ⟨hl, firstBad_none hb⟩ (fun c hc => by unfold encP at hc; rw [List.mem_flatMap] at hc; obtain ⟨x, hx, h9⟩ := hc; exact encI_byte (firstBad_none hb x hx) c h9)
end codeW
end Go.Proofs.YtdjippdcgfcfgaaGreatDoor
