/- busbarlaw12.knownGreat: a program of MaxProgram halts. Condition: the library's errors' type is laid. -/
import Derived.Test.YtbbfpbmogklomaaGreatDoorZKn
import Derived.Test.YtbbfpbmogklomaaGreatDoorZCodeDe
import Derived.Test.YtbbfpbmogklomaaGreatDoorZKb
namespace Go.Proofs.YtbbfpbmogklomaaGreatDoor
open Go.RowKit Go.Bus Go.Bus.cellK Go.Bus.codeK
set_option linter.unusedVariables false
set_option linter.unusedSimpArgs false
namespace codeW
theorem rep_encZ : ∀ n, encP (List.replicate n (zero 0)) = List.replicate n 0
  | 0 => rfl
  | n + 1 => by
    rw [List.replicate_succ, List.replicate_succ, ← rep_encZ n]
    unfold encP
    rw [List.flatMap_cons]
    rfl
theorem rep_go (L : Nat) : ∀ (n : Nat) (p : List Ins) (r : List Int), p.length + n ≤ 16384 → decGo L (List.replicate n 0 ++ r) p = decGo L r (p ++ List.replicate n (zero 0))
  | 0, p, r, _ => by rw [List.replicate_zero, List.replicate_zero, List.append_nil, List.nil_append]
  | n + 1, p, r, h => by
    have h0 : fieldsOf 0 = some [] := rfl
    rw [List.replicate_succ, List.cons_append, decGo_cons, if_neg (by omega), h0]
    simp only [rdAll]
    rw [if_pos (by decide), if_pos (Nat.le_refl _), rep_go L n (p ++ [zero 0]) r (by simp; omega), List.append_assoc, List.replicate_succ, List.singleton_append]
theorem zero_ok0 : (zero 0).Ok := zero_ok (c := 0) ⟨by decide, by decide⟩
def manyZ : List Ins := List.replicate 16384 (zero 0)
def zB : List Int := List.replicate 16384 0
theorem manyZ_len : manyZ.length = 16384 := List.length_replicate
theorem zB_len : zB.length = 16384 := List.length_replicate
theorem manyZ_in : ∀ x ∈ manyZ, x.Ok ∧ rightB x = true := fun x hx => by
  obtain rfl := List.eq_of_mem_replicate hx
  exact ⟨zero_ok0, by decide⟩
theorem zB_in : ∀ c ∈ zB, Byte c := fun c hc => by
  obtain rfl := List.eq_of_mem_replicate hc
  exact ⟨by decide, by decide⟩
theorem encP_many : encP manyZ = zB := rep_encZ _
theorem dec_zB : decGo zB.length zB [] = .ok manyZ := by
  have h := rep_go zB.length 16384 [] [] (by decide)
  rw [List.append_nil, decGo_nil] at h
  exact h
theorem dec_zB1 : decGo (zB ++ [119]).length (zB ++ [119]) [] = .error (5, 16384) := by
  have h := rep_go (zB ++ [119]).length 16384 [] [119] (by decide)
  refine h.trans ?_
  rw [decGo_cons, if_pos (by rw [List.nil_append]; exact List.length_replicate), List.length_append, zB_len]
  rfl
theorem encZ_any {v : Value} (w : World) (h : SlK 5 insE w (Old w.heap.size) v manyZ) : Calls Tryz.prog 10 #[v] w fun e w' => ∃ A c, e = .returned (.tuple #[.slice A 16384 c, .nilIface]) ∧ w'.ownsRow w.heap.size 5 1 (.slice A 16384 c) 16384 (zB.map byteV) ∧ Below w.heap.size w w' := by
  refine (encode_good w h (fun x hx => (manyZ_in x hx).1) ⟨by rw [manyZ_len]; exact Nat.le_refl _, fun x hx => (manyZ_in x hx).2⟩).mono ?_
  rintro e w' ⟨A, c, rfl, ho, hb⟩
  rw [encP_many, zB_len] at ho
  exact ⟨A, c, by rw [encP_many, zB_len], ho, hb⟩
theorem decZ_any {v : Value} (w : World) (h : Sl w w.heap.size byteV v zB) : Calls Tryz.prog 22 #[v] w fun e w' => ∃ u, e = .returned (.tuple #[u, .nilIface]) ∧ Below w.heap.size w w' := by
  refine (decode_any w h zB_in).mono fun e w' hd => ?_
  unfold DecPost at hd
  rw [dec_zB] at hd
  obtain ⟨u, rfl, _, hb⟩ := hd
  exact ⟨u, rfl, hb⟩
theorem decZ1_any {v : Value} (w : World) (h : Sl w w.heap.size byteV v (zB ++ [119])) : Calls Tryz.prog 22 #[v] w fun e w' => e = .returned (.tuple #[.slice none 0 0, .iface 89 (.agg #[.int .i64 5, .int .i64 0, .int .i64 16384])]) ∧ Below w.heap.size w w' := by
  refine (decode_any w h (fun c hc => ?_)).mono fun e w' hd => ?_
  · rcases List.mem_append.1 hc with hc | hc
    · exact zB_in c hc
    · obtain rfl := List.mem_singleton.1 hc
      exact ⟨by decide, by decide⟩
  · unfold DecPost at hd
    rw [dec_zB1] at hd
    exact hd
set_option maxRecDepth 100000 in
set_option maxHeartbeats 8000000 in
theorem knowngreat_any (w : World) (hG : asK.ErrT w) : Calls Tryz.prog 8 #[] w fun e w' => e = .returned (.bool true) ∧ Below w.heap.size w w' := by
  obtain ⟨i0, hi, hi0, hi1, hi2⟩ := info_parts Tryz.infoI
  obtain ⟨i1, hj, hj0, hj1, hj2⟩ := info_parts Tryz.infoB
  have HEN : Hid (∀ W, Below w.heap.size w W → ∀ v, SlK 5 insE W (Old W.heap.size) v manyZ → Calls Tryz.prog 10 #[v] W fun e w' => ∃ A c, e = .returned (.tuple #[.slice A 16384 c, .nilIface]) ∧ w'.ownsRow W.heap.size 5 1 (.slice A 16384 c) 16384 (zB.map byteV) ∧ Below W.heap.size W w') := Lib.hid (fun W hw v h => encZ_any W h)
  have HEM : Hid (∀ W, Below w.heap.size w W → ∀ v, SlK 5 insE W (Old W.heap.size) v (manyZ ++ [zero 77]) → Calls Tryz.prog 10 #[v] W fun e w' => e = .returned (.tuple #[.slice none 0 0, .iface 50 (.int .i64 5)]) ∧ Below W.heap.size W w') := Lib.hid (fun W hw v h => encode_many W h (by rw [List.length_append, manyZ_len]; decide))
  have HDZ : Hid (∀ W v, Sl W W.heap.size byteV v zB → Calls Tryz.prog 22 #[v] W fun e w' => ∃ u, e = .returned (.tuple #[u, .nilIface]) ∧ Below W.heap.size W w') := Lib.hid (fun W v h => decZ_any W h)
  have HDO : Hid (∀ W v, Sl W W.heap.size byteV v (zB ++ [119]) → Calls Tryz.prog 22 #[v] W fun e w' => e = .returned (.tuple #[.slice none 0 0, .iface 89 (.agg #[.int .i64 5, .int .i64 0, .int .i64 16384])]) ∧ Below W.heap.size W w') := Lib.hid (fun W v h => decZ1_any W h)
  have HAT : Hid (∀ W, Below w.heap.size w W → Calls Tryz.prog 23 #[.iface 89 (.agg #[.int .i64 5, .int .i64 0, .int .i64 16384]), .int .i64 5, .int .i64 0, .int .i64 16384] W fun e w' => e = .returned (.bool true) ∧ Below W.heap.size W w') := Lib.hid (fun W hw => asK.at_fault 5 0 16384 W (by decide) (by decide) (hG.at_below hw))
  have HPN : Hid (∀ W, Below w.heap.size w W → Calls Tryz.prog 24 #[.iface 50 (.int .i64 5), .int .i64 5] W fun e w' => e = .returned (.bool true) ∧ Below W.heap.size W w') := Lib.hid (fun W hw => asK.plain_no 5 W (by decide) (by decide) (hG.at_below hw))
  clear hG
  go_enter Tryz.func8, Tryz.ntmps8
  go_wp2
  go_loopw [1, 2] (fun pv iv wr => ∃ k : Nat, iv = .int .i64 (k : Nat) ∧ k ≤ 16384 ∧ Hid (wr.ownsRow w.heap.size 25 5 pv k ((List.replicate k (zero 0)).flatMap insC)) ∧ Hid (Below w.heap.size w wr)) (fun _ iv _ => 16384 - (intOf iv).toNat)
  case atStart => exact ⟨0, rfl, by decide, Lib.hid (World.ownsRow_nil _ _ _ _), Lib.hid (Below.refl _ _)⟩
  case round =>
    obtain ⟨k, rfl, hk, HO, HB⟩ := hrel
    obtain ⟨pA, pc, rfl⟩ := own_slice HO.out
    have zb := HB.out.size
    by_cases hlt : k < 16384
    · go_wp2_with (at_builtin; refine wpList_append_own _ rfl _ _ 26 (by rfl) w.heap.size 25 i0 (.agg #[.int .i64 0, .int .i64 0, .int .i64 0, .int .i64 0, .int .u64 0]) 5 40 Tryz.underlying26 hi hi0 hi1 hi2 (by rfl) (by decide) (.slice pA k pc) k ((List.replicate k (zero 0)).flatMap insC) (by rfl) (by exact HO.out.alloc _) ⟨wr.heap.size, 0, none⟩ 1 1 [.int .i64 0, .int .i64 0, .int .i64 0, .int .i64 0, .int .u64 0] (by rfl) (by rfl) (by exact news_new wr _ _) (insE_one wr (fun _ => True) _ (zero 0) rfl) (by unfold maxLen; omega) (by omega) (by simp; omega) ?_; intro v7 w7 ho7 hg7 _; have HO7 : Hid (w7.ownsRow w.heap.size 25 5 v7 (k + 1) ((List.replicate (k + 1) (zero 0)).flatMap insC)) := Lib.hid (by rw [List.replicate_succ', List.flatMap_append]; simpa [insC, zero] using ho7); have HB7 : Hid (Below w.heap.size w w7) := Lib.hid ((HB.out.alloc zb _).grown hg7 (by simp; omega) (fun i hi => (HO.out.lt i hi).1)); clear ho7 hg7)
      go_roundw
      case rel => exact ⟨k + 1, by go_num, by omega, HO7, HB7⟩
      case measure => simp [intOf]; omega
    · obtain rfl : k = 16384 := by omega
      have HS : Hid (SlK 5 insE wr (Old wr.heap.size) (.slice pA 16384 pc) manyZ) := Lib.hid (ins_of_own (by rw [manyZ_len]; exact HO.out))
      have HOM : Hid (wr.ownsRow w.heap.size 25 5 (.slice pA 16384 pc) 16384 (manyZ.flatMap insC)) := HO
      clear HO
      go_wp2_with fail
      refine (HEN.out wr HB.out _ HS.out).mono ?_
      rintro e w1 ⟨A1, c1, rfl, ho1, hb1⟩
      have HO1 := Lib.hid ho1
      have HC1 := Lib.hid hb1
      clear ho1 hb1
      go_wp2_with fail
      refine (HDZ.out w1 _ (Sl.of_own (by rw [zB_len]; exact HO1.out))).mono ?_
      rintro e w2 ⟨u2, rfl, hb2⟩
      have HO2 := Lib.hid (own_kept HO1.out hb2)
      have HC2 := Lib.hid (HC1.out.trans (hb2.mono HC1.out.size))
      have z2 := HC2.out.size
      clear hb2
      go_wp2_with (at_builtin; refine wpList_append_own _ rfl _ _ 28 (by rfl) wr.heap.size 5 i1 (.int .u8 0) 1 1 Tryz.underlying28 hj hj0 hj1 hj2 (by rfl) (by decide) _ 16384 (zB.map byteV) (by rfl) (by exact HO2.out.alloc _) ⟨w2.heap.size, 0, none⟩ 1 1 [.int .u8 119] (by rfl) (by rfl) (by exact one_new w2 _ _) (by intro u hu; simp at hu; subst hu; rfl) (by unfold maxLen; omega) (by omega) (by simp; omega) ?_)
      intro v3 w3 ho3 hg3 _
      have HO3 : Hid (w3.ownsRow wr.heap.size 5 1 v3 (zB ++ [119]).length ((zB ++ [119]).map byteV)) := Lib.hid (by rw [List.map_append, List.length_append, zB_len]; exact ho3)
      have HC3 : Hid (Below wr.heap.size wr w3) := Lib.hid ((HC2.out.alloc z2 _).grown hg3 (by simp; omega) (fun i hi => (HO2.out.lt i hi).1))
      clear ho3 hg3
      go_wp2_with fail
      refine (HDO.out w3 _ (Sl.of_own HO3.out)).mono ?_
      rintro e w4 ⟨rfl, hb4⟩
      have HC4 := Lib.hid (HC3.out.trans (hb4.mono HC3.out.size))
      have HOM4 := Lib.hid (own_kept HOM.out HC4.out)
      have HB4 := Lib.hid (HB.out.trans (HC4.out.mono zb))
      have z4 := HB4.out.size
      clear hb4
      go_wp2_with (at_builtin; refine wpList_append_own _ rfl _ _ 26 (by rfl) w.heap.size 25 i0 (.agg #[.int .i64 0, .int .i64 0, .int .i64 0, .int .i64 0, .int .u64 0]) 5 40 Tryz.underlying26 hi hi0 hi1 hi2 (by rfl) (by decide) (.slice pA 16384 pc) 16384 (manyZ.flatMap insC) (by rfl) (by exact HOM4.out.alloc _) ⟨w4.heap.size, 0, none⟩ 1 1 [.int .i64 77, .int .i64 0, .int .i64 0, .int .i64 0, .int .u64 0] (by rfl) (by rfl) (by exact news_new w4 _ _) (insE_one w4 (fun _ => True) _ (zero 77) rfl) (by unfold maxLen; omega) (by omega) (by simp; omega) ?_)
      intro v5 w5 ho5 hg5 _
      have HO5 : Hid (w5.ownsRow w.heap.size 25 5 v5 (manyZ ++ [zero 77]).length ((manyZ ++ [zero 77]).flatMap insC)) := Lib.hid (by rw [List.flatMap_append, List.length_append, manyZ_len]; exact ho5)
      have HB5 : Hid (Below w.heap.size w w5) := Lib.hid ((HB4.out.alloc z4 _).grown hg5 (by simp; omega) (fun i hi => (HOM4.out.lt i hi).1))
      clear ho5 hg5
      go_wp2_with fail
      refine (HEM.out w5 HB5.out _ (ins_of_own HO5.out)).mono ?_
      rintro e w6 ⟨rfl, hb6⟩
      have HB6 := Lib.hid (HB5.out.trans (hb6.mono HB5.out.size))
      clear hb6
      go_wp2_with (first
        | (go_at_call 23; refine (HAT.out w6 HB6.out).mono ?_; rintro e w7 ⟨rfl, hb7⟩; have HB7 := Lib.hid (HB6.out.trans (hb7.mono HB6.out.size)); clear hb7)
        | (go_at_call 24; refine (HPN.out w7 HB7.out).mono ?_; rintro e w8 ⟨rfl, hb8⟩; have HB8 := Lib.hid (HB7.out.trans (hb8.mono HB7.out.size)); clear hb8))
      go_ret
      exact ⟨rfl, HB8.out⟩
end codeW
end Go.Proofs.YtbbfpbmogklomaaGreatDoor
