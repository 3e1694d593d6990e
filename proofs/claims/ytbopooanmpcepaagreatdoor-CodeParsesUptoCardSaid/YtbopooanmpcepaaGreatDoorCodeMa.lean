/- made's walk. No condition. -/
import Derived.Test.YtbopooanmpcepaaGreatDoorCodeM
import Derived.Outline
namespace Go.Proofs.YtbopooanmpcepaaGreatDoor
open Go.RowKit Go.Bus Go.Bus.cellK Go.Bus.codeK
set_option linter.unusedVariables false
set_option linter.unusedSimpArgs false
namespace codeW
theorem infoTab : (Tryz.prog.info? 78).map (·.size) = some 20 := by kernel_rfl
set_option maxRecDepth 100000 in
set_option maxHeartbeats 4000000 in
theorem made_any (w : World) : Calls Tryz.prog 14 #[] w fun e w' => ∃ v, e = .returned v ∧ MadeE w' (Iv w.heap.size w'.heap.size) v ∧ Below w.heap.size w w' := by
  have hm := hmf
  have hmm := @run_makeMap Tryz.prog
  have hbu : ∀ (c0 c1 c2 c3 c4 o0 o1 o2 o3 o4 s0 s1 s2 s3 s4 n0 n1 n2 n3 n4 : Value) (w : World), (Instr.build 78 #[(0, .agg #[c0, c1, c2, c3, c4]), (1, .agg #[o0, o1, o2, o3, o4]), (2, .agg #[s0, s1, s2, s3, s4]), (3, .agg #[n0, n1, n2, n3, n4])]).run Tryz.prog w = .ok (.agg #[c0, c1, c2, c3, c4, o0, o1, o2, o3, o4, s0, s1, s2, s3, s4, n0, n1, n2, n3, n4]) w := fun c0 c1 c2 c3 c4 o0 o1 o2 o3 o4 s0 s1 s2 s3 s4 n0 n1 n2 n3 n4 w => by kernel_rfl
  go_enter Tryz.func14, Tryz.ntmps14
  go_wp2_with fail
  refine (small_any .A 0 15 rS _).mono ?_
  rintro e w1 ⟨c0, c1, c2, c3, c4, rfl, hf, hb⟩
  have HF1 := Lib.hid hf; have HB1 := Lib.hid hb; clear hf hb
  go_wp2_with fail
  refine (small_any .B 0 15 rS _).mono ?_
  rintro e w2 ⟨o0, o1, o2, o3, o4, rfl, hf, hb⟩
  have HF2 := Lib.hid hf; have HB2 := Lib.hid hb; clear hf hb
  go_wp2_with fail
  refine (small_any .B 0 63 eS _).mono ?_
  rintro e w3 ⟨s0, s1, s2, s3, s4, rfl, hf, hb⟩
  have HF3 := Lib.hid hf; have HB3 := Lib.hid hb; clear hf hb
  go_wp2_with fail
  refine (number_any _).mono ?_
  rintro e w4 ⟨n0, n1, n2, n3, n4, rfl, hf, hb⟩
  have HF4 := Lib.hid hf; have HB4 := Lib.hid hb; clear hf hb
  have H1 : (#[c0, c1, c2, c3, c4, o0, o1, o2, o3, o4, s0, s1, s2, s3, s4, n0, n1, n2, n3, n4] : Array Value).all (·.oneCell') = true := by
    rw [Array.all_eq_true']
    intro u hu
    have h1 := FieldE_one _ _ _ _ HF1.out u; have h2 := FieldE_one _ _ _ _ HF2.out u; have h3 := FieldE_one _ _ _ _ HF3.out u; have h4 := FieldE_one _ _ _ _ HF4.out u
    simp only [List.mem_cons, List.not_mem_nil, or_false] at h1 h2 h3 h4
    simp only [List.mem_toArray, List.mem_cons, List.not_mem_nil, or_false] at hu
    rcases hu with h | h | h | h | h | h | h | h | h | h | h | h | h | h | h | h | h | h | h | h
    · exact h1 (by simp [h])
    · exact h1 (by simp [h])
    · exact h1 (by simp [h])
    · exact h1 (by simp [h])
    · exact h1 (by simp [h])
    · exact h2 (by simp [h])
    · exact h2 (by simp [h])
    · exact h2 (by simp [h])
    · exact h2 (by simp [h])
    · exact h2 (by simp [h])
    · exact h3 (by simp [h])
    · exact h3 (by simp [h])
    · exact h3 (by simp [h])
    · exact h3 (by simp [h])
    · exact h3 (by simp [h])
    · exact h4 (by simp [h])
    · exact h4 (by simp [h])
    · exact h4 (by simp [h])
    · exact h4 (by simp [h])
    · exact h4 (by simp [h])
  have H1h := Lib.hid H1; clear H1
  go_wp2_with (first
    | (refine wpList_store_new rfl 78 (.tmp 1) (.tmp 6) (by rfl) (by rfl) (by rfl) (by exact Has.new w4 _ _) (by exact infoTab) (by rfl) (by exact H1h.out) ?_
       intro W hT hW
       obtain ⟨T, hTT⟩ : ∃ T : Array Value, T = #[c0, c1, c2, c3, c4, o0, o1, o2, o3, o4, s0, s1, s2, s3, s4, n0, n1, n2, n3, n4] := ⟨_, rfl⟩
       rw [← hTT] at hT
       have hTS : T.size = 20 := by rw [hTT]; rfl
       have HTT := Lib.hid hTT
       have HT := Lib.hid hT
       have hmk : Mk w4 (W.alloc (.map #[] 0)) w4.heap.size w4.heap.size W.heap.size T 0 := ⟨heap_alloc_new W _, hT.alloc _, Below.alloc (Below.trans ((Below.refl _ _).alloc (Nat.le_refl _) _) hW) (Nat.le_of_lt hT.lt) _, Nat.le_of_lt hT.lt⟩
       have HM := Lib.hid hmk
       have hit : (Tryz.prog.info? 78).map (·.size) = some T.size := by rw [hTS, infoTab]
       have HIT := Lib.hid hit
       clear hmk hit
       have HW : Hid (Below w4.heap.size w4 W) := Lib.hid (Below.trans ((Below.refl _ _).alloc (Nat.le_refl _) _) hW)
       have zW : w4.heap.size < W.heap.size := hT.lt
       clear hTT hTS hT hW)
    | (refine wpList_load_has rfl 78 (.tmp 1) (by rfl) w4.heap.size (by rfl) (by exact HM.out.ht) Tryz.underlying78 (by rfl) (by exact HIT.out) ?_)
    | (refine wpList_insert rfl (.tmp 7) _ _ (by rfl) (by rfl) (by exact HM.out) (by rfl) (by rfl) (by rfl) ?_; intro W2 hM2; have HM := Lib.hid hM2; clear hM2))
  go_ret
  have b4 := HM.out.hb
  have b1 := HB1.out
  have b2 := HB2.out
  have b3 := HB3.out
  have b5 := HB4.out
  have s1 := b1.size
  have s2 := b2.size
  have s3 := b3.size
  have s4 := b5.size
  have s5 := b4.size
  have e3 : Below w3.heap.size w3 _ := b5.trans (b4.mono s4)
  have e2 : Below w2.heap.size w2 _ := b3.trans (e3.mono s3)
  have e1 : Below w1.heap.size w1 _ := b2.trans (e2.mono s2)
  have e0 : Below w.heap.size w _ := b1.trans (e1.mono s1)
  refine ⟨_, rfl, ⟨W.heap.size, T, rfl, ⟨by omega, ?_⟩, HM.out.hm, _, _, _, _, _, _, _, _, _, _, _, _, _, _, _, _, _, _, _, _, HTT.out, ⟨?_, ?_, ?_, ?_⟩⟩, e0⟩
  · exact (Array.getElem?_eq_some_iff.1 HM.out.hm).1
  · exact FieldE.later HF1.out (fun b hb => ⟨hb.1, Nat.lt_of_lt_of_le hb.2 e1.size⟩) (fun b hb => hb.2) e1
  · exact FieldE.later HF2.out (fun b hb => ⟨Nat.le_trans s1 hb.1, Nat.lt_of_lt_of_le hb.2 e2.size⟩) (fun b hb => hb.2) e2
  · exact FieldE.later HF3.out (fun b hb => ⟨Nat.le_trans s1 (Nat.le_trans s2 hb.1), Nat.lt_of_lt_of_le hb.2 e3.size⟩) (fun b hb => hb.2) e3
  · exact FieldE.later HF4.out (fun b hb => ⟨Nat.le_trans s1 (Nat.le_trans s2 (Nat.le_trans s3 hb.1)), Nat.lt_of_lt_of_le hb.2 b4.size⟩) (fun b hb => hb.2) b4
end codeW
end Go.Proofs.YtbopooanmpcepaaGreatDoor
