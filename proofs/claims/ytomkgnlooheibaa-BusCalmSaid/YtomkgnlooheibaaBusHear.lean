/- bus: own (a frame with memory of its own), filter.Takes, a station's hear. No condition. -/
import Derived.Test.YtomkgnlooheibaaBusMem
import Derived.Test.YtomkgnlooheibaaCloneF
import Derived.Test.YtomkgnlooheibaaDecode
namespace Go.Proofs.Ytomkgnlooheibaa
open Go.RowKit Go.Bus Go.Bus.ringK Go.Bus.ring3K Go.Bus.busK Go.Bus.cellK Go.Bus.decK
set_option linter.unusedVariables false
set_option linter.unusedSimpArgs false
namespace busM
open qframe
theorem src_of_sl {α : Type} {f : α → Value} {w : World} {B : Nat} {v : Value} {l : List α} (h : Sl w B f v l) : Src 1 w (Old B) v l.length (l.map f) := by
  obtain ⟨A, cap, rfl, hl, hc, hx⟩ := h
  refine ⟨A, cap, rfl, hl, hc, by simp, fun h0 => ?_⟩
  obtain ⟨b, off, rfl, hb, hcell⟩ := hx h0
  refine ⟨b, off, rfl, hb, fun j u hj => ?_⟩
  rw [List.getElem?_map] at hj
  cases hlj : l[j]? with
  | none => rw [hlj] at hj; cases hj
  | some x => rw [hlj] at hj; cases hj; exact hcell j x hlj

set_option maxRecDepth 100000 in
set_option maxHeartbeats 1000000 in
theorem own_any (id : Int) (wide : Bool) (v : Value) (l : List Int) (w : World) (h : Sl w w.heap.size (Value.int .u8) v l) (hl : l.length ≤ 140737488355328) :
    Calls Try.prog 29 #[.agg #[.int .u32 id, .bool wide, v]] w fun e w' => ∃ v', e = .returned (.agg #[.int .u32 id, .bool wide, v']) ∧ w'.ownsRow w.heap.size tU 1 v' l.length (l.map (Value.int .u8)) ∧ Below w.heap.size w w' := by
  obtain ⟨A, cap, rfl, hcap, hmax⟩ := h.form
  unfold maxLen at hmax
  have HL := Lib.hid h; clear h
  go_enter Try.func29, Try.ntmps29
  go_wp2_with fail
  refine (cloneU8.clone_raw _ l.length (l.map (Value.int .u8)) (Old _) _ (by exact src_of_sl (HL.out.at_below (by repeat' (first | (with_reducible assumption) | (with_reducible refine Below.setCell ?_ ?_ _) | (with_reducible refine Below.alloc ?_ ?_ _) | (with_reducible refine Below.drew ?_) | (with_reducible refine below_drewN ?_ _) | (with_reducible exact Below.refl _ _) | (show _ ≤ _; (try simp); (try omega); done) | exact Below.refl _ _ | assumption)))) (by intro u hu; obtain ⟨x, _, rfl⟩ := List.mem_map.1 hu; rfl) (by omega)).mono ?_
  rintro e w1 ⟨v', rfl, hown, hb_w1⟩
  obtain ⟨hc_w1, hf_w1⟩ := bcell hb_w1; have hz_w1 := hb_w1.size; (try simp at hz_w1); have hB_w1 : Below w.heap.size w w1 := Below.trans (by repeat' (first | (with_reducible assumption) | (with_reducible refine Below.setCell ?_ ?_ _) | (with_reducible refine Below.alloc ?_ ?_ _) | (with_reducible refine Below.drew ?_) | (with_reducible refine below_drewN ?_ _) | (with_reducible exact Below.refl _ _) | (show _ ≤ _; (try simp); (try omega); done) | exact Below.refl _ _ | assumption)) (hb_w1.mono (by (try simp); (try omega)))
  have hR := (has_new1 w (.cells #[.int .u32 id, .bool wide, .slice A l.length cap] 35) 35 #[.int .u32 0, .bool false, .slice none 0 0]).below hb_w1 (by simp <;> omega)
  have hX := ((Has.new w 35 #[.int .u32 id, .bool wide, .slice A l.length cap]).alloc (.cells #[.int .u32 0, .bool false, .slice none 0 0] 35)).below hb_w1 (by simp <;> omega)
  have r0 : w1.cell? ⟨w.heap.size + 1, 0, none⟩ = some (.int .u32 0) := (hR.cell 0).trans rfl
  have r1 : w1.cell? ⟨w.heap.size + 1, 1, none⟩ = some (.bool false) := (hR.cell 1).trans rfl
  have r2 : w1.cell? ⟨w.heap.size + 1, 2, none⟩ = some (.slice none 0 0) := (hR.cell 2).trans rfl
  have n0 : w1.cell? ⟨w.heap.size, 0, none⟩ = some (.int .u32 id) := (hX.cell 0).trans rfl
  have n1 : w1.cell? ⟨w.heap.size, 1, none⟩ = some (.bool wide) := (hX.cell 1).trans rfl
  have n2 : w1.cell? ⟨w.heap.size, 2, none⟩ = some (.slice A l.length cap) := (hX.cell 2).trans rfl
  have rf := fun i => hR.frozen i
  have xf := fun i => hX.frozen i
  have hlt1 : w.heap.size < w1.heap.size := by omega
  have hlt2 : w.heap.size + 1 < w1.heap.size := by omega
  obtain ⟨A1, c1, rfl⟩ := decW.own_slice hown
  have HR := Lib.hid hR
  have HX := Lib.hid hX
  have HO := Lib.hid hown
  clear hR hX hown
  go_wp2
  generalize hW : World.setCell _ _ _ = W
  have hres : Has W (w.heap.size + 1) 35 #[.int .u32 id, .bool wide, .slice A1 l.length c1] := by
    subst hW
    refine has_to (has_to (has_to (cs := #[.int .u32 0, .bool false, .slice none 0 0]) ?_ 0 _ rfl) 1 _ rfl) 2 _ rfl
    exact HR.out.far (p := ⟨w.heap.size, 2, none⟩) (by simp) _
  have hkp : Below w.heap.size w W := by
    subst hW
    exact (by repeat' (first | (with_reducible assumption) | (with_reducible refine Below.setCell ?_ ?_ _) | (with_reducible refine Below.alloc ?_ ?_ _) | (with_reducible refine Below.drew ?_) | (with_reducible refine below_drewN ?_ _) | (with_reducible exact Below.refl _ _) | (show _ ≤ _; (try simp); (try omega); done) | exact Below.refl _ _ | assumption))
  have hown : W.ownsRow w.heap.size tU 1 (.slice A1 l.length c1) l.length (l.map (Value.int .u8)) := by
    subst hW
    refine own_base (base := w.heap.size + 2) ?_ (by omega)
    have h0 : w1.ownsRow (w.heap.size + 2) tU 1 (.slice A1 l.length c1) l.length (l.map (Value.int .u8)) := own_base HO.out (by simp)
    exact ownsRow_setCell_below (ownsRow_setCell_below (ownsRow_setCell_below (ownsRow_setCell_below h0 (by simp) _) (by simp) _) (by simp) _) (by simp) _
  have s0 : W.cell? ⟨w.heap.size + 1, 0, none⟩ = some (.int .u32 id) := (hres.cell 0).trans rfl
  have s1 : W.cell? ⟨w.heap.size + 1, 1, none⟩ = some (.bool wide) := (hres.cell 1).trans rfl
  have s2 : W.cell? ⟨w.heap.size + 1, 2, none⟩ = some (.slice A1 l.length c1) := (hres.cell 2).trans rfl
  refine bodyPost_ret (v := .agg #[.int .u32 id, .bool wide, .slice A1 l.length c1]) (by simp [results, Try.results29, go_sem, s0, s1, s2]) rfl ?_
  exact ⟨_, rfl, hown, hkp⟩

/-- A rule's three cells. -/
def ruleE : Rel Rl := fun _ _ cs r => cs = Rl.c r
theorem ruleE_mono : Mono ruleE := fun _ _ _ _ _ _ _ _ h => h

set_option maxRecDepth 100000 in
set_option maxHeartbeats 1000000 in
theorem takes_any (rv : Value) (rules : List Rl) (F : Foot) (id : Int) (wide : Bool) (v : Value) (l : List Int) (w : World) (hF : ∀ b, F b → b < w.heap.size) (h : SlK 3 ruleE w F rv rules) :
    Calls Try.prog 19 #[rv, .agg #[.int .u32 id, .bool wide, v]] w fun e w' => e = .returned (.bool (takesL rules (id, wide, l))) ∧ Below w.heap.size w w' := by
  obtain ⟨A, cap, rfl, hcap, hmax⟩ := h.form
  unfold maxLen at hmax
  have HL := Lib.hid h; clear h
  have HF := Lib.hid hF; clear hF
  go_enter Try.func19, Try.ntmps19
  go_wp2
  go_loopw [9] (fun i wr => ∃ k : Nat, k ≤ rules.length ∧ i = .int .i64 k ∧ (rules.take k).any (Rl.hits id wide) = false ∧ Has wr w.heap.size 35 #[.int .u32 id, .bool wide, v] ∧ Below w.heap.size w wr) (fun i _ => rules.length - (intOf i).toNat)
  case atStart => exact ⟨0, Nat.zero_le _, rfl, by simp, Has.new _ _ _, (by repeat' (first | (with_reducible assumption) | (with_reducible refine Below.setCell ?_ ?_ _) | (with_reducible refine Below.alloc ?_ ?_ _) | (with_reducible refine Below.drew ?_) | (with_reducible refine below_drewN ?_ _) | (with_reducible exact Below.refl _ _) | (show _ ≤ _; (try simp); (try omega); done) | exact Below.refl _ _ | assumption))⟩
  case round =>
    obtain ⟨k, hk, rfl, hno, hX, hBw⟩ := hrel
    have HNO := Lib.hid hno; clear hno
    by_cases hlt : k < rules.length
    · obtain ⟨b, off, cs, rfl, hFb, hcs, hrg, hR⟩ := HL.out.at_ (A := A) hlt
      have hbl := HF.out b hFb
      have e := fun (o : Nat) => hBw.cell (p := ⟨b, o, none⟩) hbl
      obtain ⟨W, C, M, hW⟩ : ∃ W C M, rules[k] = ⟨W, C, M⟩ := ⟨_, _, _, rfl⟩
      rw [hW] at hR
      unfold ruleE Rl.c at hR
      subst hR
      have q0 : wr.cell? ⟨b, off + k * 3, none⟩ = some (.bool W) := (e _).trans (hrg 0 _ rfl)
      have q1 : wr.cell? ⟨b, off + k * 3 + 1, none⟩ = some (.int .u32 C) := (e _).trans (hrg 1 _ rfl)
      have q2 : wr.cell? ⟨b, off + k * 3 + 2, none⟩ = some (.int .u32 M) := (e _).trans (hrg 2 _ rfl)
      have x0 : wr.cell? ⟨w.heap.size, 0, none⟩ = some (.int .u32 id) := (hX.cell 0).trans rfl
      have x1 : wr.cell? ⟨w.heap.size, 1, none⟩ = some (.bool wide) := (hX.cell 1).trans rfl
      have x2 : wr.cell? ⟨w.heap.size, 2, none⟩ = some v := (hX.cell 2).trans rfl
      have hsz := hX.lt
      have HX := Lib.hid hX
      have HW := Lib.hid hW
      clear hX hW e hcs hrg
      have hbr : b < wr.heap.size := by omega
      have hstep : Hid (Rl.hits id wide ⟨W, C, M⟩ = false → (rules.take (k + 1)).any (Rl.hits id wide) = false) := by
        intro hf
        rw [take_snoc rules k hlt, List.any_append, HNO.out, HW.out]
        simp [hf]
      have hyes : Hid (Rl.hits id wide ⟨W, C, M⟩ = true → takesL rules (id, wide, l) = true) := by
        intro hf
        unfold takesL
        rw [show rules.any (Rl.hits id wide) = true from List.any_eq_true.2 ⟨rules[k], List.getElem_mem hlt, by rw [HW.out]; exact hf⟩]
        rfl
      unfold Rl.hits at hstep hyes
      dsimp only at hstep hyes
      have htest : ∀ t : Bool, t = (bits BinOp.and IntKind.u32 (bits BinOp.xor IntKind.u32 id C) M == 0) → t = true ∨ t = false := fun t _ => by cases t <;> simp
      cases W <;> cases wide
      all_goals
        by_cases ht : (bits BinOp.and IntKind.u32 (bits BinOp.xor IntKind.u32 id C) M == 0) = true
      all_goals (try rw [Bool.not_eq_true] at ht)
      all_goals go_wp2
      all_goals first
        | (go_ret; exact ⟨ret_bool (hyes.out (by simp [ht])).symm, (by repeat' (first | (with_reducible assumption) | (with_reducible refine Below.setCell ?_ ?_ _) | (with_reducible refine Below.alloc ?_ ?_ _) | (with_reducible refine Below.drew ?_) | (with_reducible refine below_drewN ?_ _) | (with_reducible exact Below.refl _ _) | (show _ ≤ _; (try simp); (try omega); done) | exact Below.refl _ _ | assumption))⟩)
        | exact ⟨⟨k + 1, by omega, by go_num, hstep.out (by simp [ht]), HX.out.alloc _, (by repeat' (first | (with_reducible assumption) | (with_reducible refine Below.setCell ?_ ?_ _) | (with_reducible refine Below.alloc ?_ ?_ _) | (with_reducible refine Below.drew ?_) | (with_reducible refine below_drewN ?_ _) | (with_reducible exact Below.refl _ _) | (show _ ≤ _; (try simp); (try omega); done) | exact Below.refl _ _ | assumption))⟩, by simp [intOf]; omega⟩
    · obtain rfl : k = rules.length := by omega
      have hn := HNO.out
      rw [List.take_length] at hn
      have hend : Hid (takesL rules (id, wide, l) = decide (rules.length = 0)) := by
        unfold Hid takesL
        dsimp only
        rw [hn]
        cases rules <;> simp
      clear hX hn
      by_cases h0 : rules.length = 0
      · have d0 : ((rules.length : Int) == 0) = true := by rw [beq_iff_eq]; omega
        go_wp2
        go_ret
        exact ⟨ret_bool (by rw [hend.out, decide_eq_true h0]), hBw⟩
      · have d0 : ((rules.length : Int) == 0) = false := by rw [beq_eq_false_iff_ne]; omega
        go_wp2
        go_ret
        exact ⟨ret_bool (by rw [hend.out, decide_eq_false h0]), hBw⟩
end busM
end Go.Proofs.Ytomkgnlooheibaa
