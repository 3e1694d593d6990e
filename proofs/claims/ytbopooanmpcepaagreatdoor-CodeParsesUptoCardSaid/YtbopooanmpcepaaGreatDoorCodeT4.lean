/- The methods of code.table that make fields of their own. No condition. -/
import Derived.Test.YtbopooanmpcepaaGreatDoorCodeT
namespace Go.Proofs.YtbopooanmpcepaaGreatDoor
open Go.RowKit Go.Bus Go.Bus.cellK Go.Bus.codeK
set_option linter.unusedVariables false
set_option linter.unusedSimpArgs false
namespace codeW
theorem own_of_has {w : World} {g T base size n : Nat} {cs : List Value} (h : Has w g T cs.toArray) (hl : cs.length = n * size) (hb : base ≤ g) (hn : n ≤ maxLen) : w.ownsRow base T size (.slice (some ⟨g, 0, none⟩) n n) n cs :=
  ⟨hl, .inr ⟨g, n, cs.toArray, rfl, hb, h, Nat.le_refl _, hn, by simp [hl], by rw [← hl]; simp⟩⟩
theorem has_news {w : World} {g t : Nat} {cs : List Value} (h : Has w g t cs.toArray) : ∀ (j : Nat) (u : Value), cs[j]? = some u → w.cell? ((⟨g, 0, none⟩ : Addr).add j) = some u := by
  intro j u hj
  have h2 : ((⟨g, 0, none⟩ : Addr).add j) = ⟨g, j, none⟩ := by unfold Addr.add; split <;> simp_all
  rw [h2, h.cell j]
  simpa using hj
theorem news_new (w : World) (cs : List Value) (t : TypeId) : ∀ (j : Nat) (u : Value), cs[j]? = some u → (w.alloc (.cells cs.toArray t)).cell? ((⟨w.heap.size, 0, none⟩ : Addr).add j) = some u := by
  intro j u hj
  have h2 : ((⟨w.heap.size, 0, none⟩ : Addr).add j) = ⟨w.heap.size, j, none⟩ := by unfold Addr.add; split <;> simp_all
  rw [h2, (Has.new w t cs.toArray).cell j]
  simpa using hj
theorem src_of_own {k : Nat} {w : World} {F : Foot} {base : Nat} {e : TypeId} {v : Value} {n : Nat} {xs : List Value} (h : w.ownsRow base e k v n xs) (hF : ∀ g, v.ownBlock = some g → F g) : Src k w F v n xs := by
  have h' := h
  obtain ⟨hl, h2⟩ := h
  rcases h2 with ⟨rfl, h0⟩ | ⟨g, cap, cur, rfl, hb, hg, hn, hm, hs, ht⟩
  · subst h0
    exact ⟨none, 0, rfl, Nat.le_refl _, Nat.zero_le _, hl, fun h => absurd h (by simp)⟩
  · refine ⟨_, cap, rfl, hn, hm, hl, fun _ => ⟨g, 0, rfl, hF g rfl, fun j u hj => ?_⟩⟩
    have h1 := h'.cells (g := g) rfl j u hj
    rw [Addr.add_mid] at h1
    exact h1
/-- What move comes to: a row of three fields of its own. -/
def MovePost (w : World) (c0 c1 c2 c3 c4 : Value) (e : Ending) (w' : World) : Prop := ∃ g d0 d1 d2 d3 d4 g0 g1 g2 g3 g4, e = .returned (.slice (some ⟨g, 0, none⟩) 3 3) ∧ Has w' g 57 #[c0, c1, c2, c3, c4, d0, d1, d2, d3, d4, g0, g1, g2, g3, g4] ∧ w.heap.size ≤ g ∧ FieldE w' (Iv w.heap.size g) [d0, d1, d2, d3, d4] codeK.start ∧ FieldE w' (Iv w.heap.size g) [g0, g1, g2, g3, g4] .bytes ∧ Below w.heap.size w w'
set_option maxRecDepth 100000 in
set_option maxHeartbeats 1000000 in
theorem move_own {c0 c1 c2 c3 c4 c5 c6 c7 c8 c9 c10 c11 c12 c13 c14 c15 c16 c17 c18 c19 : Value} (w : World) : Calls Tryz.prog 37 #[.agg #[c0, c1, c2, c3, c4, c5, c6, c7, c8, c9, c10, c11, c12, c13, c14, c15, c16, c17, c18, c19]] w (MovePost w c0 c1 c2 c3 c4) := by
  go_enter Tryz.func37, Tryz.ntmps37
  go_wp2
  go_region_law (first
    | (go_simp; go_at_call 29; refine (small_any .B 0 7 eS _).mono ?_; rintro e W1 ⟨d0, d1, d2, d3, d4, rfl, hfW1, hbW1⟩; have HTW1 : Hid (Has W1 w.heap.size 78 #[c0, c1, c2, c3, c4, c5, c6, c7, c8, c9, c10, c11, c12, c13, c14, c15, c16, c17, c18, c19]) := Lib.hid (Has.below (by exact Has.new w _ _) hbW1 (by first | (simp; done) | (simp; omega) | omega)); have kW1_0 : W1.cell? ⟨w.heap.size, 0, none⟩ = some c0 := HTW1.out.cell 0; have kW1_1 : W1.cell? ⟨w.heap.size, 1, none⟩ = some c1 := HTW1.out.cell 1; have kW1_2 : W1.cell? ⟨w.heap.size, 2, none⟩ = some c2 := HTW1.out.cell 2; have kW1_3 : W1.cell? ⟨w.heap.size, 3, none⟩ = some c3 := HTW1.out.cell 3; have kW1_4 : W1.cell? ⟨w.heap.size, 4, none⟩ = some c4 := HTW1.out.cell 4; have zzW1 : w.heap.size < W1.heap.size := HTW1.out.lt; have HBW1 : Hid (Below w.heap.size w W1) := Lib.hid (Below.trans (by repeat' (first | (with_reducible assumption) | (with_reducible refine Below.setCell ?_ ?_ _) | (with_reducible refine Below.alloc ?_ ?_ _) | (with_reducible refine Below.drew ?_) | (with_reducible refine below_drewN ?_ _) | (with_reducible exact Below.refl _ _) | (show _ ≤ _; (try simp); (try omega); done) | exact Below.refl _ _ | assumption)) (hbW1.mono (by (try simp); (try omega)))); have HFW1 := Lib.hid hfW1; have HBBW1 := Lib.hid hbW1; clear hfW1 hbW1)
    | (go_simp; go_at_call 75; refine (bytes_any _).mono ?_; rintro e W2 ⟨g0, g1, g2, g3, g4, rfl, hfW2, hbW2⟩; have HTW2 : Hid (Has W2 w.heap.size 78 #[c0, c1, c2, c3, c4, c5, c6, c7, c8, c9, c10, c11, c12, c13, c14, c15, c16, c17, c18, c19]) := Lib.hid (Has.below (by exact HTW1.out) hbW2 (by first | (simp; done) | (simp; omega) | omega)); have kW2_0 : W2.cell? ⟨w.heap.size, 0, none⟩ = some c0 := HTW2.out.cell 0; have kW2_1 : W2.cell? ⟨w.heap.size, 1, none⟩ = some c1 := HTW2.out.cell 1; have kW2_2 : W2.cell? ⟨w.heap.size, 2, none⟩ = some c2 := HTW2.out.cell 2; have kW2_3 : W2.cell? ⟨w.heap.size, 3, none⟩ = some c3 := HTW2.out.cell 3; have kW2_4 : W2.cell? ⟨w.heap.size, 4, none⟩ = some c4 := HTW2.out.cell 4; have zzW2 : w.heap.size < W2.heap.size := HTW2.out.lt; have HBW2 : Hid (Below w.heap.size w W2) := Lib.hid (Below.trans HBW1.out ((by exact hbW2 : Below W1.heap.size W1 W2).mono (Nat.le_of_lt zzW1))); have HFW2 := Lib.hid hfW2; have HBBW2 := Lib.hid hbW2; clear hfW2 hbW2))
  all_goals
    go_wp2
    go_ret
    have hbl : Below w.heap.size w (W2.alloc (.cells #[c0, c1, c2, c3, c4, d0, d1, d2, d3, d4, g0, g1, g2, g3, g4] 57)) := HBW2.out.alloc (Nat.le_of_lt zzW2) _
    have hb1 : Below W1.heap.size W1 (W2.alloc (.cells #[c0, c1, c2, c3, c4, d0, d1, d2, d3, d4, g0, g1, g2, g3, g4] 57)) := (by exact HBBW2.out : Below W1.heap.size W1 W2).alloc (by exact HBBW2.out.size) _
    have hb2 : Below W2.heap.size W2 (W2.alloc (.cells #[c0, c1, c2, c3, c4, d0, d1, d2, d3, d4, g0, g1, g2, g3, g4] 57)) := (Below.refl _ _).alloc (Nat.le_refl _) _
    refine ⟨_, _, _, _, _, _, _, _, _, _, _, rfl, has_new _ _ _ _ rfl, Nat.le_of_lt zzW2, ?_, ?_, ⟨hbl.os, hbl.tape, hbl.output, hbl.size, hbl.block⟩⟩
    · exact FieldE.later HFW1.out (fun b hb => ⟨by have := hb.1; simp at this; omega, Nat.lt_of_lt_of_le hb.2 HBBW2.out.size⟩) (fun b hb => hb.2) ⟨hb1.os, hb1.tape, hb1.output, hb1.size, hb1.block⟩
    · exact FieldE.later HFW2.out (fun b hb => ⟨Nat.le_trans (Nat.le_of_lt zzW1) hb.1, hb.2⟩) (fun b hb => hb.2) ⟨hb2.os, hb2.tape, hb2.output, hb2.size, hb2.block⟩
theorem move_any {c0 c1 c2 c3 c4 c5 c6 c7 c8 c9 c10 c11 c12 c13 c14 c15 c16 c17 c18 c19 : Value} (w : World) (hT : TabE w (Old w.heap.size) c0 c1 c2 c3 c4 c5 c6 c7 c8 c9 c10 c11 c12 c13 c14 c15 c16 c17 c18 c19) : Calls Tryz.prog 37 #[.agg #[c0, c1, c2, c3, c4, c5, c6, c7, c8, c9, c10, c11, c12, c13, c14, c15, c16, c17, c18, c19]] w (MPost [reg, codeK.start, .bytes] w) := by
  refine (move_own w).mono ?_
  rintro e w' ⟨g, d0, d1, d2, d3, d4, g0, g1, g2, g3, g4, rfl, hH, hg, h1, h2, hb⟩
  exact ⟨_, rfl, slk3 hH hH.lt (FieldE.old hT.r hb) (FieldE.later h1 (fun b hb' => Nat.lt_trans hb'.2 hH.lt) (fun b hb' => hb'.2) (Below.refl g _)) (FieldE.later h2 (fun b hb' => Nat.lt_trans hb'.2 hH.lt) (fun b hb' => hb'.2) (Below.refl g _)), hb, fun k hk => by simp [Value.ownBlock] at hk; omega⟩
set_option maxRecDepth 100000 in
set_option maxHeartbeats 1000000 in
theorem skipM_any {c0 c1 c2 c3 c4 c5 c6 c7 c8 c9 c10 c11 c12 c13 c14 c15 c16 c17 c18 c19 : Value} (w : World) : Calls Tryz.prog 42 #[.agg #[c0, c1, c2, c3, c4, c5, c6, c7, c8, c9, c10, c11, c12, c13, c14, c15, c16, c17, c18, c19]] w (MPost [.skip] w) := by
  go_enter Tryz.func42, Tryz.ntmps42
  go_wp2_with (go_at_call 77; refine (skip_any _).mono ?_; rintro e W1 ⟨d0, d1, d2, d3, d4, rfl, hf, hb⟩; have HF := Lib.hid hf; have HB := Lib.hid hb; clear hf hb)
  go_ret
  have hb1 : Below W1.heap.size W1 (W1.alloc (.cells #[d0, d1, d2, d3, d4] 57)) := (Below.refl _ _).alloc (Nat.le_refl _) _
  have hb := HB.out
  have hz := hb.size
  simp at hz
  refine ⟨_, rfl, ?_, (Below.trans (by repeat' (first | (with_reducible assumption) | (with_reducible refine Below.setCell ?_ ?_ _) | (with_reducible refine Below.alloc ?_ ?_ _) | (with_reducible refine Below.drew ?_) | (with_reducible refine below_drewN ?_ _) | (with_reducible exact Below.refl _ _) | (show _ ≤ _; (try simp); (try omega); done) | exact Below.refl _ _ | assumption)) (hb.mono (by (try simp); (try omega)))).alloc (by omega) _, fun k hk => by simp [Value.ownBlock] at hk; omega⟩
  refine SlK.whole (l := [Fk.skip]) (cs := [d0, d1, d2, d3, d4]) (has_new _ _ _ _ rfl) rfl (by simp) (by simp [maxLen]) fun i x hi => ?_
  match i, hi with
  | 0, hi => cases hi; exact FieldE.iv HF.out hb1
  | n + 1, hi => simp at hi
end codeW
end Go.Proofs.YtbopooanmpcepaaGreatDoor
