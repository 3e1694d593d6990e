/- works: a move has three bytes; what is decoded is right. No condition. -/
import Derived.Test.YtdjippdcgfcfgaaGreatDoorCodeEw
import Derived.Test.YtdjippdcgfcfgaaGreatDoorCodeDe
import Derived.Test.YtdjippdcgfcfgaaGreatDoorCodeBy
namespace Go.Proofs.YtdjippdcgfcfgaaGreatDoor
open Go.RowKit Go.Bus Go.Bus.cellK Go.Bus.codeK
set_option linter.unusedVariables false
set_option linter.unusedSimpArgs false
namespace codeW
theorem elt_flat : ∀ (p : List Ins) (i : Nat) (x : Ins), p[i]? = some x → eltOf 5 (p.flatMap insC) i = insC x
  | [], i, x, h => by simp at h
  | y :: p, 0, x, h => by simp at h; subst h; rfl
  | y :: p, i + 1, x, h => by
    have ih := elt_flat p i x (by simpa using h)
    unfold eltOf at ih ⊢
    rw [List.flatMap_cons, Nat.add_mul, Nat.one_mul, Nat.add_comm, ← List.drop_drop, show (insC y ++ p.flatMap insC).drop 5 = p.flatMap insC from rfl]
    exact ih
/-- A row of instructions of the call's own is a slice of them. -/
theorem ins_of_own {w : World} {base : Nat} {v : Value} {p : List Ins} (h : w.ownsRow base 35 5 v p.length (p.flatMap insC)) : SlK 5 insE w (Old w.heap.size) v p :=
  ⟨_, src_of_own h (fun k hk => (h.lt k hk).2), fun i x hi => elt_flat p i x hi⟩
theorem rdAll_ok (L : Nat) : ∀ (fs : List Fk) (l r : List Int) (y z : Ins), (∀ f ∈ fs, f.ok) → (∀ c ∈ l, Byte c) → y.Ok → rdAll L fs l y = .ok (r, z) → z.Ok ∧ ∃ m, l = m ++ r
  | [], l, r, y, z, _, _, hy, h => by
    simp only [rdAll, Except.ok.injEq, Prod.mk.injEq] at h
    obtain ⟨rfl, rfl⟩ := h
    exact ⟨hy, [], rfl⟩
  | f :: fs, l, r, y, z, hf, hb, hy, h => by
    rw [rdAll_error] at h
    split at h
    · cases h
    · cases h
    · rename_i r1 y1 he
      obtain ⟨_, _, _, m, hm⟩ := rdF_inv hb he
      obtain ⟨h1, m2, hm2⟩ := rdAll_ok L fs r1 r y1 z (fun g hg => hf g (List.mem_cons_of_mem _ hg)) (fun c hc => hb c (by rw [hm]; exact List.mem_append_right _ hc)) (rdF_ok (hf f (List.mem_cons_self ..)) hb hy he) h
      exact ⟨h1, m ++ m2, by rw [hm, hm2, List.append_assoc]⟩
theorem dec_ok (L : Nat) : ∀ (n : Nat) (l : List Int) (p q : List Ins), l.length ≤ n → (∀ c ∈ l, Byte c) → (∀ x ∈ p, x.Ok) → decGo L l p = .ok q → ∀ x ∈ q, x.Ok := by
  intro n
  induction n with
  | zero =>
    intro l p q hl hb hp h
    obtain rfl := List.eq_nil_of_length_eq_zero (by omega : l.length = 0)
    rw [decGo_nil] at h; cases h; exact hp
  | succ n ih =>
    intro l p q hl hb hp h
    cases l with
    | nil => rw [decGo_nil] at h; cases h; exact hp
    | cons c r =>
      rw [decGo_cons] at h
      split at h
      · cases h
      · split at h
        · cases h
        · rename_i fs hf
          split at h
          · cases h
          · rename_i r' x hr
            split at h
            · split at h
              · obtain ⟨hx, m, hm⟩ := rdAll_ok L fs r r' (zero c) x (fields_ok hf) (fun d hd => hb d (List.mem_cons_of_mem _ hd)) (zero_ok (hb c (List.mem_cons_self ..))) hr
                refine ih r' (p ++ [x]) q (by simp at hl; omega) (fun d hd => hb d (List.mem_cons_of_mem _ (by rw [hm]; exact List.mem_append_right _ hd))) (fun y hy => ?_) h
                rcases List.mem_append.1 hy with h1 | h1
                · exact hp y h1
                · simp at h1; subst h1; exact hx
              · cases h
            · cases h
theorem EncPost.yes {p : List Ins} {w : World} {e : Ending} {w' : World} (h : EncPost p w e w') (hb : firstBad p = none) : ∃ u, e = .returned (.tuple #[u, .nilIface]) ∧ w'.ownsRow w.heap.size 5 1 u (encP p).length ((encP p).map byteV) ∧ Below w.heap.size w w' := by
  unfold EncPost at h; rw [hb] at h; exact h
def mv3 : Ins := ⟨2, 1, 15, 0, 0⟩
theorem mv3_right : rightB mv3 = true := by decide
theorem mv3_enc : encP [mv3] = [2, 1, 15] := by decide
theorem mv3_ok : mv3.Ok := ⟨by decide, by decide, by decide, by decide, by decide⟩
set_option maxRecDepth 100000 in
set_option maxHeartbeats 1000000 in
theorem works_any (w : World) : Calls Tryz.prog 7 #[] w fun e w' => e = .returned (.bool true) ∧ Below w.heap.size w w' := by
  have hS : SlK 5 insE (w.alloc (.cells #[.int .i64 2, .int .i64 1, .int .i64 15, .int .i64 0, .int .u64 0] 35)) (Old (w.alloc (.cells #[.int .i64 2, .int .i64 1, .int .i64 15, .int .i64 0, .int .u64 0] 35)).heap.size) (.slice (some ⟨w.heap.size, 0, none⟩) 1 1) [mv3] :=
    SlK.whole (l := [mv3]) (cs := insC mv3) (Has.new w _ _) rfl (by simp) (by simp [maxLen]) fun i x hi => by
      match i, hi with
      | 0, hi => cases hi; rfl
      | n + 1, hi => simp at hi
  have HE := Lib.hid (encode_any _ hS (fun x hx => by simp at hx; subst hx; exact mv3_ok) (by simp))
  clear hS
  go_enter Tryz.func7, Tryz.ntmps7
  go_wp2_with (first
    | (go_at_call 6; refine HE.out.mono ?_; intro e w1 h; obtain ⟨u, rfl, ho, hB⟩ := h.yes (bad_none (fun x hx => by simp at hx; subst hx; exact mv3_right)); rw [mv3_enc] at ho; have HO := Lib.hid ho; have HB : Hid (Below w.heap.size w w1) := Lib.hid (Below.trans (by repeat' (first | (with_reducible assumption) | (with_reducible refine Below.setCell ?_ ?_ _) | (with_reducible refine Below.alloc ?_ ?_ _) | (with_reducible refine Below.drew ?_) | (with_reducible refine below_drewN ?_ _) | (with_reducible exact Below.refl _ _) | (show _ ≤ _; (try simp); (try omega); done) | exact Below.refl _ _ | assumption)) (hB.mono (by (try simp); (try omega)))); clear h ho hB)
    | (go_at_call 15; refine (samebytes_any (l := [2, 1, 15]) (m := [2, 1, 15]) _ (by exact (Sl.of_own HO.out).alloc (Nat.le_refl _) _ |>.more (by simp)) (by exact Sl.of_own (f := byteV) (l := [2, 1, 15]) (own_of_has (base := 0) (size := 1) (n := 3) (Has.new w1 _ _) rfl (Nat.zero_le _) (by simp [maxLen])))).mono ?_; rintro e w3 ⟨rfl, hB3⟩; have HB3 := Lib.hid hB3; clear hB3))
  go_ret
  exact ⟨rfl, HB.out.trans ((((Below.refl _ _).alloc (Nat.le_refl _) _).trans (HB3.out.mono (by simp))).mono HB.out.size)⟩
end codeW
end Go.Proofs.YtdjippdcgfcfgaaGreatDoor
