/- Texts of this claim, one behind the other. No condition but those that each states. -/
import Derived.Test.YtbbfpbmogklomaaGreatDoorZKm
import Derived.Test.YtbbfpbmogklomaaGreatDoorZCodeDe
import Derived.Test.YtbbfpbmogklomaaGreatDoorZCodeSi
import Derived.Test.YtbbfpbmogklomaaGreatDoorZKb

namespace Go.Proofs.YtbbfpbmogklomaaGreatDoor
open Go.RowKit Go.Bus Go.Bus.cellK Go.Bus.codeK
set_option linter.unusedVariables false
set_option linter.unusedSimpArgs false
namespace codeW
theorem elt_flat : ∀ (p : List Ins) (i : Nat) (x : Ins), p[i]? = some x → eltOf 5 (p.flatMap insC) i = insC x
  | [], i, x, h => by simp at h
  | y :: p, 0, x, h => by simp at h; subst h; rfl
  | y :: p, i + 1, x, h => by
    have ih := elt_flat p i x (by simpa using h)
    unfold eltOf at ih ⊢
    rw [List.flatMap_cons, Nat.add_mul, Nat.one_mul, Nat.add_comm, ← List.drop_drop, show (insC y ++ p.flatMap insC).drop 5 = p.flatMap insC from rfl]
    exact ih
/-- A row of instructions of the call's own is a slice of them. -/
theorem ins_of_own {w : World} {base : Nat} {v : Value} {p : List Ins} (h : w.ownsRow base 25 5 v p.length (p.flatMap insC)) : SlK 5 insE w (Old w.heap.size) v p :=
  ⟨_, src_of_own h (fun k hk => (h.lt k hk).2), fun i x hi => elt_flat p i x hi⟩
theorem rdAll_ok (L : Nat) : ∀ (fs : List Fk) (l r : List Int) (y z : Ins), (∀ f ∈ fs, f.ok) → (∀ c ∈ l, Byte c) → y.Ok → rdAll L fs l y = .ok (r, z) → z.Ok ∧ ∃ m, l = m ++ r
  | [], l, r, y, z, _, _, hy, h => by
    simp only [rdAll, Except.ok.injEq, Prod.mk.injEq] at h
    obtain ⟨rfl, rfl⟩ := h
    exact ⟨hy, [], rfl⟩
  | f :: fs, l, r, y, z, hf, hb, hy, h => by
    rw [rdAll_error] at h
    split at h
    · cases h
    · cases h
    · rename_i r1 y1 he
      obtain ⟨_, _, _, m, hm⟩ := rdF_inv hb he
      obtain ⟨h1, m2, hm2⟩ := rdAll_ok L fs r1 r y1 z (fun g hg => hf g (List.mem_cons_of_mem _ hg)) (fun c hc => hb c (by rw [hm]; exact List.mem_append_right _ hc)) (rdF_ok (hf f (List.mem_cons_self ..)) hb hy he) h
      exact ⟨h1, m ++ m2, by rw [hm, hm2, List.append_assoc]⟩
theorem dec_ok (L : Nat) : ∀ (n : Nat) (l : List Int) (p q : List Ins), l.length ≤ n → (∀ c ∈ l, Byte c) → (∀ x ∈ p, x.Ok) → decGo L l p = .ok q → ∀ x ∈ q, x.Ok := by
  intro n
  induction n with
  | zero =>
    intro l p q hl hb hp h
    obtain rfl := List.eq_nil_of_length_eq_zero (by omega : l.length = 0)
    rw [decGo_nil] at h; cases h; exact hp
  | succ n ih =>
    intro l p q hl hb hp h
    cases l with
    | nil => rw [decGo_nil] at h; cases h; exact hp
    | cons c r =>
      rw [decGo_cons] at h
      split at h
      · cases h
      · split at h
        · cases h
        · rename_i fs hf
          split at h
          · cases h
          · rename_i r' x hr
            split at h
            · split at h
              · obtain ⟨hx, m, hm⟩ := rdAll_ok L fs r r' (zero c) x (fields_ok hf) (fun d hd => hb d (List.mem_cons_of_mem _ hd)) (zero_ok (hb c (List.mem_cons_self ..))) hr
                refine ih r' (p ++ [x]) q (by simp at hl; omega) (fun d hd => hb d (List.mem_cons_of_mem _ (by rw [hm]; exact List.mem_append_right _ hd))) (fun y hy => ?_) h
                rcases List.mem_append.1 hy with h1 | h1
                · exact hp y h1
                · simp at h1; subst h1; exact hx
              · cases h
            · cases h
end codeW
end Go.Proofs.YtbbfpbmogklomaaGreatDoor

namespace Go.Proofs.YtbbfpbmogklomaaGreatDoor
open Go.RowKit Go.Bus Go.Bus.cellK Go.Bus.codeK
set_option linter.unusedVariables false
set_option linter.unusedSimpArgs false
namespace codeW
set_option maxRecDepth 100000 in
set_option maxHeartbeats 1000000 in
theorem encode_many {p : List Ins} {v : Value} (w : World) (h : SlK 5 insE w (Old w.heap.size) v p) (hl : 16384 < p.length) : Calls Tryz.prog 10 #[v] w fun e w' => e = .returned (.tuple #[.slice none 0 0, .iface 50 (.int .i64 5)]) ∧ Below w.heap.size w w' := by
  obtain ⟨A, cap, rfl, hcap, hmax⟩ := h.form
  clear h
  unfold maxLen at hmax
  have d1 : decide (16384 < (p.length : Int)) = true := by simp; omega
  go_enter Tryz.func10, Tryz.ntmps10
  go_wp2
  go_ret2
  exact ⟨rfl, Below.refl _ _⟩
/-- What Encode comes to, of any program, where it is no bytes. -/
inductive Bad : Value → Prop
  | many : Bad (.iface 50 (.int .i64 5))
  | op (i : Nat) : Bad (faultV 20 i)
def good (p : List Ins) : Prop := p.length ≤ 16384 ∧ ∀ x ∈ p, rightB x = true
theorem firstBad_none {p : List Ins} (h : firstBad p = none) : ∀ x ∈ p, rightB x = true := by
  unfold firstBad at h
  rw [List.findIdx?_eq_none_iff] at h
  intro x hx
  have := h x hx
  simpa using this
theorem encode_bad {p : List Ins} {v : Value} (w : World) (h : SlK 5 insE w (Old w.heap.size) v p) (hp : ∀ x ∈ p, x.Ok) (hg : ¬ good p) : Calls Tryz.prog 10 #[v] w fun e w' => ∃ ev, e = .returned (.tuple #[.slice none 0 0, ev]) ∧ Bad ev ∧ Below w.heap.size w w' := by
  by_cases hl : p.length ≤ 16384
  · refine (encode_any w h hp hl).mono fun e w' he => ?_
    unfold EncPost at he
    cases hb : firstBad p with
    | none => exact absurd ⟨hl, firstBad_none hb⟩ hg
    | some i => rw [hb] at he; exact ⟨_, he.1, .op i, he.2⟩
  · refine (encode_many w h (by omega)).mono fun e w' he => ?_
    exact ⟨_, he.1, .many, he.2⟩
theorem encode_good {p : List Ins} {v : Value} (w : World) (h : SlK 5 insE w (Old w.heap.size) v p) (hp : ∀ x ∈ p, x.Ok) (hg : good p) : Calls Tryz.prog 10 #[v] w fun e w' => ∃ A c, e = .returned (.tuple #[.slice A (encP p).length c, .nilIface]) ∧ w'.ownsRow w.heap.size 5 1 (.slice A (encP p).length c) (encP p).length ((encP p).map byteV) ∧ Below w.heap.size w w' := by
  refine (encode_any w h hp hg.1).mono fun e w' he => ?_
  obtain ⟨u, rfl, ho, hB⟩ := he.yes (bad_none hg.2)
  obtain ⟨A, c, rfl⟩ := own_slice ho
  exact ⟨A, c, rfl, ho, hB⟩
end codeW
end Go.Proofs.YtbbfpbmogklomaaGreatDoor

namespace Go.Proofs.YtbbfpbmogklomaaGreatDoor
open Go.RowKit Go.Bus Go.Bus.cellK Go.Bus.codeK
set_option linter.unusedVariables false
set_option linter.unusedSimpArgs false
namespace codeW
set_option maxRecDepth 100000 in
set_option maxHeartbeats 1000000 in
theorem only_any {v : Value} {bs : List Int} (w : World) (h : Sl w w.heap.size byteV v bs) (hb : ∀ c ∈ bs, Byte c) : Calls Tryz.prog 18 #[v] w fun e w' => e = .returned (.bool true) ∧ Below w.heap.size w w' := by
  have HD := Lib.hid (decode_any w h hb)
  have HS := Lib.hid h
  cases hd : decGo bs.length bs [] with
  | error ek =>
    obtain ⟨no, k⟩ := ek
    have HDD : Hid (Calls Tryz.prog 22 #[v] w fun e w' => e = .returned (.tuple #[.slice none 0 0, faultV no k]) ∧ Below w.heap.size w w') := Lib.hid (HD.out.mono fun e w' h => by unfold DecPost at h; rw [hd] at h; exact h)
    clear hd HD h hb
    go_enter Tryz.func18, Tryz.ntmps18
    go_wp2_with (first
      | (go_at_call 22; refine HDD.out.mono ?_; unfold faultV; rintro e w1 ⟨rfl, hB⟩; have HB := Lib.hid hB; clear hB)
      | (go_at_call 11; refine (works_any _).mono ?_; rintro e w2 ⟨rfl, hB2⟩; have HB2 := Lib.hid hB2; clear hB2))
    go_ret
    exact ⟨rfl, HB.out.trans (HB2.out.mono HB.out.size)⟩
  | ok p =>
    obtain ⟨p', hp1, hp2, hp3, hp4⟩ := dec_only bs.length bs.length bs [] p (Nat.le_refl _) hb (by simp) hd
    rw [List.nil_append] at hp1
    subst hp1
    have hok := dec_ok bs.length bs.length bs [] p (Nat.le_refl _) hb (by simp) hd
    have HDD : Hid (Calls Tryz.prog 22 #[v] w fun e w' => ∃ u, e = .returned (.tuple #[u, .nilIface]) ∧ w'.ownsRow w.heap.size 25 5 u p.length (p.flatMap insC) ∧ Below w.heap.size w w') := Lib.hid (HD.out.mono fun e w' h => by unfold DecPost at h; rw [hd] at h; exact h)
    have HP2 := Lib.hid hp2
    have HP3 := Lib.hid hp3
    have HP4 := Lib.hid hp4
    have HOK := Lib.hid hok
    clear hd HD h hb hp2 hp3 hp4 hok
    go_enter Tryz.func18, Tryz.ntmps18
    go_wp2_with (first
      | (go_at_call 22; refine HDD.out.mono ?_; rintro e w1 ⟨u, rfl, ho, hB⟩; have HI := Lib.hid (ins_of_own ho); have HB := Lib.hid hB; clear ho hB)
      | (go_at_call 10; refine (encode_any _ HI.out HOK.out HP4.out).mono ?_; intro e w2 h; obtain ⟨u2, rfl, ho2, hB2⟩ := h.yes (bad_none HP3.out); rw [← HP2.out] at ho2; have HO2 := Lib.hid ho2; have HB2 := Lib.hid hB2; clear h ho2 hB2)
      | (go_at_call 11; refine (works_any _).mono ?_; rintro e w3 ⟨rfl, hB3⟩; have HB3 := Lib.hid hB3; clear hB3)
      | (go_at_call 12; refine (samebytes_any (l := bs) (m := bs) _ (((Sl.of_own HO2.out).below HB3.out).more HB3.out.size) ((HS.out.below (HB.out.trans ((HB2.out.mono HB.out.size).trans (HB3.out.mono (Nat.le_trans HB.out.size HB2.out.size))))).more (Nat.le_trans HB.out.size (Nat.le_trans HB2.out.size HB3.out.size)))).mono ?_; rw [decide_eq_true rfl]; rintro e w4 ⟨rfl, hB4⟩; have HB4 := Lib.hid hB4; clear hB4))
    go_ret
    exact ⟨rfl, HB.out.trans ((HB2.out.mono HB.out.size).trans ((HB3.out.mono (Nat.le_trans HB.out.size HB2.out.size)).trans (HB4.out.mono (Nat.le_trans HB.out.size (Nat.le_trans HB2.out.size HB3.out.size)))))⟩
end codeW
end Go.Proofs.YtbbfpbmogklomaaGreatDoor

namespace Go.Proofs.YtbbfpbmogklomaaGreatDoor
open Go.RowKit Go.Bus Go.Bus.cellK Go.Bus.codeK
set_option linter.unusedVariables false
set_option linter.unusedSimpArgs false
namespace codeW
theorem encP_bytes (p : List Ins) (w : World) {base : Nat} {u : Value} (h : w.ownsRow base 5 1 u (encP p).length ((encP p).map byteV)) : Sl w w.heap.size byteV u (encP p) := Sl.of_own h
theorem firstBad_at {p : List Ins} {i : Nat} (h : firstBad p = some i) : ∃ hi : i < p.length, rightB p[i] = false := by
  unfold firstBad at h
  rw [List.findIdx?_eq_some_iff_getElem] at h
  obtain ⟨hi, h1, _⟩ := h
  exact ⟨hi, by simpa using h1⟩
set_option maxRecDepth 100000 in
set_option maxHeartbeats 1000000 in
theorem there_good {p : List Ins} {v : Value} (w : World) (h : SlK 5 insE w (Old w.heap.size) v p) (hp : ∀ x ∈ p, x.Ok) (hg : good p) (hby : ∀ c ∈ encP p, Byte c) : Calls Tryz.prog 16 #[v] w fun e w' => e = .returned (.bool true) ∧ Below w.heap.size w w' := by
  have HE := Lib.hid (encode_good w h hp hg)
  have HP := Lib.hid h
  have hd : decGo (encP p).length (encP p) [] = .ok p := by
    have := dec_there (encP p).length p [] (fun x hx => ⟨hg.2 x hx, hp x hx⟩) (by have := hg.1; simp; omega)
    rw [List.nil_append] at this; exact this
  have HD : ∀ (W : World) (u : Value), Sl W W.heap.size byteV u (encP p) → Hid (Calls Tryz.prog 22 #[u] W fun e w' => ∃ q, e = .returned (.tuple #[q, .nilIface]) ∧ w'.ownsRow W.heap.size 25 5 q p.length (p.flatMap insC) ∧ Below W.heap.size W w') := fun W u hs => Lib.hid ((decode_any W hs hby).mono fun e w' h => by unfold DecPost at h; rw [hd] at h; exact h)
  have HDD := Lib.hid HD
  clear h hp hg hby hd HD
  go_enter Tryz.func16, Tryz.ntmps16
  go_wp2_with fail
  refine HE.out.mono ?_
  rintro e w1 ⟨A1, c1, rfl, ho1, hB⟩
  have HO1 := Lib.hid ho1
  have HB := Lib.hid hB
  have HP1 := Lib.hid (HP.out.later insE_mono hB)
  clear hB ho1
  go_wp2_with fail
  refine (works_any _).mono ?_
  rintro e w2 ⟨rfl, hB2⟩
  have HS2 := Lib.hid (encP_bytes p _ (own_kept HO1.out hB2))
  have HP2 := Lib.hid (HP1.out.later insE_mono hB2)
  have HB2 := Lib.hid (HB.out.trans (hB2.mono HB.out.size))
  clear hB2
  go_wp2_with fail
  refine (HDD.out _ _ HS2.out).out.mono ?_
  rintro e w3 ⟨q, rfl, ho3, hB3⟩
  have HQ := Lib.hid (ins_of_own ho3)
  have HP3 := Lib.hid (HP2.out.later insE_mono hB3)
  have HB3 := Lib.hid (HB2.out.trans (hB3.mono HB2.out.size))
  clear hB3 ho3
  go_wp2_with fail
  refine (sameinstrs_any _ HQ.out HP3.out).mono ?_
  rintro e w4 ⟨rfl, n, rfl⟩
  go_wp2
  go_ret
  exact ⟨rfl, Go.Bus.below_drewN HB3.out _⟩
set_option maxRecDepth 100000 in
set_option maxHeartbeats 1000000 in
theorem there_bad {p : List Ins} {v : Value} (w : World) (h : SlK 5 insE w (Old w.heap.size) v p) (hp : ∀ x ∈ p, x.Ok) (hl : p.length ≤ 16384) (i : Nat) (hb : firstBad p = some i) (hG : asK.ErrT w) : Calls Tryz.prog 16 #[v] w fun e w' => e = .returned (.bool true) ∧ Below w.heap.size w w' := by
  obtain ⟨A, cap, rfl, _, _⟩ := h.form
  have HE : Hid (Calls Tryz.prog 10 #[.slice A p.length cap] w fun e w' => e = .returned (.tuple #[.slice none 0 0, faultV 20 i]) ∧ Below w.heap.size w w') := Lib.hid ((encode_any w h hp hl).mono fun e w' he => by unfold EncPost at he; rw [hb] at he; exact he)
  obtain ⟨hi, hr⟩ := firstBad_at hb
  have HP := Lib.hid h
  have HPB := Lib.hid (fun W => print_bad W (hp _ (List.getElem_mem hi)) hr)
  have HG := Lib.hid hG
  have HH := Lib.hid hi
  have d1 : decide (16384 < (p.length : Int)) = false := by simp; omega
  have d2 : decide ((p.length : Int) ≤ (i : Int)) = false := by simp; omega
  have d3 : decide ((i : Int) < 0) = false := by simp
  have hb1 : (0 : Int) ≤ (i : Int) := Int.natCast_nonneg _
  have hb2 : (i : Int) < (p.length : Int) := by omega
  clear h hp hb hr hG
  go_enter Tryz.func16, Tryz.ntmps16
  go_wp2_with fail
  refine HE.out.mono ?_
  unfold faultV
  rintro e w1 ⟨rfl, hB⟩
  have HG1 := Lib.hid (HG.out.at_below hB)
  have HB := Lib.hid hB
  clear hB
  go_wp2_with fail
  refine (works_any _).mono ?_
  rintro e w2 ⟨rfl, hB2⟩
  have HG2 := Lib.hid (HG1.out.at_below hB2)
  have HB2 := Lib.hid (HB.out.trans (hB2.mono HB.out.size))
  clear hB2
  go_wp2_with fail
  refine (asK.place_fault 20 0 i _ (by omega) (by omega) HG2.out).mono ?_
  rintro e w3 ⟨rfl, hB3⟩
  have HG3 := Lib.hid (HG2.out.at_below hB3)
  have HB3 := Lib.hid (HB2.out.trans (hB3.mono HB2.out.size))
  have HP3 := Lib.hid (HP.out.below insE_mono HB3.out)
  clear hB3
  obtain ⟨b, off, rfl, _, c0, c1, c2, c3, c4⟩ := ins_get HP3.out HH.out
  have HPC : Hid (∀ W, Calls Tryz.prog 9 #[.agg #[.int .i64 (p[i]'HH.out).op, .int .i64 (p[i]'HH.out).a, .int .i64 (p[i]'HH.out).b, .int .i64 (p[i]'HH.out).n, .int .u64 (p[i]'HH.out).imm]] W fun e w' => e = .returned (.tuple #[.string ⟨#[]⟩, .iface 50 (.int .i64 20)]) ∧ Below W.heap.size W w') := HPB
  go_wp2_with fail
  refine (HPC.out _).mono ?_
  rintro e w4 ⟨rfl, hB4⟩
  have HG4 := Lib.hid (HG3.out.at_below hB4)
  have HB4 := Lib.hid (HB3.out.trans (hB4.mono HB3.out.size))
  clear hB4
  go_wp2_with fail
  refine (asK.plain_no 20 _ (by omega) (by omega) HG4.out).mono ?_
  rintro e w5 ⟨rfl, hB5⟩
  have HB5 := Lib.hid (HB4.out.trans (hB5.mono HB4.out.size))
  clear hB5
  go_wp2
  go_ret
  exact ⟨rfl, HB5.out⟩
set_option maxRecDepth 100000 in
set_option maxHeartbeats 1000000 in
theorem there_many {p : List Ins} {v : Value} (w : World) (h : SlK 5 insE w (Old w.heap.size) v p) (hl : 16384 < p.length) : Calls Tryz.prog 16 #[v] w fun e w' => e = .returned (.bool true) ∧ Below w.heap.size w w' := by
  obtain ⟨A, cap, rfl, _, _⟩ := h.form
  have HE := Lib.hid (encode_many w h hl)
  have d1 : decide (16384 < (p.length : Int)) = true := by simp; omega
  clear h
  go_enter Tryz.func16, Tryz.ntmps16
  go_wp2_with fail
  refine HE.out.mono ?_
  rintro e w1 ⟨rfl, hB⟩
  have HB := Lib.hid hB
  clear hB
  go_wp2_with fail
  refine (works_any _).mono ?_
  rintro e w2 ⟨rfl, hB2⟩
  have HB2 := Lib.hid (HB.out.trans (hB2.mono HB.out.size))
  clear hB2
  go_wp2
  go_ret
  exact ⟨rfl, HB2.out⟩
theorem there_any {p : List Ins} {v : Value} (w : World) (h : SlK 5 insE w (Old w.heap.size) v p) (hp : ∀ x ∈ p, x.Ok) (hG : asK.ErrT w) : Calls Tryz.prog 16 #[v] w fun e w' => e = .returned (.bool true) ∧ Below w.heap.size w w' := by
  rcases Nat.lt_or_ge 16384 p.length with hl | hl
  · exact there_many w h hl
  · cases hb : firstBad p with
    | some i => exact there_bad w h hp hl i hb hG
    | none => exact there_good w h hp ⟨hl, firstBad_none hb⟩ (fun c hc => by unfold encP at hc; rw [List.mem_flatMap] at hc; obtain ⟨x, hx, h9⟩ := hc; exact encI_byte (firstBad_none hb x hx) c h9)
end codeW
end Go.Proofs.YtbbfpbmogklomaaGreatDoor
