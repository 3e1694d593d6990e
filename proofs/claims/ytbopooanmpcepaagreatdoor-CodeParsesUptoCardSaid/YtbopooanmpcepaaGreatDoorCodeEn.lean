/- right of any instruction; what a writer's memory keeps; Encode's pieces. No condition. -/
import Derived.Test.YtbopooanmpcepaaGreatDoorCodeRy
namespace Go.Proofs.YtbopooanmpcepaaGreatDoor
open Go.RowKit Go.Bus Go.Bus.cellK Go.Bus.codeK
set_option linter.unusedVariables false
set_option linter.unusedSimpArgs false
namespace codeW
theorem right_any {x : Ins} {mv : Value} (w : World) (hM : MadeE w (Old w.heap.size) mv) (hx : x.Ok) : Calls Tryz.prog 15 #[mv, .agg (insC x).toArray] w fun e w' => e = .returned (.bool (rightB x)) ∧ Below w.heap.size w w' := by
  cases hf : fieldsOf x.op with
  | none =>
    refine (right_no w hM hf).mono ?_
    rintro e w' ⟨rfl, hb⟩
    exact ⟨by unfold rightB; rw [hf], hb⟩
  | some fs => exact right_yes w hM hf hx
theorem Boxes.avoid {w : World} {F : Foot} {h : Wh} {lo hi : Int} {s : ByteArray} {b0 b1 b2 b3 g T : Nat} {cs : Array Value} (k : Boxes w F h lo hi s b0 b1 b2 b3) (hg : Has w g T cs) (h1 : T ≠ 105) (h2 : T ≠ 3) (h3 : T ≠ 9) : Boxes w (fun b => F b ∧ b ≠ g) h lo hi s b0 b1 b2 b3 := by
  have key : ∀ {b T' : Nat} {cs' : Array Value}, Has w b T' cs' → T ≠ T' → b ≠ g := by
    intro b T' cs' hb hne e
    subst e
    unfold Has at hb hg
    rw [hb] at hg
    cases hg
    exact hne rfl
  exact ⟨⟨k.f0, key k.h0 h1⟩, ⟨k.f1, key k.h1 h2⟩, ⟨k.f2, key k.h2 h2⟩, ⟨k.f3, key k.h3 h3⟩, k.h0, k.h1, k.h2, k.h3⟩
theorem FieldE.avoid {w : World} {F : Foot} {cs : List Value} {f : Fk} {g T : Nat} {cg : Array Value} (h : FieldE w F cs f) (hg : Has w g T cg) (h1 : T ≠ 105) (h2 : T ≠ 3) (h3 : T ≠ 9) : FieldE w (fun b => F b ∧ b ≠ g) cs f := by
  obtain ⟨b0, b1, b2, b3, hc, hB⟩ := h
  exact ⟨b0, b1, b2, b3, hc, fun h' lo hi s e => (hB h' lo hi s e).avoid hg h1 h2 h3⟩
theorem slk_avoid {w : World} {F : Foot} {v : Value} {fs : List Fk} {g T : Nat} {cg : Array Value} (h : SlK 5 FieldE w F v fs) (ho : ∀ k, v.ownBlock = some k → k ≠ g) (hg : Has w g T cg) (h1 : T ≠ 105) (h2 : T ≠ 3) (h3 : T ≠ 9) : SlK 5 FieldE w (fun b => F b ∧ b ≠ g) v fs := by
  obtain ⟨xs, ⟨A, cap, rfl, hl, hc, hx, h0⟩, hR⟩ := h
  refine ⟨xs, ⟨A, cap, rfl, hl, hc, hx, fun hn => ?_⟩, fun i x hi => (hR i x hi).avoid hg h1 h2 h3⟩
  obtain ⟨b, off, rfl, hb, hr⟩ := h0 hn
  exact ⟨b, off, rfl, ⟨hb, ho b rfl⟩, hr⟩
/-- Fields that a writer's turns leave as they are. -/
def Far (w : World) (G : Nat) (bv : Value) : Foot := fun b => b < w.heap.size ∧ b ≠ G ∧ bv.ownBlock ≠ some b
theorem slk_far {w : World} {v : Value} {fs : List Fk} {G base H : Nat} {bv : Value} {bs : List Int} {x : Ins} (h : SlK 5 FieldE w (Old w.heap.size) v fs) (ho : ∀ k, v.ownBlock = some k → H ≤ k) (hW : Wr w G base bv bs x) (hG : G < H) (hb : ∀ k, bv.ownBlock = some k → k < H) : SlK 5 FieldE w (Far w G bv) v fs := by
  have h1 := slk_avoid h (g := G) (fun k hk => by have := ho k hk; omega) hW.1 (by decide) (by decide) (by decide)
  rcases hW.2.2 with ⟨rfl, _⟩ | ⟨g, cap, cur, rfl, _, hg, _⟩
  · exact h1.more FieldE_mono fun b hb' => ⟨hb'.1, hb'.2, by simp [Value.ownBlock]⟩
  · have h2 := slk_avoid h1 (g := g) (fun k hk => by have := ho k hk; have := hb g rfl; omega) (show Has w g _ _ from hg) (by decide) (by decide) (by decide)
    exact h2.more FieldE_mono fun b hb' => ⟨hb'.1.1, hb'.1.2, by simp [Value.ownBlock]; exact fun e => hb'.2 e.symm⟩
theorem far_keep {w w' : World} {G : Nat} {bv bv' : Value} (h : Wro w w' G bv bv') : ∀ b, Far w G bv b → w'.heap[b]? = w.heap[b]? := fun b hb => h.block b hb.1 hb.2.1 hb.2.2
/-- The writer's instruction, stored anew. -/
theorem Wr.setx {w : World} {G base : Nat} {v : Value} {bs : List Int} {y x : Ins} (h : Wr w G base v bs y) (hG : G < base) :
    Wr (((((w.setCell ⟨G, 1, none⟩ (.int .i64 x.op)).setCell ⟨G, 2, none⟩ (.int .i64 x.a)).setCell ⟨G, 3, none⟩ (.int .i64 x.b)).setCell ⟨G, 4, none⟩ (.int .i64 x.n)).setCell ⟨G, 5, none⟩ (.int .u64 x.imm)) G base v bs x := by
  refine ⟨((((h.1.set 1 _).set 2 _).set 3 _).set 4 _).set 5 _, ?_⟩
  exact ownsRow_setCell_below (ownsRow_setCell_below (ownsRow_setCell_below (ownsRow_setCell_below (ownsRow_setCell_below h.2 (by exact hG) _) (by exact hG) _) (by exact hG) _) (by exact hG) _) (by exact hG) _
theorem Wro.set {w w' : World} {G : Nat} {v v' : Value} (h : Wro w w' G v v') (i : Nat) (u : Value) : Wro w (w'.setCell ⟨G, i, none⟩ u) G v v' :=
  ⟨h.os, h.tape, h.output, by simpa using h.size, fun k hk hg hv => (heap_setCell_other _ _ _ _ (by exact hg)).trans (h.block k hk hg hv), h.own⟩
def firstBad (p : List Ins) : Option Nat := p.findIdx? (fun x => !rightB x)
theorem encP_take (p : List Ins) {k : Nat} (h : k < p.length) : encP (p.take (k + 1)) = encP (p.take k) ++ encI p[k] := by
  rw [List.take_succ_eq_append_getElem h, encP_append]
  unfold encP; simp
theorem encI_len {x : Ins} (hx : x.Ok) (h : rightB x = true) : (encI x).length ≤ 41 := by
  obtain ⟨fs, h1, h2, _⟩ := right_some h
  unfold encI bodyI
  rw [h1, List.length_cons]
  have h3 := flat_len x hx fs h2
  have h4 := fields_len h1
  show (fs.flatMap (wrF · x)).length + 1 ≤ 41
  omega
theorem encP_len : ∀ (p : List Ins), (∀ x ∈ p, x.Ok ∧ rightB x = true) → (encP p).length ≤ 41 * p.length
  | [], _ => by simp [encP]
  | x :: p, h => by
    have h1 := encI_len (h x (List.mem_cons_self ..)).1 (h x (List.mem_cons_self ..)).2
    have h2 := encP_len p fun y hy => h y (List.mem_cons_of_mem _ hy)
    unfold encP at h2 ⊢
    rw [List.flatMap_cons, List.length_append, List.length_cons]
    omega
end codeW
end Go.Proofs.YtbopooanmpcepaaGreatDoor
