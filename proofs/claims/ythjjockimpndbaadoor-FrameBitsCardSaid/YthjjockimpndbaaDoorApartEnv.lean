/- What stays while ApartBools turns bools: the headers of rows, what lies below. Plain. -/
import Derived.Test.YthjjockimpndbaaDoorFlip
import Derived.Test.YthjjockimpndbaaDoorPut
namespace Go.Proofs.YthjjockimpndbaaDoor
open Go.RowKit Go.Bus Go.Bus.farmK Go.Bus.flipK
set_option linter.unusedVariables false
namespace apartK
structure Env (w wr : World) (q base gg cg wsz : Nat) (rows F Wl : List (Value × List Bool)) (was : Value) : Prop where
  was_ : wr.ownsRow wsz 48 1 was rows.length (Wl.map (·.1))
  gs_ : wr.ownsRow w.heap.size 48 1 (.slice (some ⟨gg, 0, none⟩) rows.length cg) rows.length (F.map (·.1))
  q_ : Has wr q 48 (rows.map (·.1)).toArray
  bel : Below base w wr
  sz : wsz ≤ wr.heap.size
section
variable {w wr : World} {q base gg cg wsz : Nat} {rows F Wl : List (Value × List Bool)} {was : Value}
theorem Env.drewN (h : Env w wr q base gg cg wsz rows F Wl was) (n : Nat) : Env w (wr.drewN n) q base gg cg wsz rows F Wl was :=
  ⟨h.was_, h.gs_, h.q_, below_drewN h.bel n, h.sz⟩
theorem Env.store (h : Env w wr q base gg cg wsz rows F Wl was) {g n c : Nat} {xs : List Value} (ho : wr.ownsRow base 4 1 (.slice (some ⟨g, 0, none⟩) n c) n xs) (t : Nat) (u : Value) :
    Env w (wr.setCell ⟨g, t, none⟩ u) q base gg cg wsz rows F Wl was := by
  have hg : wr.grownBy (wr.setCell ⟨g, t, none⟩ u) (some g) := only_set (World.grownBy.refl _ _) t u
  have hne : ∀ {bb m : Nat} {v : Value} {ys : List Value}, wr.ownsRow bb 48 1 v m ys → v.ownBlock = none ∨ v.ownBlock ≠ some g := by
    intro bb m v ys hv
    cases hvb : v.ownBlock with
    | none => exact .inl rfl
    | some r => exact .inr fun he => own_ne_own hv ho (by decide) r hvb he.symm
  refine ⟨h.was_.kept hg (hne h.was_), h.gs_.kept hg (hne h.gs_), h.q_.far (p := ⟨g, t, none⟩) (fun e => own_has_ne ho h.q_ (by decide) (by rw [e]; rfl)) u, h.bel.setCell (p := ⟨g, t, none⟩) (ho.lt g (by rfl)).1 u, ?_⟩
  rw [World.size_setCell]; exact h.sz
end
end apartK
end Go.Proofs.YthjjockimpndbaaDoor
