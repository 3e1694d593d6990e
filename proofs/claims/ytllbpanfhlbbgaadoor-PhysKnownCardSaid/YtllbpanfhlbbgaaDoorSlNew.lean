/- A slice that lies whole in one block from its first cell on. Plain. -/
import Derived.Test.YtllbpanfhlbbgaaDoorCells
namespace Go.Bus.cellK
open Go.RowKit Go.Bus
theorem SlK.whole {α : Type} {k g : Nat} {R : Rel α} {w : World} {F : Foot} {T : TypeId} {l : List α} {cs : List Value} (h : Has w g T cs.toArray) (hl : cs.length = l.length * k) (hF : F g) (hm : l.length ≤ maxLen)
    (he : ∀ i x, l[i]? = some x → R w F (eltOf k cs i) x) : SlK k R w F (.slice (some ⟨g, 0, none⟩) l.length l.length) l :=
  ⟨cs, ⟨_, _, rfl, Nat.le_refl _, hm, hl, fun _ => ⟨g, 0, rfl, hF, fun j v hj => by
    rw [Nat.zero_add, h.cell j]
    simpa using hj⟩⟩, he⟩
end Go.Bus.cellK
