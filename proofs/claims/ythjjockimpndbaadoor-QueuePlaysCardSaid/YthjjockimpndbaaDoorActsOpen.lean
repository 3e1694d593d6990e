/- A list of acts (structs of two ints) that came in, opened. No condition. -/
import Derived.Test.YthjjockimpndbaaDoorIntsOpen
import Derived.Deep.SlicePairs
import Derived.ChangeArms
namespace Go.Proofs.YthjjockimpndbaaDoor
open Go.RowKit Go.Bus Go.Joins Go.ChangeShapes Go.WideShapes
set_option linter.unusedVariables false
namespace actsA
/-- The slice v reads as the acts l, two cells an act. -/
def Acts (w : World) (v : Value) (l : List (Int × Int)) : Prop :=
  ∃ A cap, v = .slice A l.length cap ∧ l.length ≤ cap ∧ cap ≤ maxLen ∧ (0 < l.length → ∃ b off, A = some ⟨b, off, none⟩ ∧ b < w.heap.size ∧
    ∀ i x, l[i]? = some x → w.cell? ⟨b, off + i * 2, none⟩ = some (.int .i64 x.1) ∧ w.cell? ⟨b, off + i * 2 + 1, none⟩ = some (.int .i64 x.2) ∧ (Lit.int .i64 x.1).wf = true ∧ (Lit.int .i64 x.2).wf = true)
set_option maxRecDepth 100000 in
theorem open_acts {H : Type} {enc : TypeId × Value → H} {w : World} {r : Reach} {b0 : Nat} {v : Value} {d : DataW H} {p : List MemPlace} (hv : Value.okWide Tryd.prog w r b0 22 v)
    (h : DataW.Trod enc Tryd.prog w 0 (fun _ => true) true 22 v d p) : ∃ l, Acts w v l := by
  obtain ⟨a0, n0, c0, rfl⟩ := Go.WideShapes.okWide_slice Tryd.underlying22 hv
  obtain ⟨m, hm⟩ := h
  have hm' : DataW.trod enc Tryd.prog w 0 (fun _ => true) true m 22 [.slice a0 n0 c0] = some (d, p) := hm
  rcases Go.Deep.open_slice_pairs Tryd.underlying22 Tryd.underlying33 (by kernel_rfl) rfl rfl (by kernel_rfl) (by kernel_rfl) hm' with ⟨hcs, hx⟩ | ⟨a, len, cap, m2, n, V0, V1, D0, D1, P0, P1, hcs, _, hl, hm2, hmm, hx, hcell⟩
  · obtain ⟨rfl, rfl, rfl⟩ : a0 = none ∧ n0 = 0 ∧ c0 = 0 := by simpa using hcs
    exact ⟨[], none, 0, rfl, Nat.le_refl _, Nat.zero_le _, fun h => absurd h (by simp)⟩
  · obtain ⟨rfl, hn, hc⟩ : a0 = some a ∧ n0 = len ∧ c0 = cap := by simpa using hcs
    subst hn hc
    have hlm : n0 ≤ m2 := by rw [hmm]; split <;> omega
    have each : ∀ i, ∃ x : Int × Int, i < n0 → V0 i = .int .i64 x.1 ∧ V1 i = .int .i64 x.2 ∧ (Lit.int .i64 x.1).wf = true ∧ (Lit.int .i64 x.2).wf = true := by
      intro i
      by_cases hi : i < n0
      · obtain ⟨_, _, h3, h4⟩ := hcell i (by omega)
        obtain ⟨z3, e3, _, w3⟩ := DataW.trod_int Tryd.underlying3 h3
        obtain ⟨z4, e4, _, w4⟩ := DataW.trod_int Tryd.underlying3 h4
        exact ⟨(z3, z4), fun _ => ⟨by simpa using e3, by simpa using e4, w3, w4⟩⟩
      · exact ⟨(0, 0), fun h => absurd h hi⟩
    obtain ⟨f, hf⟩ := Classical.axiomOfChoice each
    have hll : ((List.range n0).map f).length = n0 := by simp
    refine ⟨(List.range n0).map f, some a, c0, by rw [hll], by omega, hm2, fun h0 => ?_⟩
    have h1 := (hcell 0 (by omega)).1
    obtain ⟨b, off, spot⟩ := a
    have hspot : spot = none := by simpa [Addr.add] using World.cell?_spot h1
    subst hspot
    refine ⟨b, off, rfl, World.block_lt_of_cell? w ⟨b, off, none⟩ (by simpa [Addr.add] using h1), fun i x hi => ?_⟩
    obtain ⟨hi1, hi2⟩ := List.getElem?_eq_some_iff.1 hi
    obtain ⟨g1, g2, _, _⟩ := hcell i (by omega)
    have a1 : ((⟨b, off, none⟩ : Addr).add (i * 2)) = ⟨b, off + i * 2, none⟩ := by unfold Addr.add; split <;> simp_all
    have a2 : ((⟨b, off, none⟩ : Addr).add (i * 2 + 1)) = ⟨b, off + i * 2 + 1, none⟩ := by unfold Addr.add; split <;> simp_all [Nat.add_assoc]
    rw [a1] at g1
    rw [a2] at g2
    have hx2 : f i = x := by rw [← hi2, List.getElem_map, List.getElem_range]
    obtain ⟨k1, k2, k3, k4⟩ := hf i (by omega)
    rw [hx2] at k1 k2 k3 k4
    exact ⟨by rw [g1, k1], by rw [g2, k2], k3, k4⟩
end actsA
end Go.Proofs.YthjjockimpndbaaDoor
