/- strings.Split at the end of a line, as the dump's law has it. Conditions: the text's length; one variable of the library's holds some int. -/
import Derived.Test.YtbhhfdajaoemnaaGreatDoorDumpSp
import Derived.Test.YtbhhfdajaoemnaaGreatDoorShelf7
namespace Go.Bus.dumpK
open Go.Lib
set_option linter.unusedVariables false
theorem splitB_nl {S a : List UInt8} {l : List (List UInt8)} (h : cutN 10 S = a :: l) : splitB ⟨#[10]⟩ 0 (countB ⟨S.toArray⟩ ⟨#[10]⟩) ⟨S.toArray⟩ = (a :: l).map fun t => ⟨t.toArray⟩ := by
  rw [← cutN_split 10 _ S (Nat.le_refl _)] at h
  have h1 := splitB_data ⟨#[10]⟩ 0 (countB ⟨S.toArray⟩ ⟨#[10]⟩) ⟨S.toArray⟩
  have h2 : splitK (⟨#[10]⟩ : ByteArray).data.toList 0 (countB ⟨S.toArray⟩ ⟨#[10]⟩) (⟨S.toArray⟩ : ByteArray).data.toList = a :: l := h
  rw [h2] at h1
  rw [← h1, List.map_map]
  have h3 : ((fun t : List UInt8 => (⟨t.toArray⟩ : ByteArray)) ∘ fun x : ByteArray => x.data.toList) = id := by
    funext x; apply ByteArray.ext; simp
  rw [h3, List.map_id]
end Go.Bus.dumpK
namespace Go.Proofs.YtbhhfdajaoemnaaGreatDoor
open Go.RowKit Go.Bus Go.Bus.dumpK
set_option linter.unusedVariables false
set_option linter.unusedSimpArgs false
namespace dumpW
theorem split_nl {S a : List UInt8} {l : List (List UInt8)} (hs : cutN 10 S = a :: l) (hl : S.length ≤ 16777216) (w : World) (hM : Mx w) : Calls Tryz.prog 25 #[.string ⟨S.toArray⟩, .string ⟨#[10]⟩] w fun e w' => e = .returned (.slice (some ⟨w.heap.size, 0, none⟩) (l.length + 1) (l.length + 1)) ∧ w'.cell? ⟨w.heap.size, 0, none⟩ = some (.string ⟨a.toArray⟩) ∧ (∀ j (h : j < l.length), w'.cell? ⟨w.heap.size, j + 1, none⟩ = some (.string ⟨l[j].toArray⟩)) ∧ w.heap.size < w'.heap.size ∧ Below w.heap.size w w' := by
  obtain ⟨m, hm⟩ := hM
  have hc := Any.strings_Split { Tryz.laysM146 with } Tryz.laysM146.i9 ⟨S.toArray⟩ ⟨#[10]⟩ m w (by show S.toArray.size < _; simp; omega) hm (by decide)
  have hsp := splitB_nl hs
  have hln := Lib.splitB_all ⟨#[10]⟩ (by decide) 0 _ ⟨S.toArray⟩ rfl
  rw [hsp] at hc hln
  refine Calls.mono (show Calls Tryz.prog 25 #[.string ⟨S.toArray⟩, .string ⟨#[10]⟩] w _ from hc) ?_
  rintro e w' ⟨rfl, rfl⟩
  rw [← hln]
  rw [List.length_map, List.length_cons]
  refine ⟨rfl, ?_, fun j hj => ?_, by simp, (Below.refl _ _).alloc (Nat.le_refl _) _⟩
  · rw [(Has.new w _ _).cell 0]; rfl
  · rw [(Has.new w _ _).cell (j + 1)]; simp [hj]
end dumpW
end Go.Proofs.YtbhhfdajaoemnaaGreatDoor
