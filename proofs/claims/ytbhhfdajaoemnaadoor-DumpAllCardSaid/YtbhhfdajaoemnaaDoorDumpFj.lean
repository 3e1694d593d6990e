/- dump.File of a text whose lines are known; parts of a row of lines. Conditions: the text's length; one of the library's errors is laid, one variable of the library's holds some int. -/
import Derived.Test.YtbhhfdajaoemnaaDoorDumpFi
import Derived.Test.YtbhhfdajaoemnaaDoorDumpJl
namespace Go.Bus.cellK
open Go.RowKit Go.Bus
section
variable {α : Type} {k n : Nat} {R : Rel α} {w : World} {F : Foot} {l m : List α} {b off cap : Nat}
theorem eltOf_take {xs : List Value} {i : Nat} (hi : i < n) : eltOf k (xs.take (n * k)) i = eltOf k xs i := by
  have h1 : (i + 1) * k ≤ n * k := Nat.mul_le_mul_right k hi
  rw [Nat.add_mul, Nat.one_mul] at h1
  unfold eltOf
  rw [List.drop_take, List.take_take, Nat.min_eq_left (by omega)]
theorem eltOf_drop {xs : List Value} {i : Nat} : eltOf k (xs.drop (n * k)) i = eltOf k xs (n + i) := by
  unfold eltOf
  rw [List.drop_drop, Nat.add_mul]
theorem SlK.first (hh : SlK k R w F (.slice (some ⟨b, off, none⟩) (l.length + m.length) cap) (l ++ m)) : SlK k R w F (.slice (some ⟨b, off, none⟩) l.length cap) l := by
  obtain ⟨xs, ⟨A, c, hv, h1, h2, h3, h4⟩, h5⟩ := hh
  simp only [Value.slice.injEq] at hv
  obtain ⟨rfl, _, rfl⟩ := hv
  rw [List.length_append] at h1 h3 h4
  rw [Nat.add_mul] at h3
  refine ⟨xs.take (l.length * k), ⟨_, cap, rfl, by omega, h2, by rw [List.length_take]; omega, fun h0 => ?_⟩, fun i x hi => ?_⟩
  · obtain ⟨b', off', hA, hF, hr⟩ := h4 (by omega)
    refine ⟨b', off', hA, hF, fun j v hj => hr j v ?_⟩
    rw [List.getElem?_take] at hj
    split at hj
    · exact hj
    · cases hj
  · have hil := (List.getElem?_eq_some_iff.1 hi).1
    rw [eltOf_take hil]
    exact h5 i x (by rw [List.getElem?_append_left hil]; exact hi)
theorem SlK.rest (hh : SlK k R w F (.slice (some ⟨b, off, none⟩) (l.length + m.length) cap) (l ++ m)) {A : Option Addr} (hA : 0 < m.length → A = some ⟨b, off + l.length * k, none⟩) : SlK k R w F (.slice A m.length (cap - l.length)) m := by
  obtain ⟨xs, ⟨A', c, hv, h1, h2, h3, h4⟩, h5⟩ := hh
  simp only [Value.slice.injEq] at hv
  obtain ⟨rfl, _, rfl⟩ := hv
  rw [List.length_append] at h1 h3 h4
  rw [Nat.add_mul] at h3
  refine ⟨xs.drop (l.length * k), ⟨_, _, rfl, by omega, by omega, by rw [List.length_drop]; omega, fun h0 => ?_⟩, fun i x hi => ?_⟩
  · obtain ⟨b', off', hA', hF, hr⟩ := h4 (by omega)
    cases hA'
    refine ⟨b, off + l.length * k, hA h0, hF, fun j v hj => ?_⟩
    rw [List.getElem?_drop] at hj
    have := hr (l.length * k + j) v hj
    rw [Nat.add_assoc]
    exact this
  · rw [eltOf_drop]
    exact h5 _ x (by rw [List.getElem?_append_right (by omega), Nat.add_sub_cancel_left]; exact hi)
end
end Go.Bus.cellK
namespace Go.Proofs.YtbhhfdajaoemnaaDoor
open Go.RowKit Go.Bus Go.Bus.cellK Go.Bus.dumpK Go.Bus.textK
set_option linter.unusedVariables false
set_option linter.unusedSimpArgs false
namespace dumpW
theorem file_any (S : List UInt8) (hl : S.length ≤ 281474976710656) (w : World) (hM : Mx w) (hR : laidK.Rng w) : Calls Tryd.prog 6 #[.string ⟨S.toArray⟩] w (DFi S w) := by
  by_cases h : 1048576 < S.length
  · exact dfile_long S h hl w
  · exact dfile_in S (by omega) w hM hR
theorem file_err {S : List UInt8} {no : Int} {k : Nat} (h : fileF S = .error (no, k)) (hk : 0 < k) (hl : S.length ≤ 281474976710656) (w : World) (hM : Mx w) (hR : laidK.Rng w) : Calls Tryd.prog 6 #[.string ⟨S.toArray⟩] w fun e w' => e = .returned (.tuple #[.slice none 0 0, .iface 51 (.agg #[.int .i64 no, .int .i64 (k : Nat), .int .i64 0])]) ∧ Below w.heap.size w w' := by
  refine (file_any S hl w hM hR).mono ?_
  rintro e w' ⟨hb, h2⟩
  rw [h] at h2
  simp only at h2
  unfold ferr at h2
  rw [if_neg (by omega)] at h2
  exact ⟨h2, hb⟩
theorem file_many {S : List UInt8} {no : Int} (h : fileF S = .error (no, 0)) (hl : S.length ≤ 281474976710656) (w : World) (hM : Mx w) (hR : laidK.Rng w) : Calls Tryd.prog 6 #[.string ⟨S.toArray⟩] w fun e w' => e = .returned (.tuple #[.slice none 0 0, .iface 42 (.int .i64 no)]) ∧ Below w.heap.size w w' := by
  refine (file_any S hl w hM hR).mono ?_
  rintro e w' ⟨hb, h2⟩
  rw [h] at h2
  exact ⟨h2, hb⟩
theorem file_ok {S : List UInt8} {ls : List Ln} (h : fileF S = .ok ls) (hl : S.length ≤ 281474976710656) (w : World) (hM : Mx w) (hR : laidK.Rng w) : Calls Tryd.prog 6 #[.string ⟨S.toArray⟩] w fun e w' => ∃ A c xs, e = .returned (.tuple #[.slice A ls.length c, .nilIface]) ∧ (0 < ls.length → ∃ g, A = some ⟨g, 0, none⟩) ∧ OwX 5 lineO w' (Iv w.heap.size w'.heap.size) w.heap.size 34 (.slice A ls.length c) ls xs ∧ Below w.heap.size w w' := by
  refine (file_any S hl w hM hR).mono ?_
  rintro e w' ⟨hb, h2⟩
  rw [h] at h2
  obtain ⟨v, xs, rfl, ho⟩ := h2
  rcases ho.1.2 with ⟨rfl, h0⟩ | ⟨g, cap, cur, rfl, rest⟩
  · refine ⟨none, 0, xs, by rw [h0], fun h => by omega, by rw [h0]; exact ho, hb⟩
  · exact ⟨_, cap, xs, rfl, fun _ => ⟨g, rfl⟩, ho, hb⟩
end dumpW
end Go.Proofs.YtbhhfdajaoemnaaDoor
