/- busbarkit.LentSignal by what its list's lending comes to. No condition. -/
import Derived.Test.YtllbpanfhlbbgaaDoorWhole
import Derived.Test.YtllbpanfhlbbgaaDoorProg
import Derived.Outline
namespace Go.Proofs.YtllbpanfhlbbgaaDoor
open Go.RowKit Go.Bus
set_option linter.unusedVariables false
set_option linter.unusedSimpArgs false
namespace lentS
theorem all_set {cs : Array Value} {i : Nat} {u : Value} (h : cs.all (·.oneCell') = true) (hu : u.oneCell' = true) : (cs.setIfInBounds i u).all (·.oneCell') = true := by
  rw [Array.all_eq_true_iff_forall_mem] at h ⊢
  intro x hx
  rcases Array.mem_or_eq_of_mem_setIfInBounds hx with h1 | h1
  · exact h x h1
  · rw [h1]; exact hu
/-- What 'y := x; y.F = f(x.F); return y' comes to: Post is what the call of f, in W, came to. -/
def StructP (w : World) (cs : Array Value) (off : Nat) (Post : World → Value → World → Prop) (e : Ending) (w' : World) : Prop :=
  ∃ (W w1 : World) (v' : Value), e = .returned (.agg (cs.setIfInBounds off v')) ∧ Below w.heap.size w W ∧ w.heap.size + 3 ≤ W.heap.size ∧ Post W v' w1 ∧ Below W.heap.size W w1 ∧ (∀ b, W.heap.size ≤ b → w'.heap[b]? = w1.heap[b]?) ∧ w1.heap.size = w'.heap.size ∧ Below w.heap.size w w'
def CallP (W : World) (Post : World → Value → World → Prop) (e : Ending) (w' : World) : Prop := ∃ A n c, e = .returned (.slice A n c) ∧ Post W (.slice A n c) w' ∧ Below W.heap.size W w'
set_option maxRecDepth 100000 in
set_option maxHeartbeats 2000000 in
theorem lentSignal (cs : Array Value) (v : Value) (w : World) (Post : World → Value → World → Prop) (hn : cs.size = 19) (h1 : cs.all (·.oneCell') = true) (hv : cs[18]? = some v)
    (hcall : ∀ W, Below w.heap.size w W → w.heap.size + 3 ≤ W.heap.size → Calls Tryd.prog 26 #[v] W (CallP W Post)) :
    Calls Tryd.prog 7 #[.agg cs] w (StructP w cs 18 Post) := by
  have hi : (Tryd.prog.info? 29).map (·.size) = some cs.size := by rw [hn]; kernel_rfl
  have HI := Lib.hid hi; have HN := Lib.hid hn; have H1 := Lib.hid h1; have HC := Lib.hid hcall
  have HZ := Lib.hid (show (#[.int .i64 0, .int .i64 0, .string ⟨#[]⟩, .int .i64 0, .int .u64 0, .int .i64 0, .int .i64 0, .bool false, .bool false, .int .i64 0, .int .i64 0, .int .i64 0, .int .i64 0, .int .i64 0, .int .i64 0, .int .i64 0, .int .i64 0, .string ⟨#[]⟩, .slice none 0 0] : Array Value).size = cs.size by rw [hn]; rfl)
  clear hi hn h1 hcall
  go_enter Tryd.func7, Tryd.ntmps7
  go_wp2_with (first | (refine wpList_load_has rfl 29 _ rfl w.heap.size rfl (by exact (Has.new w _ cs).alloc _) Tryd.underlying29 rfl HI.out ?_) | (refine wpList_store_last2 rfl 29 _ _ rfl 29 _ rfl rfl HI.out (by exact HZ.out) H1.out ?_))
  refine (HC.out _ (by exact (by repeat' (first | (with_reducible assumption) | (with_reducible refine Below.setCell ?_ ?_ _) | (with_reducible refine Below.alloc ?_ ?_ _) | (with_reducible refine Below.drew ?_) | (with_reducible refine below_drewN ?_ _) | (with_reducible exact Below.refl _ _) | (show _ ≤ _; (try simp); (try omega); done) | exact Below.refl _ _ | assumption))) (by (try simp); (try omega))).mono ?_
  rintro e w1 ⟨A, m, c, rfl, hp, hb1⟩
  have hs1 := hb1.size
  simp at hs1
  have HX0 := Lib.hid (show Has w1 w.heap.size 29 cs from Has.below (by exact ((Has.new w _ cs).alloc _).alloc _) hb1 (by (try simp); (try omega)))
  have HX1 := Lib.hid (show Has w1 (w.heap.size + 1) 29 #[.int .i64 0, .int .i64 0, .string ⟨#[]⟩, .int .i64 0, .int .u64 0, .int .i64 0, .int .i64 0, .bool false, .bool false, .int .i64 0, .int .i64 0, .int .i64 0, .int .i64 0, .int .i64 0, .int .i64 0, .int .i64 0, .int .i64 0, .string ⟨#[]⟩, .slice none 0 0] from Has.below (by exact (Has.new1 w _ _ _).alloc _) hb1 (by (try simp); (try omega)))
  have HX2 := Lib.hid (show Has w1 (w.heap.size + 1 + 1) 29 cs from Has.below (by exact Has.new2 w _ _ _ cs) hb1 (by (try simp); (try omega)))
  have HP := Lib.hid hp; have HB1 := Lib.hid hb1
  have hcell : w1.cell? ⟨w.heap.size + 1 + 1, 18, none⟩ = some v := (HX2.out.cell 18).trans hv
  have hfro : w1.frozen? ⟨w.heap.size + 1 + 1, 18, none⟩ = false := HX2.out.frozen 18
  have HZ2 := Lib.hid (show (#[.int .i64 0, .int .i64 0, .string ⟨#[]⟩, .int .i64 0, .int .u64 0, .int .i64 0, .int .i64 0, .bool false, .bool false, .int .i64 0, .int .i64 0, .int .i64 0, .int .i64 0, .int .i64 0, .int .i64 0, .int .i64 0, .int .i64 0, .string ⟨#[]⟩, .slice none 0 0] : Array Value).size = (cs.setIfInBounds 18 (.slice A m c)).size by rw [HZ.out]; simp)
  have HI2 := Lib.hid (show (Tryd.prog.info? 29).map (·.size) = some (cs.setIfInBounds 18 (.slice A m c)).size by rw [HI.out]; simp)
  have H12 := Lib.hid (show (cs.setIfInBounds 18 (.slice A m c)).all (·.oneCell') = true from all_set H1.out rfl)
  clear hp hb1
  go_wp2_with (first | (refine wpList_load_has rfl 29 _ rfl (w.heap.size + 1 + 1) rfl (by exact HX2.out.set _ _) Tryd.underlying29 rfl HI2.out ?_) | (refine wpList_store_has rfl 29 _ _ rfl (w.heap.size + 1) rfl rfl (by exact HX1.out.far (by (try simp); (try omega)) _) HI2.out HZ2.out H12.out ?_))
  refine bodyPost_ret (results_block (g := w.heap.size + 1) (T := 29) rfl rfl (by exact (HX1.out.far (by (try simp); (try omega)) _).row _) rfl Tryd.underlying29 rfl HI2.out) rfl ?_
  refine ⟨_, w1, _, rfl, ?_, ?_, HP.out, HB1.out, ?_, ?_, ?_⟩
  · exact (by repeat' (first | (with_reducible assumption) | (with_reducible refine Below.setCell ?_ ?_ _) | (with_reducible refine Below.alloc ?_ ?_ _) | (with_reducible refine Below.drew ?_) | (with_reducible refine below_drewN ?_ _) | (with_reducible exact Below.refl _ _) | (show _ ≤ _; (try simp); (try omega); done) | exact Below.refl _ _ | assumption))
  · (try simp); (try omega)
  · intro b hb
    simp at hb
    exact (setRow_other _ _ _ _ (by omega)).trans (heap_setCell_other _ _ _ _ (by (try simp); (try omega)))
  · simp [World.setRow]
  · exact below_setRow (Below.setCell (Below.trans (by repeat' (first | (with_reducible assumption) | (with_reducible refine Below.setCell ?_ ?_ _) | (with_reducible refine Below.alloc ?_ ?_ _) | (with_reducible refine Below.drew ?_) | (with_reducible refine below_drewN ?_ _) | (with_reducible exact Below.refl _ _) | (show _ ≤ _; (try simp); (try omega); done) | exact Below.refl _ _ | assumption)) (HB1.out.mono (by (try simp); (try omega)))) (by (try simp); (try omega)) _) (by omega) _
end lentS
end Go.Proofs.YtllbpanfhlbbgaaDoor
