/- FrameDecodes of every row. Condition: errors.errorType is laid. -/
import Derived.Test.YthjjockimpndbaaDoorZFrameDecW
namespace Go.Bus.decK
open Go.RowKit Go.Bus.bitK Go.Bus.crcLaw Go.Bus.numK
theorem all_len {l : List Bool} {i : Int} {W : Bool} {L : List Int} (h : allF l = .ok (i, W, L)) : L.length ≤ 8 := by
  unfold allF at h
  split at h
  · cases h
  split at h
  · cases h
  split at h
  · cases h
  · rename_i m hm
    unfold decE at h
    split at h
    · cases h
    · rename_i f hf
      obtain ⟨_, _, hc⟩ := dec_ok hf
      rcases hc with ⟨_, n, hn, _, he⟩ | ⟨_, n, hn, _, he⟩
      · rw [he] at h
        cases h
        simpa [bytesF] using hn
      · rw [he] at h
        cases h
        simpa [bytesF] using hn
end Go.Bus.decK
namespace Go.Proofs.YthjjockimpndbaaDoor.frameDecW
open Go.RowKit Go.Bus Go.Bus.decK Go.Proofs.YthjjockimpndbaaDoor.lentK
set_option linter.unusedVariables false
theorem whole (v : Value) (l : List Bool) (w : World) (hs : Sl w w.heap.size Value.bool v l) (hlen : l.length ≤ 140737488351232) (hG : asK.ErrT w) :
    Calls Tryd.prog 5 #[v] w fun e w' => e = .returned (.bool true) ∧ Below w.heap.size w w' := by
  cases hr : allF l with
  | error x =>
    have hx := toldK.all_ok hr
    have hd : ∀ W v, Sl W W.heap.size Value.bool v l → Calls Tryd.prog 25 #[v] W (Ans W 0 false [] (decW.errV x)) := fun W v hv =>
      (decW.dec_any v l W hv hlen).mono fun e w' h => by
        rw [hr] at h
        exact ⟨_, h.1, World.ownsRow_nil _ _ _ _, h.2⟩
    have hq : ∀ W v, Sl W W.heap.size Value.bool v l → Calls Tryd.prog 26 #[v] W (Ans W 0 false [] (refW.faultR x)) := fun W v hv =>
      (refW.rdec_any v l W hv hlen).mono fun e w' h => by
        rw [hr] at h
        exact ⟨_, h.1, World.ownsRow_nil _ _ _ _, h.2⟩
    have ht := fun W hg => toldK.told_no x hx W hg
    obtain ⟨k, a⟩ := x
    cases a with
    | none => exact walk v l w hs hlen hG 0 false [] _ (k : Int) 0 false (by simp) hd hq ht
    | some n => exact walk v l w hs hlen hG 0 false [] _ (k : Int) (n : Int) true (by simp) hd hq ht
  | ok f =>
    obtain ⟨i, W, L⟩ := f
    have hL := all_len hr
    refine walk v l w hs hlen hG i W L .nilIface 0 0 false (by omega) ?_ ?_ (fun W _ => toldK.told_nil W)
    · exact fun W v hv => (decW.dec_any v l W hv hlen).mono fun e w' h => by
        rw [hr] at h
        exact h
    · exact fun W v hv => (refW.rdec_any v l W hv hlen).mono fun e w' h => by
        rw [hr] at h
        exact h
end Go.Proofs.YthjjockimpndbaaDoor.frameDecW
