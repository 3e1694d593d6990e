/- busbarlaw22.told: is an error this one, with its place if it tells one? Condition: errors.errorType is laid. -/
import Derived.Test.YthjjockimpndbaaDoorZRefDec
import Derived.Test.YthjjockimpndbaaDoorZPlain
namespace Go.Proofs.YthjjockimpndbaaDoor
open Go.RowKit Go.Bus Go.Bus.decK
set_option linter.unusedVariables false
namespace toldK
open decW refW
/-- An error's number is one of the document's. -/
def okE : Err → Prop
  | (k, _) => 1 ≤ k ∧ k ≤ 26
set_option maxRecDepth 100000 in
set_option maxHeartbeats 1000000 in
theorem told_nil (w : World) : Calls Tryd.prog 28 #[.nilIface, .agg #[.int .i64 0, .int .i64 0, .bool false]] w fun e w' => e = .returned (.bool true) ∧ Below w.heap.size w w' := by
  go_enter Tryd.func28, Tryd.ntmps28
  go_wp2_with fail
  refine (asK.plain_nil _).mono ?_
  rintro e w1 ⟨rfl, hb⟩
  have HB := Lib.hid (Below.trans (b := _) ((by repeat (first | exact Below.refl _ _ | assumption | refine Below.drew ?_ | refine below_drewN ?_ _ | (refine Below.alloc ?_ (by (try simp); (try omega)) _) | (refine Below.setCell ?_ (by (try simp); (try omega)) _))) : Below w.heap.size w _) (hb.mono (by (try simp); (try omega))))
  clear hb
  go_wp2
  go_ret
  exact ⟨rfl, HB.out⟩
set_option maxRecDepth 100000 in
set_option maxHeartbeats 1000000 in
theorem told_no (x : Err) (hx : okE x) (w : World) (hg : asK.ErrT w) : Calls Tryd.prog 28 #[errV x, faultR x] w fun e w' => e = .returned (.bool true) ∧ Below w.heap.size w w' := by
  obtain ⟨k, a⟩ := x
  obtain ⟨h1, h2⟩ := hx
  have hk1 : (1 : Int) ≤ (k : Int) := by omega
  have hk2 : (k : Int) ≤ 26 := by omega
  have HG := Lib.hid hg; clear hg
  cases a with
  | none =>
    show Calls Tryd.prog 28 #[.iface 73 (.int .i64 (k : Int)), .agg #[.int .i64 (k : Int), .int .i64 0, .bool false]] w _
    go_enter Tryd.func28, Tryd.ntmps28
    go_wp2_with fail
    refine (asK.plain_no (k : Int) _ hk1 hk2 (HG.out.at_below (by repeat (first | exact Below.refl _ _ | assumption | refine Below.drew ?_ | refine below_drewN ?_ _ | (refine Below.alloc ?_ (by (try simp); (try omega)) _) | (refine Below.setCell ?_ (by (try simp); (try omega)) _))))).mono ?_
    rintro e w1 ⟨rfl, hb⟩
    have HB := Lib.hid (Below.trans (b := _) ((by repeat (first | exact Below.refl _ _ | assumption | refine Below.drew ?_ | refine below_drewN ?_ _ | (refine Below.alloc ?_ (by (try simp); (try omega)) _) | (refine Below.setCell ?_ (by (try simp); (try omega)) _))) : Below w.heap.size w _) (hb.mono (by (try simp); (try omega))))
    clear hb
    go_wp2
    go_ret
    exact ⟨rfl, HB.out⟩
  | some n =>
    show Calls Tryd.prog 28 #[.iface 77 (.agg #[.int .i64 (k : Int), .int .i64 0, .int .i64 (n : Int)]), .agg #[.int .i64 (k : Int), .int .i64 (n : Int), .bool true]] w _
    go_enter Tryd.func28, Tryd.ntmps28
    go_wp2_with fail
    refine (asK.at_fault (k : Int) 0 (n : Int) _ hk1 hk2 (HG.out.at_below (by repeat (first | exact Below.refl _ _ | assumption | refine Below.drew ?_ | refine below_drewN ?_ _ | (refine Below.alloc ?_ (by (try simp); (try omega)) _) | (refine Below.setCell ?_ (by (try simp); (try omega)) _))))).mono ?_
    rintro e w1 ⟨rfl, hb⟩
    have HB := Lib.hid (Below.trans (b := _) ((by repeat (first | exact Below.refl _ _ | assumption | refine Below.drew ?_ | refine below_drewN ?_ _ | (refine Below.alloc ?_ (by (try simp); (try omega)) _) | (refine Below.setCell ?_ (by (try simp); (try omega)) _))) : Below w.heap.size w _) (hb.mono (by (try simp); (try omega))))
    clear hb
    go_wp2
    go_ret
    exact ⟨rfl, HB.out⟩
theorem dec_small {m : List Bool} {k : Nat} (h : decF m = .error k) : 1 ≤ k ∧ k ≤ 26 := by
  unfold decF tailF at h
  split at h
  · cases h; decide
  split at h
  · cases h; decide
  split at h
  · split at h
    · cases h; decide
    split at h
    · cases h; decide
    split at h
    · cases h; decide
    split at h
    · cases h; decide
    split at h
    · cases h; decide
    split at h
    · cases h; decide
    · cases h
  · split at h
    · cases h; decide
    split at h
    · cases h; decide
    split at h
    · cases h; decide
    split at h
    · cases h; decide
    split at h
    · cases h; decide
    split at h
    · cases h; decide
    · cases h
theorem all_ok {l : List Bool} {x : Err} (h : allF l = .error x) : okE x := by
  unfold allF at h
  split at h
  · cases h; exact ⟨by decide, by decide⟩
  split at h
  · cases h; exact ⟨by decide, by decide⟩
  split at h
  · rename_i y hy
    cases h
    unfold unErr
    split
    · exact ⟨by decide, by decide⟩
    · exact ⟨by decide, by decide⟩
  · rename_i m hm
    unfold decE at h
    split at h
    · rename_i k hk
      cases h
      have h2 := dec_small hk
      exact h2
    · cases h
end toldK
end Go.Proofs.YthjjockimpndbaaDoor
