/- Walks of busbarlaw11.to, from, noTo, noFrom where the answer is the one asked for. Condition: errors.errorType is laid. -/
import Derived.Test.YtllbpanfhlbbgaaDoorPhysH
import Derived.Test.YtllbpanfhlbbgaaDoorPlain
namespace Go.Proofs.YtllbpanfhlbbgaaDoor
open Go.RowKit Go.Bus Go.Rt Go.Bus.dbK Go.Bus.rawK
set_option linter.unusedVariables false
set_option linter.unusedSimpArgs false
namespace physK
open ratW physW asK
abbrev KC (f : FuncId) (args : Array Value) : Prop := ∀ W, ErrT W → Cl1 f args (.bool true) W

set_option maxRecDepth 100000 in
set_option maxHeartbeats 2000000 in
theorem to_w {v n d : Int} (cs : Array Value) (w : World) (HI : Hid ((Tryd.prog.info? 29).map (·.size) = some cs.size)) (C1 : Hid (Cl 8 #[.agg cs, .int .u64 v] (.tuple #[.agg #[.int .i64 n, .int .i64 d], .nilIface]))) :
    Cl1 14 #[.agg cs, .int .u64 v, .int .i64 n, .int .i64 d] (.bool true) w := by
  go_enter Tryd.func14, Tryd.ntmps14
  go_wp2_with (first
    | (refine wpList_load_has rfl 29 _ rfl w.heap.size rfl (by exact Has.new w _ _) Tryd.underlying29 rfl HI.out ?_)
    | (go_at_call 8; refine (C1.out _).mono ?_; rintro e w1 ⟨rfl, hb1⟩; have hz1 := hb1.size; (try simp at hz1); have HB1 : Hid (Below w.heap.size w w1) := Lib.hid (Below.trans (by repeat' (first | (with_reducible assumption) | (with_reducible refine Below.setCell ?_ ?_ _) | (with_reducible refine Below.alloc ?_ ?_ _) | (with_reducible refine Below.drew ?_) | (with_reducible refine below_drewN ?_ _) | (with_reducible exact Below.refl _ _) | (show _ ≤ _; (try simp); (try omega); done) | exact Below.refl _ _ | assumption)) (hb1.mono (by (try simp); (try omega)))); clear hb1))
  go_ret
  have hB := HB1.out
  exact ⟨rfl, (by repeat' (first | (with_reducible assumption) | (with_reducible refine Below.setCell ?_ ?_ _) | (with_reducible refine Below.alloc ?_ ?_ _) | (with_reducible refine Below.drew ?_) | (with_reducible refine below_drewN ?_ _) | (with_reducible exact Below.refl _ _) | (show _ ≤ _; (try simp); (try omega); done) | exact Below.refl _ _ | assumption))⟩

set_option maxRecDepth 100000 in
set_option maxHeartbeats 2000000 in
theorem from_w {v n d : Int} (cs : Array Value) (w : World) (HI : Hid ((Tryd.prog.info? 29).map (·.size) = some cs.size)) (C1 : Hid (Cl 12 #[.agg cs, .agg #[.int .i64 n, .int .i64 d]] (.tuple #[.int .u64 v, .nilIface]))) :
    Cl1 16 #[.agg cs, .int .i64 n, .int .i64 d, .int .u64 v] (.bool true) w := by
  go_enter Tryd.func16, Tryd.ntmps16
  go_wp2_with (first
    | (refine wpList_load_has rfl 29 _ rfl w.heap.size rfl (by exact Has.new w _ _) Tryd.underlying29 rfl HI.out ?_)
    | (go_at_call 12; refine (C1.out _).mono ?_; rintro e w1 ⟨rfl, hb1⟩; have HB1 : Hid (Below w.heap.size w w1) := Lib.hid (Below.trans (by repeat' (first | (with_reducible assumption) | (with_reducible refine Below.setCell ?_ ?_ _) | (with_reducible refine Below.alloc ?_ ?_ _) | (with_reducible refine Below.drew ?_) | (with_reducible refine below_drewN ?_ _) | (with_reducible exact Below.refl _ _) | (show _ ≤ _; (try simp); (try omega); done) | exact Below.refl _ _ | assumption)) (hb1.mono (by (try simp); (try omega)))); clear hb1))
  go_ret
  exact ⟨rfl, HB1.out⟩

set_option maxRecDepth 100000 in
set_option maxHeartbeats 2000000 in
theorem noTo_w {v k : Int} (cs : Array Value) (w : World) (HI : Hid ((Tryd.prog.info? 29).map (·.size) = some cs.size)) (C1 : Hid (Cl 8 #[.agg cs, .int .u64 v] (.tuple #[.agg #[.int .i64 0, .int .i64 0], .iface 64 (.int .i64 k)])))
    (CP : Hid (∀ W, Below w.heap.size w W → Cl1 9 #[.iface 64 (.int .i64 k), .int .i64 k] (.bool true) W)) :
    Cl1 15 #[.agg cs, .int .u64 v, .int .i64 k] (.bool true) w := by
  go_enter Tryd.func15, Tryd.ntmps15
  go_wp2_with (first
    | (refine wpList_load_has rfl 29 _ rfl w.heap.size rfl (by exact Has.new w _ _) Tryd.underlying29 rfl HI.out ?_)
    | (go_at_call 8; refine (C1.out _).mono ?_; rintro e w1 ⟨rfl, hb1⟩; have hz1 := hb1.size; (try simp at hz1); have hB1 : Below w.heap.size w w1 := Below.trans (by repeat' (first | (with_reducible assumption) | (with_reducible refine Below.setCell ?_ ?_ _) | (with_reducible refine Below.alloc ?_ ?_ _) | (with_reducible refine Below.drew ?_) | (with_reducible refine below_drewN ?_ _) | (with_reducible exact Below.refl _ _) | (show _ ≤ _; (try simp); (try omega); done) | exact Below.refl _ _ | assumption)) (hb1.mono (by (try simp); (try omega))); clear hb1)
    | (go_at_call 9; refine (CP.out _ (by exact (by repeat' (first | (with_reducible assumption) | (with_reducible refine Below.setCell ?_ ?_ _) | (with_reducible refine Below.alloc ?_ ?_ _) | (with_reducible refine Below.drew ?_) | (with_reducible refine below_drewN ?_ _) | (with_reducible exact Below.refl _ _) | (show _ ≤ _; (try simp); (try omega); done) | exact Below.refl _ _ | assumption)))).mono ?_; rintro e w2 ⟨rfl, hb2⟩; have hB2 : Below w.heap.size w w2 := Below.trans (by repeat' (first | (with_reducible assumption) | (with_reducible refine Below.setCell ?_ ?_ _) | (with_reducible refine Below.alloc ?_ ?_ _) | (with_reducible refine Below.drew ?_) | (with_reducible refine below_drewN ?_ _) | (with_reducible exact Below.refl _ _) | (show _ ≤ _; (try simp); (try omega); done) | exact Below.refl _ _ | assumption)) (hb2.mono (by (try simp); (try omega))); clear hb2))
  go_ret
  exact ⟨rfl, hB2⟩

set_option maxRecDepth 100000 in
set_option maxHeartbeats 2000000 in
theorem noFrom_w {n d k : Int} (cs : Array Value) (w : World) (HI : Hid ((Tryd.prog.info? 29).map (·.size) = some cs.size)) (C1 : Hid (Cl 12 #[.agg cs, .agg #[.int .i64 n, .int .i64 d]] (.tuple #[.int .u64 0, .iface 64 (.int .i64 k)])))
    (CP : Hid (∀ W, Below w.heap.size w W → Cl1 9 #[.iface 64 (.int .i64 k), .int .i64 k] (.bool true) W)) :
    Cl1 17 #[.agg cs, .int .i64 n, .int .i64 d, .int .i64 k] (.bool true) w := by
  go_enter Tryd.func17, Tryd.ntmps17
  go_wp2_with (first
    | (refine wpList_load_has rfl 29 _ rfl w.heap.size rfl (by exact Has.new w _ _) Tryd.underlying29 rfl HI.out ?_)
    | (go_at_call 12; refine (C1.out _).mono ?_; rintro e w1 ⟨rfl, hb1⟩; have hz1 := hb1.size; (try simp at hz1); have hB1 : Below w.heap.size w w1 := Below.trans (by repeat' (first | (with_reducible assumption) | (with_reducible refine Below.setCell ?_ ?_ _) | (with_reducible refine Below.alloc ?_ ?_ _) | (with_reducible refine Below.drew ?_) | (with_reducible refine below_drewN ?_ _) | (with_reducible exact Below.refl _ _) | (show _ ≤ _; (try simp); (try omega); done) | exact Below.refl _ _ | assumption)) (hb1.mono (by (try simp); (try omega))); clear hb1)
    | (go_at_call 9; refine (CP.out _ (by exact (by repeat' (first | (with_reducible assumption) | (with_reducible refine Below.setCell ?_ ?_ _) | (with_reducible refine Below.alloc ?_ ?_ _) | (with_reducible refine Below.drew ?_) | (with_reducible refine below_drewN ?_ _) | (with_reducible exact Below.refl _ _) | (show _ ≤ _; (try simp); (try omega); done) | exact Below.refl _ _ | assumption)))).mono ?_; rintro e w2 ⟨rfl, hb2⟩; have hB2 : Below w.heap.size w w2 := Below.trans (by repeat' (first | (with_reducible assumption) | (with_reducible refine Below.setCell ?_ ?_ _) | (with_reducible refine Below.alloc ?_ ?_ _) | (with_reducible refine Below.drew ?_) | (with_reducible refine below_drewN ?_ _) | (with_reducible exact Below.refl _ _) | (show _ ≤ _; (try simp); (try omega); done) | exact Below.refl _ _ | assumption)) (hb2.mono (by (try simp); (try omega))); clear hb2))
  go_ret
  exact ⟨rfl, hB2⟩

theorem to_k {v n d : Int} (s : Sig) (A : Option Addr) (m c : Nat) (ok : RatsOk s) (v0 : 0 ≤ v) (v1 : v < 18446744073709551616) (h : toP s v = .ok (n, d)) : KC 14 #[.agg (csOf s (.slice A m c)), .int .u64 v, .int .i64 n, .int .i64 d] :=
  fun W _ => to_w _ W (cs_info s _) (hidf fun w => by have := toP_val s A m c v w ok v0 v1; rw [tpV_ok h] at this; exact this)
theorem from_k {v n d : Int} (s : Sig) (A : Option Addr) (m c : Nat) (ok : RatsOk s) (n1 : -9223372036854775808 ≤ n) (n2 : n < 9223372036854775808) (n3 : d < 9223372036854775808) (h : toR s n d = .ok v) : KC 16 #[.agg (csOf s (.slice A m c)), .int .i64 n, .int .i64 d, .int .u64 v] :=
  fun W _ => from_w _ W (cs_info s _) (hidf fun w => by have := toR_val s A m c n d w ok n1 n2 n3; rw [trV_ok h] at this; exact this)
theorem noTo_k {v k : Int} (s : Sig) (A : Option Addr) (m c : Nat) (ok : RatsOk s) (v0 : 0 ≤ v) (v1 : v < 18446744073709551616) (k1 : 1 ≤ k) (k2 : k ≤ 26) (h : toP s v = .error k) : KC 15 #[.agg (csOf s (.slice A m c)), .int .u64 v, .int .i64 k] :=
  fun W hg => noTo_w _ W (cs_info s _) (hidf fun w => by have := toP_val s A m c v w ok v0 v1; rw [tpV_er h] at this; exact this) (hidf fun W' hb => plain_no k W' k1 k2 (hg.at_below hb))
theorem noFrom_k {n d k : Int} (s : Sig) (A : Option Addr) (m c : Nat) (ok : RatsOk s) (n1 : -9223372036854775808 ≤ n) (n2 : n < 9223372036854775808) (n3 : d < 9223372036854775808) (k1 : 1 ≤ k) (k2 : k ≤ 26) (h : toR s n d = .error k) : KC 17 #[.agg (csOf s (.slice A m c)), .int .i64 n, .int .i64 d, .int .i64 k] :=
  fun W hg => noFrom_w _ W (cs_info s _) (hidf fun w => by have := toR_val s A m c n d w ok n1 n2 n3; rw [trV_er h] at this; exact this) (hidf fun W' hb => plain_no k W' k1 k2 (hg.at_below hb))
end physK
end Go.Proofs.YtllbpanfhlbbgaaDoor
