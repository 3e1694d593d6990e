/- Walks of busbarlaw11.half, works and PhysBack. No condition. -/
import Derived.Test.YtkfmbhmfegkedaaPhysV
namespace Go.Proofs.Ytkfmbhmfegkedaa
open Go.RowKit Go.Bus Go.Rt Go.Bus.dbK Go.Bus.rawK
set_option linter.unusedVariables false
set_option linter.unusedSimpArgs false
namespace physW
open ratW
def halfS (b : Bool) : Sig := ⟨0, 0, ⟨#[]⟩, 0, 0, 0, 8, false, b, 1, 2, -40, 1, 0, 1, 0, 1, ⟨#[]⟩, []⟩
theorem half_ok (b : Bool) : RatsOk (halfS b) := by constructor <;> simp [halfS]

theorem toP_bd {s : Sig} {u n d : Int} (h : toP s u = .ok (n, d)) : -9223372036854775808 ≤ n ∧ n < 9223372036854775808 ∧ d < 9223372036854775808 := by
  unfold toP at h
  split at h
  · exact absurd h (by simp)
  split at h
  · exact absurd h (by simp)
  split at h
  · exact absurd h (by simp)
  split at h
  · exact absurd h (by simp)
  split at h
  · exact absurd h (by simp)
  rename_i r hr
  split at h
  · obtain rfl : r = (n, d) := by simpa using h
    obtain ⟨_, _, h3, h4, _, h6⟩ := fitR_right hr
    exact ⟨h3, h4, h6⟩
  · exact absurd h (by simp)
theorem half_build (b : Bool) (w : World) : (Instr.build 30 #[(5, .int .i64 8), (7, .bool b), (8, .agg #[.int .i64 1, .int .i64 2]), (9, .agg #[.int .i64 (-40), .int .i64 1]), (10, .agg #[.int .i64 0, .int .i64 1]), (11, .agg #[.int .i64 0, .int .i64 1])]).run Try.prog w = .ok (.agg (csOf (halfS b) (.slice none 0 0))) w := by kernel_rfl

set_option maxRecDepth 100000 in
set_option maxHeartbeats 2000000 in
theorem half_val (b : Bool) (w : World) : Cl1 28 #[.bool b] (sigV (halfS b) (.slice none 0 0)) w := by
  rw [sigV_cs]
  have HI := cs_info (halfS b) (.slice none 0 0)
  have HZ := Lib.hid (show (#[.int .i64 0, .int .i64 0, .string ⟨#[]⟩, .int .i64 0, .int .u64 0, .int .i64 0, .int .i64 0, .bool false, .bool false, .int .i64 0, .int .i64 0, .int .i64 0, .int .i64 0, .int .i64 0, .int .i64 0, .int .i64 0, .int .i64 0, .string ⟨#[]⟩, .slice none 0 0] : Array Value).size = (csOf (halfS b) (.slice none 0 0)).size from rfl)
  have H1 := cs_one (halfS b) none 0 0
  go_enter Try.func28, Try.ntmps28
  go_wp2_with (first | simp only [half_build] | (refine wpList_store_has rfl 30 _ _ rfl w.heap.size rfl rfl (by exact (Has.new w _ _).alloc _) HI.out HZ.out H1.out ?_))
  refine bodyPost_ret (results_block (g := w.heap.size) (T := 30) rfl rfl (by exact ((Has.new w _ _).alloc _).row _) rfl Try.underlying30 rfl HI.out) rfl ?_
  exact ⟨rfl, below_setRow (w0 := w) (B := w.heap.size) (by repeat' (first | (with_reducible assumption) | (with_reducible refine Below.setCell ?_ ?_ _) | (with_reducible refine Below.alloc ?_ ?_ _) | (with_reducible refine Below.drew ?_) | (with_reducible refine below_drewN ?_ _) | (with_reducible exact Below.refl _ _) | (show _ ≤ _; (try simp); (try omega); done) | exact Below.refl _ _ | assumption)) (Nat.le_refl _) _⟩
theorem half_255 : toP (halfS false) 255 = .ok (175, 2) := by kernel_rfl
theorem half_80 : toR (halfS false) 0 1 = .ok 80 := by kernel_rfl
theorem half_to (w : World) : Cl1 16 #[sigV (halfS false) (.slice none 0 0), .int .u64 255] (.tuple #[.agg #[.int .i64 175, .int .i64 2], .nilIface]) w := by
  rw [← tpV_ok (p := (175, 2)) half_255]
  exact toP_val _ _ _ _ _ w (half_ok false) (by omega) (by omega)
theorem half_from (w : World) : Cl1 17 #[sigV (halfS false) (.slice none 0 0), .agg #[.int .i64 0, .int .i64 1]] (.tuple #[.int .u64 80, .nilIface]) w := by
  rw [← trV_ok half_80]
  exact toR_val _ _ _ _ _ _ w (half_ok false) (by omega) (by omega) (by omega)
def vHalf : Value := sigV (halfS false) (.slice none 0 0)

set_option maxRecDepth 100000 in
set_option maxHeartbeats 2000000 in
theorem works_val (w : World) : Cl1 15 #[] (.bool true) w := by
  have C1 : Hid (Cl 28 #[.bool false] vHalf) := hidf fun w => half_val false w
  have C2 : Hid (Cl 16 #[vHalf, .int .u64 255] (.tuple #[.agg #[.int .i64 175, .int .i64 2], .nilIface])) := hidf fun w => half_to w
  have C3 : Hid (Cl 17 #[vHalf, .agg #[.int .i64 0, .int .i64 1]] (.tuple #[.int .u64 80, .nilIface])) := hidf fun w => half_from w
  generalize vHalf = V at *
  go_enter Try.func15, Try.ntmps15
  go_wp2_with (first
    | (go_at_call 28; refine (C1.out _).mono ?_; first
        | (rintro e w1 ⟨rfl, hb1⟩; have hz1 := hb1.size; have HB1 : Hid (Below w.heap.size w w1) := Lib.hid hb1; clear hb1)
        | (rintro e w3 ⟨rfl, hb3⟩; have hz3 := hb3.size; (try simp at hz3); have HG3 := Lib.hid (show Has w3 w2.heap.size 27 #[.int .i64 175, .int .i64 2] from Has.below (by exact Has.new w2 _ _) hb3 (by (try simp); (try omega))); have hB2 := HB2.out; have HB3 := Lib.hid (show Below w.heap.size w w3 from Below.trans (by repeat' (first | (with_reducible assumption) | (with_reducible refine Below.setCell ?_ ?_ _) | (with_reducible refine Below.alloc ?_ ?_ _) | (with_reducible refine Below.drew ?_) | (with_reducible refine below_drewN ?_ _) | (with_reducible exact Below.refl _ _) | (show _ ≤ _; (try simp); (try omega); done) | exact Below.refl _ _ | assumption)) (hb3.mono (by (try simp); (try omega)))); clear hb3 hB2))
    | (go_at_call 16; refine (C2.out _).mono ?_; rintro e w2 ⟨rfl, hb2⟩; have hz2 := hb2.size; have HB2 := Lib.hid (show Below w.heap.size w w2 from HB1.out.trans (hb2.mono (by omega))); clear hb2)
    | (go_at_call 17; refine (C3.out _).mono ?_; rintro e w4 ⟨rfl, hb4⟩; have hz4 := hb4.size; have HG4 := Lib.hid (HG3.out.below hb4 (by omega)); have HB4 := Lib.hid (show Below w.heap.size w w4 from HB3.out.trans (hb4.mono (by omega))); clear hb4; have c0 : w4.cell? ⟨w2.heap.size, 0, none⟩ = some (.int .i64 175) := HG4.out.cell 0; have c1 : w4.cell? ⟨w2.heap.size, 1, none⟩ = some (.int .i64 2) := HG4.out.cell 1))
  go_ret
  have hB := HB4.out
  exact ⟨rfl, (by repeat' (first | (with_reducible assumption) | (with_reducible refine Below.setCell ?_ ?_ _) | (with_reducible refine Below.alloc ?_ ?_ _) | (with_reducible refine Below.drew ?_) | (with_reducible refine below_drewN ?_ _) | (with_reducible exact Below.refl _ _) | (show _ ≤ _; (try simp); (try omega); done) | exact Below.refl _ _ | assumption))⟩
set_option maxRecDepth 100000 in
set_option maxHeartbeats 2000000 in
theorem back_er {u k : Int} (cs : Array Value) (w : World) (HN : Hid (cs.size = 19)) (HI : Hid ((Try.prog.info? 30).map (·.size) = some cs.size)) (H1 : Hid (cs.all (·.oneCell') = true)) (C1 : Hid (Cl 15 #[] (.bool true))) (C2 : Hid (Cl 16 #[.agg cs, .int .u64 u] (.tuple #[.agg #[.int .i64 0, .int .i64 0], .iface 62 (.int .i64 k)]))) :
    Cl1 4 #[.agg cs, .int .u64 u] (.bool true) w := by
  go_enter Try.func4, Try.ntmps4
  go_wp2_with (first
    | (refine wpList_load_has rfl 30 _ rfl w.heap.size rfl (by exact HS1.out) Try.underlying30 rfl HI.out ?_)
    | (go_at_call 15; refine (C1.out _).mono ?_; rintro e w1 ⟨rfl, hb1⟩; have hz1 := hb1.size; (try simp at hz1); have HS1 := Lib.hid (show Has w1 w.heap.size 30 cs from Has.below (by exact Has.new w _ cs) hb1 (by (try simp); (try omega))); have HB1 : Hid (Below w.heap.size w w1) := Lib.hid (Below.trans (by repeat' (first | (with_reducible assumption) | (with_reducible refine Below.setCell ?_ ?_ _) | (with_reducible refine Below.alloc ?_ ?_ _) | (with_reducible refine Below.drew ?_) | (with_reducible refine below_drewN ?_ _) | (with_reducible exact Below.refl _ _) | (show _ ≤ _; (try simp); (try omega); done) | exact Below.refl _ _ | assumption)) (hb1.mono (by (try simp); (try omega)))); clear hb1)
    | (go_at_call 16; refine (C2.out _).mono ?_; rintro e w2 ⟨rfl, hb2⟩; have hz2 := hb2.size; have HS2 := Lib.hid (HS1.out.below hb2 (by omega)); have HB2 := Lib.hid (show Below w.heap.size w w2 from HB1.out.trans (hb2.mono (by omega))); clear hb2))
  go_ret
  have hB := HB2.out
  exact ⟨rfl, (by repeat' (first | (with_reducible assumption) | (with_reducible refine Below.setCell ?_ ?_ _) | (with_reducible refine Below.alloc ?_ ?_ _) | (with_reducible refine Below.drew ?_) | (with_reducible refine below_drewN ?_ _) | (with_reducible exact Below.refl _ _) | (show _ ≤ _; (try simp); (try omega); done) | exact Below.refl _ _ | assumption))⟩
set_option maxRecDepth 100000 in
set_option maxHeartbeats 2000000 in
theorem back_ok {u n d : Int} (cs : Array Value) (w : World) (HN : Hid (cs.size = 19)) (HI : Hid ((Try.prog.info? 30).map (·.size) = some cs.size)) (H1 : Hid (cs.all (·.oneCell') = true)) (C1 : Hid (Cl 15 #[] (.bool true))) (C2 : Hid (Cl 16 #[.agg cs, .int .u64 u] (.tuple #[.agg #[.int .i64 n, .int .i64 d], .nilIface])))
    (C3 : Hid (Cl 17 #[.agg cs, .agg #[.int .i64 n, .int .i64 d]] (.tuple #[.int .u64 u, .nilIface]))) :
    Cl1 4 #[.agg cs, .int .u64 u] (.bool true) w := by
  go_enter Try.func4, Try.ntmps4
  go_wp2_with (first
    | (refine wpList_load_has rfl 30 _ rfl w.heap.size rfl (by exact HS1.out) Try.underlying30 rfl HI.out ?_)
    | (refine wpList_load_has rfl 30 _ rfl w.heap.size rfl (by exact HS2.out.alloc _) Try.underlying30 rfl HI.out ?_)
    | (go_at_call 15; refine (C1.out _).mono ?_; rintro e w1 ⟨rfl, hb1⟩; have hz1 := hb1.size; (try simp at hz1); have HS1 := Lib.hid (show Has w1 w.heap.size 30 cs from Has.below (by exact Has.new w _ cs) hb1 (by (try simp); (try omega))); have HB1 : Hid (Below w.heap.size w w1) := Lib.hid (Below.trans (by repeat' (first | (with_reducible assumption) | (with_reducible refine Below.setCell ?_ ?_ _) | (with_reducible refine Below.alloc ?_ ?_ _) | (with_reducible refine Below.drew ?_) | (with_reducible refine below_drewN ?_ _) | (with_reducible exact Below.refl _ _) | (show _ ≤ _; (try simp); (try omega); done) | exact Below.refl _ _ | assumption)) (hb1.mono (by (try simp); (try omega)))); clear hb1)
    | (go_at_call 16; refine (C2.out _).mono ?_; rintro e w2 ⟨rfl, hb2⟩; have hz2 := hb2.size; have HS2 := Lib.hid (HS1.out.below hb2 (by omega)); have HB2 := Lib.hid (show Below w.heap.size w w2 from HB1.out.trans (hb2.mono (by omega))); clear hb2)
    | (go_at_call 17; refine (C3.out _).mono ?_; rintro e w3 ⟨rfl, hb3⟩; have hz3 := hb3.size; (try simp at hz3); have hB2 := HB2.out; have HB3 := Lib.hid (show Below w.heap.size w w3 from Below.trans (by repeat' (first | (with_reducible assumption) | (with_reducible refine Below.setCell ?_ ?_ _) | (with_reducible refine Below.alloc ?_ ?_ _) | (with_reducible refine Below.drew ?_) | (with_reducible refine below_drewN ?_ _) | (with_reducible exact Below.refl _ _) | (show _ ≤ _; (try simp); (try omega); done) | exact Below.refl _ _ | assumption)) (hb3.mono (by (try simp); (try omega)))); clear hb3 hB2))
  go_ret
  have hB := HB3.out
  exact ⟨rfl, (by repeat' (first | (with_reducible assumption) | (with_reducible refine Below.setCell ?_ ?_ _) | (with_reducible refine Below.alloc ?_ ?_ _) | (with_reducible refine Below.drew ?_) | (with_reducible refine below_drewN ?_ _) | (with_reducible exact Below.refl _ _) | (show _ ≤ _; (try simp); (try omega); done) | exact Below.refl _ _ | assumption))⟩
theorem back_val (s : Sig) (A : Option Addr) (m c : Nat) (u : Int) (w : World) (ok : RatsOk s) (u0 : 0 ≤ u) (u1 : u < 18446744073709551616) : Cl1 4 #[sigV s (.slice A m c), .int .u64 u] (.bool true) w := by
  have C1 : Hid (Cl 15 #[] (.bool true)) := hidf fun w => works_val w
  have C2 : Hid (Cl 16 #[.agg (csOf s (.slice A m c)), .int .u64 u] (tpV s u)) := hidf fun w => toP_val s A m c u w ok u0 u1
  have HN := cs_size s (.slice A m c)
  have HI := cs_info s (.slice A m c)
  have H1 := cs_one s A m c
  rw [sigV_cs]
  cases h : toP s u with
  | error k =>
    rw [tpV_er h] at C2
    exact back_er _ w HN HI H1 C1 C2
  | ok p =>
    obtain ⟨n, d⟩ := p
    rw [tpV_ok h] at C2
    have hr := phys_back u0 u1 h
    obtain ⟨n1, n2, n3⟩ := toP_bd h
    have C3 : Hid (Cl 17 #[.agg (csOf s (.slice A m c)), .agg #[.int .i64 n, .int .i64 d]] (trV s n d)) := hidf fun w => toR_val s A m c n d w ok n1 n2 n3
    rw [trV_ok hr] at C3
    exact back_ok _ w HN HI H1 C1 C2 C3
end physW
end Go.Proofs.Ytkfmbhmfegkedaa
