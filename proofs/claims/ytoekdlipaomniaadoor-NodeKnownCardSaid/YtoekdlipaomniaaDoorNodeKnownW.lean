/- The walk of NodeKnown: the chapter's examples. Condition: errors.errorType is laid. -/
import Derived.Test.YtoekdlipaomniaaDoorNodeKnownL
import Derived.Test.YtoekdlipaomniaaDoorAt
import Derived.Outline
namespace Go.Proofs.YtoekdlipaomniaaDoor
open Go.RowKit Go.Bus Go.Bus.cellK Go.Bus.dbK
set_option linter.unusedVariables false
set_option linter.unusedSimpArgs false
namespace nodeKnownW
open nodeC nodeK nodeL nodeM nodeFO gatherL partsK
theorem msgf (v : Value) (w : World) : (Instr.field 74 (.agg #[.int .i64 3, .int .i64 1, .int .u32 7, .bool false, .string ⟨#[109]⟩, .int .i64 0, .string ⟨#[]⟩, v]) 1).run Tryd.prog w = .ok (.int .u32 7) w := by kernel_rfl
set_option maxRecDepth 100000 in
set_option maxHeartbeats 8000000 in
theorem walk (w : World) (hG : asK.ErrT w) : Calls Tryd.prog 4 #[] w fun e w' => e = .returned (.bool true) ∧ Below w.heap.size w w' := by
  have HG := Lib.hid hG; clear hG
  go_enter Tryd.func4, Tryd.ntmps4
  go_wp2_with fail
  refine (list_k (by exact K.start w)).mono ?_
  rintro e w1 ⟨g, cap, c, A, rfl, hcap, hcap1, hcell, hc, hK⟩
  have hA := as_sta_sta (.agg #[.int .i64 0, .int .i64 0, .slice A 0 c])
  have HK1 := Lib.hid hK; clear hK
  have c_s0 : w1.cell? ⟨w.heap.size + 1 + 1, 0, none⟩ = some (.int .i64 0) := HK1.out.s0
  have c_s1 : w1.cell? ⟨w.heap.size + 1 + 1, 1, none⟩ = some (.int .i64 0) := HK1.out.s1
  have c_s2 : w1.cell? ⟨w.heap.size + 1 + 1, 2, none⟩ = some (.slice (some ⟨w.heap.size + 1, 0, none⟩) 1 1) := HK1.out.s2
  have q_s : w.heap.size + 1 + 1 < w1.heap.size := HK1.out.slt
  have c_m0 : w1.cell? ⟨w.heap.size + 1 + 1 + 1, 0, none⟩ = some (.int .i64 3) := HK1.out.m0
  have c_m1 : w1.cell? ⟨w.heap.size + 1 + 1 + 1, 1, none⟩ = some (.int .i64 1) := HK1.out.m1
  have c_m2 : w1.cell? ⟨w.heap.size + 1 + 1 + 1, 2, none⟩ = some (.int .u32 7) := HK1.out.m2
  have c_m3 : w1.cell? ⟨w.heap.size + 1 + 1 + 1, 3, none⟩ = some (.bool false) := HK1.out.m3
  have c_m4 : w1.cell? ⟨w.heap.size + 1 + 1 + 1, 4, none⟩ = some (.string ⟨#[109]⟩) := HK1.out.m4
  have c_m5 : w1.cell? ⟨w.heap.size + 1 + 1 + 1, 5, none⟩ = some (.int .i64 0) := HK1.out.m5
  have c_m6 : w1.cell? ⟨w.heap.size + 1 + 1 + 1, 6, none⟩ = some (.string ⟨#[]⟩) := HK1.out.m6
  have c_m7 : w1.cell? ⟨w.heap.size + 1 + 1 + 1, 7, none⟩ = some (.slice none 0 0) := HK1.out.m7
  have q_m : w.heap.size + 1 + 1 + 1 < w1.heap.size := HK1.out.mlt
  have c_t0 : w1.cell? ⟨w.heap.size + 1 + 1 + 1 + 1, 0, none⟩ = some (.int .i64 0) := HK1.out.t0
  have c_t1 : w1.cell? ⟨w.heap.size + 1 + 1 + 1 + 1, 1, none⟩ = some (.int .i64 0) := HK1.out.t1
  have c_t2 : w1.cell? ⟨w.heap.size + 1 + 1 + 1 + 1, 2, none⟩ = some (.int .u32 7) := HK1.out.t2
  have c_t3 : w1.cell? ⟨w.heap.size + 1 + 1 + 1 + 1, 3, none⟩ = some (.bool false) := HK1.out.t3
  have c_t4 : w1.cell? ⟨w.heap.size + 1 + 1 + 1 + 1, 4, none⟩ = some (.string ⟨#[115]⟩) := HK1.out.t4
  have c_t5 : w1.cell? ⟨w.heap.size + 1 + 1 + 1 + 1, 5, none⟩ = some (.slice none 0 0) := HK1.out.t5
  have q_t : w.heap.size + 1 + 1 + 1 + 1 < w1.heap.size := HK1.out.tlt
  go_wp2_with fail
  refine (ok1 (by exact HK1.out.alloc _) (by simp) _).mono ?_
  rintro e w2 ⟨As1, Am1, At1, cs1, cm1, ct1, rfl, ⟨a1, a2, a3, a4⟩, hK, hb⟩
  clear c_s0 c_s1 c_s2 q_s c_m0 c_m1 c_m2 c_m3 c_m4 c_m5 c_m6 c_m7 q_m c_t0 c_t1 c_t2 c_t3 c_t4 c_t5 q_t
  clear hA hcell hb hcap hcap1 hc HK1
  have HK2 := Lib.hid hK; clear hK
  have c_v0 : w2.cell? ⟨w.heap.size, 0, none⟩ = some (.int .i64 1) := HK2.out.v0
  have c_v1 : w2.cell? ⟨w.heap.size, 1, none⟩ = some (.int .i64 2) := HK2.out.v1
  have c_v2 : w2.cell? ⟨w.heap.size, 2, none⟩ = some (.string ⟨#[120]⟩) := HK2.out.v2
  have q_v : w.heap.size < w2.heap.size := HK2.out.vlt
  have c_s0 : w2.cell? ⟨w.heap.size + 1 + 1, 0, none⟩ = some (.int .i64 0) := HK2.out.s0
  have c_s1 : w2.cell? ⟨w.heap.size + 1 + 1, 1, none⟩ = some (.int .i64 0) := HK2.out.s1
  have c_s2 : w2.cell? ⟨w.heap.size + 1 + 1, 2, none⟩ = some (.slice (some ⟨w.heap.size + 1, 0, none⟩) 1 1) := HK2.out.s2
  have q_s : w.heap.size + 1 + 1 < w2.heap.size := HK2.out.slt
  go_wp2_with fail
  refine (ok2 (by exact HK2.out.alloc _) (by simp) _).mono ?_
  rintro e w3 ⟨As2, Am2, At2, cs2, cm2, ct2, rfl, ⟨b1, b2⟩, hK, hb⟩
  clear c_v0 c_v1 c_v2 q_v c_s0 c_s1 c_s2 q_s
  have HA3 := Lib.hid (show Has w3 w2.heap.size 32 #[.bool false, .int .i64 0, .int .i64 0, .string ⟨#[]⟩, .int .i64 0, .int .i64 0, .slice As1 1 cs1, .slice Am1 2 cm1, .slice At1 1 ct1] from (Has.new w2 _ _).below hb (by simp))
  clear hb HK2
  have HK3 := Lib.hid hK; clear hK
  have c_s0 : w3.cell? ⟨w.heap.size + 1 + 1, 0, none⟩ = some (.int .i64 0) := HK3.out.s0
  have c_s1 : w3.cell? ⟨w.heap.size + 1 + 1, 1, none⟩ = some (.int .i64 0) := HK3.out.s1
  have c_s2 : w3.cell? ⟨w.heap.size + 1 + 1, 2, none⟩ = some (.slice (some ⟨w.heap.size + 1, 0, none⟩) 1 1) := HK3.out.s2
  have q_s : w.heap.size + 1 + 1 < w3.heap.size := HK3.out.slt
  have c_t0 : w3.cell? ⟨w.heap.size + 1 + 1 + 1 + 1, 0, none⟩ = some (.int .i64 0) := HK3.out.t0
  have c_t1 : w3.cell? ⟨w.heap.size + 1 + 1 + 1 + 1, 1, none⟩ = some (.int .i64 0) := HK3.out.t1
  have c_t2 : w3.cell? ⟨w.heap.size + 1 + 1 + 1 + 1, 2, none⟩ = some (.int .u32 7) := HK3.out.t2
  have c_t3 : w3.cell? ⟨w.heap.size + 1 + 1 + 1 + 1, 3, none⟩ = some (.bool false) := HK3.out.t3
  have c_t4 : w3.cell? ⟨w.heap.size + 1 + 1 + 1 + 1, 4, none⟩ = some (.string ⟨#[115]⟩) := HK3.out.t4
  have c_t5 : w3.cell? ⟨w.heap.size + 1 + 1 + 1 + 1, 5, none⟩ = some (.slice none 0 0) := HK3.out.t5
  have q_t : w.heap.size + 1 + 1 + 1 + 1 < w3.heap.size := HK3.out.tlt
  go_wp2_with fail
  refine (ok3 (by exact HK3.out.alloc _) (by simp) _).mono ?_
  rintro e w4 ⟨As3, Am3, g3, cs3, cm3, ct3, rfl, ⟨d1, d2, d3⟩, hg3, hcell3, hK, hb⟩
  clear c_s0 c_s1 c_s2 q_s c_t0 c_t1 c_t2 c_t3 c_t4 c_t5 q_t
  have HA4 := Lib.hid (show Has w4 w2.heap.size 32 #[.bool false, .int .i64 0, .int .i64 0, .string ⟨#[]⟩, .int .i64 0, .int .i64 0, .slice As1 1 cs1, .slice Am1 2 cm1, .slice At1 1 ct1] from (HA3.out.alloc _).below hb (by have := HA3.out.lt; simp; omega))
  have HB4 := Lib.hid (show Has w4 w3.heap.size 32 #[.bool true, .int .i64 1, .int .i64 2, .string ⟨#[120]⟩, .int .i64 0, .int .i64 0, .slice As2 1 cs2, .slice Am2 0 cm2, .slice At2 0 ct2] from (Has.new w3 _ _).below hb (by simp))
  clear hb HK3 HA3
  have HK4 := Lib.hid hK; clear hK
  have c_v0 : w4.cell? ⟨w.heap.size, 0, none⟩ = some (.int .i64 1) := HK4.out.v0
  have c_v1 : w4.cell? ⟨w.heap.size, 1, none⟩ = some (.int .i64 2) := HK4.out.v1
  have c_v2 : w4.cell? ⟨w.heap.size, 2, none⟩ = some (.string ⟨#[120]⟩) := HK4.out.v2
  have q_v : w.heap.size < w4.heap.size := HK4.out.vlt
  have ca_0 : w4.cell? ⟨w2.heap.size, 0, none⟩ = some (.bool false) := HA4.out.cell 0
  have ca_7 : w4.cell? ⟨w2.heap.size, 7, none⟩ = some (.slice Am1 2 cm1) := HA4.out.cell 7
  have ca_8 : w4.cell? ⟨w2.heap.size, 8, none⟩ = some (.slice At1 1 ct1) := HA4.out.cell 8
  have cb_0 : w4.cell? ⟨w3.heap.size, 0, none⟩ = some (.bool true) := HB4.out.cell 0
  have cb_1 : w4.cell? ⟨w3.heap.size, 1, none⟩ = some (.int .i64 1) := HB4.out.cell 1
  have cb_2 : w4.cell? ⟨w3.heap.size, 2, none⟩ = some (.int .i64 2) := HB4.out.cell 2
  have cb_3 : w4.cell? ⟨w3.heap.size, 3, none⟩ = some (.string ⟨#[120]⟩) := HB4.out.cell 3
  have qa := HA4.out.lt
  have qb := HB4.out.lt
  go_wp2_with fail
  clear ca_0 ca_7 ca_8 cb_0 cb_1 cb_2 cb_3 qa qb HA4 HB4 hcell3 hg3 a1 a2 a3 a4 b1 b2 d1 d2 d3
  clear c_v0 c_v1 c_v2 q_v
  refine (nil_k (by exact HK4.out.alloc _)).mono ?_
  rintro e w5 ⟨rfl, hK⟩
  have HK5 := Lib.hid hK; clear hK HK4
  have c_v0 : w5.cell? ⟨w.heap.size, 0, none⟩ = some (.int .i64 1) := HK5.out.v0
  have c_v1 : w5.cell? ⟨w.heap.size, 1, none⟩ = some (.int .i64 2) := HK5.out.v1
  have c_v2 : w5.cell? ⟨w.heap.size, 2, none⟩ = some (.string ⟨#[120]⟩) := HK5.out.v2
  have q_v : w.heap.size < w5.heap.size := HK5.out.vlt
  go_wp2_with fail
  refine (no_k (by exact HK5.out) (by simp) [.v] _ (by decide) 2 1 e2).mono ?_
  rintro e w6 ⟨rfl, hK⟩
  clear c_v0 c_v1 c_v2 q_v
  have HK6 := Lib.hid hK; clear hK HK5
  have c_m0 : w6.cell? ⟨w.heap.size + 1 + 1 + 1, 0, none⟩ = some (.int .i64 3) := HK6.out.m0
  have c_m1 : w6.cell? ⟨w.heap.size + 1 + 1 + 1, 1, none⟩ = some (.int .i64 1) := HK6.out.m1
  have c_m2 : w6.cell? ⟨w.heap.size + 1 + 1 + 1, 2, none⟩ = some (.int .u32 7) := HK6.out.m2
  have c_m3 : w6.cell? ⟨w.heap.size + 1 + 1 + 1, 3, none⟩ = some (.bool false) := HK6.out.m3
  have c_m4 : w6.cell? ⟨w.heap.size + 1 + 1 + 1, 4, none⟩ = some (.string ⟨#[109]⟩) := HK6.out.m4
  have c_m5 : w6.cell? ⟨w.heap.size + 1 + 1 + 1, 5, none⟩ = some (.int .i64 0) := HK6.out.m5
  have c_m6 : w6.cell? ⟨w.heap.size + 1 + 1 + 1, 6, none⟩ = some (.string ⟨#[]⟩) := HK6.out.m6
  have c_m7 : w6.cell? ⟨w.heap.size + 1 + 1 + 1, 7, none⟩ = some (.slice none 0 0) := HK6.out.m7
  have q_m : w.heap.size + 1 + 1 + 1 < w6.heap.size := HK6.out.mlt
  have c_s0 : w6.cell? ⟨w.heap.size + 1 + 1, 0, none⟩ = some (.int .i64 0) := HK6.out.s0
  have c_s1 : w6.cell? ⟨w.heap.size + 1 + 1, 1, none⟩ = some (.int .i64 0) := HK6.out.s1
  have c_s2 : w6.cell? ⟨w.heap.size + 1 + 1, 2, none⟩ = some (.slice (some ⟨w.heap.size + 1, 0, none⟩) 1 1) := HK6.out.s2
  have q_s : w.heap.size + 1 + 1 < w6.heap.size := HK6.out.slt
  go_wp2_with fail
  refine (no_k (by exact HK6.out) (by simp) [.m, .s] _ (by decide) 4 0 e3).mono ?_
  rintro e w7 ⟨rfl, hK⟩
  clear c_m0 c_m1 c_m2 c_m3 c_m4 c_m5 c_m6 c_m7 q_m c_s0 c_s1 c_s2 q_s
  have HK7 := Lib.hid hK; clear hK HK6
  have c_s0 : w7.cell? ⟨w.heap.size + 1 + 1, 0, none⟩ = some (.int .i64 0) := HK7.out.s0
  have c_s1 : w7.cell? ⟨w.heap.size + 1 + 1, 1, none⟩ = some (.int .i64 0) := HK7.out.s1
  have c_s2 : w7.cell? ⟨w.heap.size + 1 + 1, 2, none⟩ = some (.slice (some ⟨w.heap.size + 1, 0, none⟩) 1 1) := HK7.out.s2
  have q_s : w.heap.size + 1 + 1 < w7.heap.size := HK7.out.slt
  have c_v0 : w7.cell? ⟨w.heap.size, 0, none⟩ = some (.int .i64 1) := HK7.out.v0
  have c_v1 : w7.cell? ⟨w.heap.size, 1, none⟩ = some (.int .i64 2) := HK7.out.v1
  have c_v2 : w7.cell? ⟨w.heap.size, 2, none⟩ = some (.string ⟨#[120]⟩) := HK7.out.v2
  have q_v : w.heap.size < w7.heap.size := HK7.out.vlt
  go_wp2_with fail
  refine (no_k (by exact HK7.out) (by simp) [.s, .v] _ (by decide) 4 1 e4).mono ?_
  rintro e w8 ⟨rfl, hK⟩
  clear c_s0 c_s1 c_s2 q_s c_v0 c_v1 c_v2 q_v
  have HK8 := Lib.hid hK; clear hK HK7
  have c_s0 : w8.cell? ⟨w.heap.size + 1 + 1, 0, none⟩ = some (.int .i64 0) := HK8.out.s0
  have c_s1 : w8.cell? ⟨w.heap.size + 1 + 1, 1, none⟩ = some (.int .i64 0) := HK8.out.s1
  have c_s2 : w8.cell? ⟨w.heap.size + 1 + 1, 2, none⟩ = some (.slice (some ⟨w.heap.size + 1, 0, none⟩) 1 1) := HK8.out.s2
  have q_s : w.heap.size + 1 + 1 < w8.heap.size := HK8.out.slt
  go_wp2_with fail
  refine (no_k (by exact HK8.out.alloc _) (by simp) [.s, .s] _ (by decide) 4 1 e5).mono ?_
  rintro e w9 ⟨rfl, hK⟩
  clear c_s0 c_s1 c_s2 q_s
  have HK9 := Lib.hid hK; clear hK HK8
  have c_m0 : w9.cell? ⟨w.heap.size + 1 + 1 + 1, 0, none⟩ = some (.int .i64 3) := HK9.out.m0
  have c_m1 : w9.cell? ⟨w.heap.size + 1 + 1 + 1, 1, none⟩ = some (.int .i64 1) := HK9.out.m1
  have c_m2 : w9.cell? ⟨w.heap.size + 1 + 1 + 1, 2, none⟩ = some (.int .u32 7) := HK9.out.m2
  have c_m3 : w9.cell? ⟨w.heap.size + 1 + 1 + 1, 3, none⟩ = some (.bool false) := HK9.out.m3
  have c_m4 : w9.cell? ⟨w.heap.size + 1 + 1 + 1, 4, none⟩ = some (.string ⟨#[109]⟩) := HK9.out.m4
  have c_m5 : w9.cell? ⟨w.heap.size + 1 + 1 + 1, 5, none⟩ = some (.int .i64 0) := HK9.out.m5
  have c_m6 : w9.cell? ⟨w.heap.size + 1 + 1 + 1, 6, none⟩ = some (.string ⟨#[]⟩) := HK9.out.m6
  have c_m7 : w9.cell? ⟨w.heap.size + 1 + 1 + 1, 7, none⟩ = some (.slice none 0 0) := HK9.out.m7
  have q_m : w.heap.size + 1 + 1 + 1 < w9.heap.size := HK9.out.mlt
  have c_s0 : w9.cell? ⟨w.heap.size + 1 + 1, 0, none⟩ = some (.int .i64 0) := HK9.out.s0
  have c_s1 : w9.cell? ⟨w.heap.size + 1 + 1, 1, none⟩ = some (.int .i64 0) := HK9.out.s1
  have c_s2 : w9.cell? ⟨w.heap.size + 1 + 1, 2, none⟩ = some (.slice (some ⟨w.heap.size + 1, 0, none⟩) 1 1) := HK9.out.s2
  have q_s : w.heap.size + 1 + 1 < w9.heap.size := HK9.out.slt
  have c_t0 : w9.cell? ⟨w.heap.size + 1 + 1 + 1 + 1, 0, none⟩ = some (.int .i64 0) := HK9.out.t0
  have c_t1 : w9.cell? ⟨w.heap.size + 1 + 1 + 1 + 1, 1, none⟩ = some (.int .i64 0) := HK9.out.t1
  have c_t2 : w9.cell? ⟨w.heap.size + 1 + 1 + 1 + 1, 2, none⟩ = some (.int .u32 7) := HK9.out.t2
  have c_t3 : w9.cell? ⟨w.heap.size + 1 + 1 + 1 + 1, 3, none⟩ = some (.bool false) := HK9.out.t3
  have c_t4 : w9.cell? ⟨w.heap.size + 1 + 1 + 1 + 1, 4, none⟩ = some (.string ⟨#[115]⟩) := HK9.out.t4
  have c_t5 : w9.cell? ⟨w.heap.size + 1 + 1 + 1 + 1, 5, none⟩ = some (.slice none 0 0) := HK9.out.t5
  have q_t : w.heap.size + 1 + 1 + 1 + 1 < w9.heap.size := HK9.out.tlt
  go_wp2_with fail
  refine (no_k (by exact HK9.out.alloc _) (by simp) [.s, .t, .m] _ (by decide) 4 2 e6).mono ?_
  rintro e w10 ⟨rfl, hK⟩
  clear c_m0 c_m1 c_m2 c_m3 c_m4 c_m5 c_m6 c_m7 q_m c_s0 c_s1 c_s2 q_s c_t0 c_t1 c_t2 c_t3 c_t4 c_t5 q_t
  have HK10 := Lib.hid hK; clear hK HK9
  have c_s0 : w10.cell? ⟨w.heap.size + 1 + 1, 0, none⟩ = some (.int .i64 0) := HK10.out.s0
  have c_s1 : w10.cell? ⟨w.heap.size + 1 + 1, 1, none⟩ = some (.int .i64 0) := HK10.out.s1
  have c_s2 : w10.cell? ⟨w.heap.size + 1 + 1, 2, none⟩ = some (.slice (some ⟨w.heap.size + 1, 0, none⟩) 1 1) := HK10.out.s2
  have q_s : w.heap.size + 1 + 1 < w10.heap.size := HK10.out.slt
  have c_v0 : w10.cell? ⟨w.heap.size, 0, none⟩ = some (.int .i64 1) := HK10.out.v0
  have c_v1 : w10.cell? ⟨w.heap.size, 1, none⟩ = some (.int .i64 2) := HK10.out.v1
  have c_v2 : w10.cell? ⟨w.heap.size, 2, none⟩ = some (.string ⟨#[120]⟩) := HK10.out.v2
  have q_v : w.heap.size < w10.heap.size := HK10.out.vlt
  go_wp2_with fail
  refine (no_k (by exact HK10.out.alloc _) (by simp) [.v, .v, .s] _ (by decide) 4 1 e7).mono ?_
  rintro e w11 ⟨rfl, hK⟩
  clear c_s0 c_s1 c_s2 q_s c_v0 c_v1 c_v2 q_v
  have HK11 := Lib.hid hK; clear hK HK10
  have c_s0 : w11.cell? ⟨w.heap.size + 1 + 1, 0, none⟩ = some (.int .i64 0) := HK11.out.s0
  have c_s1 : w11.cell? ⟨w.heap.size + 1 + 1, 1, none⟩ = some (.int .i64 0) := HK11.out.s1
  have c_s2 : w11.cell? ⟨w.heap.size + 1 + 1, 2, none⟩ = some (.slice (some ⟨w.heap.size + 1, 0, none⟩) 1 1) := HK11.out.s2
  have q_s : w.heap.size + 1 + 1 < w11.heap.size := HK11.out.slt
  go_wp2_with fail
  refine (no_k (by exact HK11.out.alloc _) (by simp) [.s, .n] _ (by decide) 4 1 e8).mono ?_
  rintro e w12 ⟨rfl, hK⟩
  clear c_s0 c_s1 c_s2 q_s
  have HK12 := Lib.hid hK; clear hK HK11
  go_wp2_with fail
  refine (asK.at_fault 2 0 0 _ (by omega) (by omega) (by exact HG.out.at_below (K.bel (HK12.out.alloc _)))).mono ?_
  rintro e w13 ⟨rfl, hb⟩
  have HK13 := Lib.hid (K.next (HK12.out.alloc _) hb); clear hb HK12
  go_wp2_with fail
  refine (asK.at_fault 2 0 1 _ (by omega) (by omega) (by exact HG.out.at_below (K.bel (HK13.out)))).mono ?_
  rintro e w14 ⟨rfl, hb⟩
  have HK14 := Lib.hid (K.next (HK13.out) hb); clear hb HK13
  go_wp2_with fail
  refine (asK.at_fault 4 0 0 _ (by omega) (by omega) (by exact HG.out.at_below (K.bel (HK14.out)))).mono ?_
  rintro e w15 ⟨rfl, hb⟩
  have HK15 := Lib.hid (K.next (HK14.out) hb); clear hb HK14
  go_wp2_with fail
  refine (asK.at_fault 4 0 1 _ (by omega) (by omega) (by exact HG.out.at_below (K.bel (HK15.out)))).mono ?_
  rintro e w16 ⟨rfl, hb⟩
  have HK16 := Lib.hid (K.next (HK15.out) hb); clear hb HK15
  go_wp2_with fail
  refine (asK.at_fault 4 0 1 _ (by omega) (by omega) (by exact HG.out.at_below (K.bel (HK16.out)))).mono ?_
  rintro e w17 ⟨rfl, hb⟩
  have HK17 := Lib.hid (K.next (HK16.out) hb); clear hb HK16
  go_wp2_with fail
  refine (asK.at_fault 4 0 2 _ (by omega) (by omega) (by exact HG.out.at_below (K.bel (HK17.out)))).mono ?_
  rintro e w18 ⟨rfl, hb⟩
  have HK18 := Lib.hid (K.next (HK17.out) hb); clear hb HK17
  go_wp2_with fail
  refine (asK.at_fault 4 0 1 _ (by omega) (by omega) (by exact HG.out.at_below (K.bel (HK18.out)))).mono ?_
  rintro e w19 ⟨rfl, hb⟩
  have HK19 := Lib.hid (K.next (HK18.out) hb); clear hb HK18
  go_wp2_with fail
  refine (asK.at_fault 4 0 1 _ (by omega) (by omega) (by exact HG.out.at_below (K.bel (HK19.out)))).mono ?_
  rintro e w20 ⟨rfl, hb⟩
  have HK20 := Lib.hid (K.next (HK19.out) hb); clear hb HK19
  have c_s0 : w20.cell? ⟨w.heap.size + 1 + 1, 0, none⟩ = some (.int .i64 0) := HK20.out.s0
  have c_s1 : w20.cell? ⟨w.heap.size + 1 + 1, 1, none⟩ = some (.int .i64 0) := HK20.out.s1
  have c_s2 : w20.cell? ⟨w.heap.size + 1 + 1, 2, none⟩ = some (.slice (some ⟨w.heap.size + 1, 0, none⟩) 1 1) := HK20.out.s2
  have q_s : w.heap.size + 1 + 1 < w20.heap.size := HK20.out.slt
  have c_m0 : w20.cell? ⟨w.heap.size + 1 + 1 + 1, 0, none⟩ = some (.int .i64 3) := HK20.out.m0
  have c_m1 : w20.cell? ⟨w.heap.size + 1 + 1 + 1, 1, none⟩ = some (.int .i64 1) := HK20.out.m1
  have c_m2 : w20.cell? ⟨w.heap.size + 1 + 1 + 1, 2, none⟩ = some (.int .u32 7) := HK20.out.m2
  have c_m3 : w20.cell? ⟨w.heap.size + 1 + 1 + 1, 3, none⟩ = some (.bool false) := HK20.out.m3
  have c_m4 : w20.cell? ⟨w.heap.size + 1 + 1 + 1, 4, none⟩ = some (.string ⟨#[109]⟩) := HK20.out.m4
  have c_m5 : w20.cell? ⟨w.heap.size + 1 + 1 + 1, 5, none⟩ = some (.int .i64 0) := HK20.out.m5
  have c_m6 : w20.cell? ⟨w.heap.size + 1 + 1 + 1, 6, none⟩ = some (.string ⟨#[]⟩) := HK20.out.m6
  have c_m7 : w20.cell? ⟨w.heap.size + 1 + 1 + 1, 7, none⟩ = some (.slice none 0 0) := HK20.out.m7
  have q_m : w.heap.size + 1 + 1 + 1 < w20.heap.size := HK20.out.mlt
  go_wp2_with fail
  refine (find1 (by exact HK20.out) (by simp) _).mono ?_
  rintro e w21 ⟨hK, Af, cf, rfl⟩
  clear c_s0 c_s1 c_s2 q_s c_m0 c_m1 c_m2 c_m3 c_m4 c_m5 c_m6 c_m7 q_m
  have HK21 := Lib.hid hK; clear hK HK20
  have c_s0 : w21.cell? ⟨w.heap.size + 1 + 1, 0, none⟩ = some (.int .i64 0) := HK21.out.s0
  have c_s1 : w21.cell? ⟨w.heap.size + 1 + 1, 1, none⟩ = some (.int .i64 0) := HK21.out.s1
  have c_s2 : w21.cell? ⟨w.heap.size + 1 + 1, 2, none⟩ = some (.slice (some ⟨w.heap.size + 1, 0, none⟩) 1 1) := HK21.out.s2
  have q_s : w.heap.size + 1 + 1 < w21.heap.size := HK21.out.slt
  have c_m0 : w21.cell? ⟨w.heap.size + 1 + 1 + 1, 0, none⟩ = some (.int .i64 3) := HK21.out.m0
  have c_m1 : w21.cell? ⟨w.heap.size + 1 + 1 + 1, 1, none⟩ = some (.int .i64 1) := HK21.out.m1
  have c_m2 : w21.cell? ⟨w.heap.size + 1 + 1 + 1, 2, none⟩ = some (.int .u32 7) := HK21.out.m2
  have c_m3 : w21.cell? ⟨w.heap.size + 1 + 1 + 1, 3, none⟩ = some (.bool false) := HK21.out.m3
  have c_m4 : w21.cell? ⟨w.heap.size + 1 + 1 + 1, 4, none⟩ = some (.string ⟨#[109]⟩) := HK21.out.m4
  have c_m5 : w21.cell? ⟨w.heap.size + 1 + 1 + 1, 5, none⟩ = some (.int .i64 0) := HK21.out.m5
  have c_m6 : w21.cell? ⟨w.heap.size + 1 + 1 + 1, 6, none⟩ = some (.string ⟨#[]⟩) := HK21.out.m6
  have c_m7 : w21.cell? ⟨w.heap.size + 1 + 1 + 1, 7, none⟩ = some (.slice none 0 0) := HK21.out.m7
  have q_m : w.heap.size + 1 + 1 + 1 < w21.heap.size := HK21.out.mlt
  go_wp2_with fail
  refine (find_k (by exact HK21.out.alloc _) (by simp) [.s, .m] _ (by decide) _ _ f2).mono ?_
  rintro e w22 ⟨⟨hK, hb⟩, rfl⟩
  clear c_s0 c_s1 c_s2 q_s c_m0 c_m1 c_m2 c_m3 c_m4 c_m5 c_m6 c_m7 q_m
  have HX := Lib.hid (show Has w22 w21.heap.size 74 #[.int .i64 3, .int .i64 1, .int .u32 7, .bool false, .string ⟨#[109]⟩, .int .i64 0, .string ⟨#[]⟩, .slice Af 0 cf] from (Has.new w21 _ _).below hb (by simp)); clear hb
  have HK22 := Lib.hid hK; clear hK HK21
  have hfl := msgf
  have c_v0 : w22.cell? ⟨w.heap.size, 0, none⟩ = some (.int .i64 1) := HK22.out.v0
  have c_v1 : w22.cell? ⟨w.heap.size, 1, none⟩ = some (.int .i64 2) := HK22.out.v1
  have c_v2 : w22.cell? ⟨w.heap.size, 2, none⟩ = some (.string ⟨#[120]⟩) := HK22.out.v2
  have q_v : w.heap.size < w22.heap.size := HK22.out.vlt
  go_wp2_with fail
  refine (kind_k (by exact HK22.out.alloc _) .v (.ver verX) (verCells verX) rfl).mono ?_
  rintro e w23 ⟨he, hK, hb⟩
  clear c_v0 c_v1 c_v2 q_v
  obtain rfl : e = .returned (.string ⟨#[118, 101, 114, 115, 105, 111, 110]⟩) := he
  have HXn := Lib.hid (Has.below (by exact HX.out.alloc _) hb (by have := HX.out.lt; (try simp); omega)); clear hb HX; have HX := HXn; clear HXn
  have HK23 := Lib.hid hK; clear hK HK22
  have c_m0 : w23.cell? ⟨w.heap.size + 1 + 1 + 1, 0, none⟩ = some (.int .i64 3) := HK23.out.m0
  have c_m1 : w23.cell? ⟨w.heap.size + 1 + 1 + 1, 1, none⟩ = some (.int .i64 1) := HK23.out.m1
  have c_m2 : w23.cell? ⟨w.heap.size + 1 + 1 + 1, 2, none⟩ = some (.int .u32 7) := HK23.out.m2
  have c_m3 : w23.cell? ⟨w.heap.size + 1 + 1 + 1, 3, none⟩ = some (.bool false) := HK23.out.m3
  have c_m4 : w23.cell? ⟨w.heap.size + 1 + 1 + 1, 4, none⟩ = some (.string ⟨#[109]⟩) := HK23.out.m4
  have c_m5 : w23.cell? ⟨w.heap.size + 1 + 1 + 1, 5, none⟩ = some (.int .i64 0) := HK23.out.m5
  have c_m6 : w23.cell? ⟨w.heap.size + 1 + 1 + 1, 6, none⟩ = some (.string ⟨#[]⟩) := HK23.out.m6
  have c_m7 : w23.cell? ⟨w.heap.size + 1 + 1 + 1, 7, none⟩ = some (.slice none 0 0) := HK23.out.m7
  have q_m : w.heap.size + 1 + 1 + 1 < w23.heap.size := HK23.out.mlt
  go_wp2_with fail
  refine (kind_k (by exact HK23.out) .m (.msg msgX) (msgCells msgX (.slice none 0 0)) rfl).mono ?_
  rintro e w24 ⟨he, hK, hb⟩
  clear c_m0 c_m1 c_m2 c_m3 c_m4 c_m5 c_m6 c_m7 q_m
  obtain rfl : e = .returned (.string ⟨#[109, 101, 115, 115, 97, 103, 101]⟩) := he
  have HXn := Lib.hid (Has.below (by exact HX.out) hb (by have := HX.out.lt; (try simp); omega)); clear hb HX; have HX := HXn; clear HXn
  have HK24 := Lib.hid hK; clear hK HK23
  have c_t0 : w24.cell? ⟨w.heap.size + 1 + 1 + 1 + 1, 0, none⟩ = some (.int .i64 0) := HK24.out.t0
  have c_t1 : w24.cell? ⟨w.heap.size + 1 + 1 + 1 + 1, 1, none⟩ = some (.int .i64 0) := HK24.out.t1
  have c_t2 : w24.cell? ⟨w.heap.size + 1 + 1 + 1 + 1, 2, none⟩ = some (.int .u32 7) := HK24.out.t2
  have c_t3 : w24.cell? ⟨w.heap.size + 1 + 1 + 1 + 1, 3, none⟩ = some (.bool false) := HK24.out.t3
  have c_t4 : w24.cell? ⟨w.heap.size + 1 + 1 + 1 + 1, 4, none⟩ = some (.string ⟨#[115]⟩) := HK24.out.t4
  have c_t5 : w24.cell? ⟨w.heap.size + 1 + 1 + 1 + 1, 5, none⟩ = some (.slice none 0 0) := HK24.out.t5
  have q_t : w.heap.size + 1 + 1 + 1 + 1 < w24.heap.size := HK24.out.tlt
  go_wp2_with fail
  refine (kind_k (by exact HK24.out) .t (.tab tabX) (tabCells tabX (.slice none 0 0)) rfl).mono ?_
  rintro e w25 ⟨he, hK, hb⟩
  clear c_t0 c_t1 c_t2 c_t3 c_t4 c_t5 q_t
  obtain rfl : e = .returned (.string ⟨#[116, 97, 98, 108, 101]⟩) := he
  have HXn := Lib.hid (Has.below (by exact HX.out) hb (by have := HX.out.lt; (try simp); omega)); clear hb HX; have HX := HXn; clear HXn
  have HK25 := Lib.hid hK; clear hK HK24
  go_wp2_with fail
  refine (kindn_k (by exact HK25.out)).mono ?_
  rintro e w26 ⟨rfl, hK, hb⟩
  have HXn := Lib.hid (HX.out.below hb HX.out.lt); clear hb HX; have HX := HXn; clear HXn
  have cx : w26.cell? ⟨w21.heap.size, 2, none⟩ = some (.int .u32 7) := HX.out.cell 2
  have HK26 := Lib.hid hK; clear hK HK25
  have c_m0 : w26.cell? ⟨w.heap.size + 1 + 1 + 1, 0, none⟩ = some (.int .i64 3) := HK26.out.m0
  have c_m1 : w26.cell? ⟨w.heap.size + 1 + 1 + 1, 1, none⟩ = some (.int .i64 1) := HK26.out.m1
  have c_m2 : w26.cell? ⟨w.heap.size + 1 + 1 + 1, 2, none⟩ = some (.int .u32 7) := HK26.out.m2
  have c_m3 : w26.cell? ⟨w.heap.size + 1 + 1 + 1, 3, none⟩ = some (.bool false) := HK26.out.m3
  have c_m4 : w26.cell? ⟨w.heap.size + 1 + 1 + 1, 4, none⟩ = some (.string ⟨#[109]⟩) := HK26.out.m4
  have c_m5 : w26.cell? ⟨w.heap.size + 1 + 1 + 1, 5, none⟩ = some (.int .i64 0) := HK26.out.m5
  have c_m6 : w26.cell? ⟨w.heap.size + 1 + 1 + 1, 6, none⟩ = some (.string ⟨#[]⟩) := HK26.out.m6
  have c_m7 : w26.cell? ⟨w.heap.size + 1 + 1 + 1, 7, none⟩ = some (.slice none 0 0) := HK26.out.m7
  have q_m : w.heap.size + 1 + 1 + 1 < w26.heap.size := HK26.out.mlt
  go_wp2_with fail
  refine (msg_k (by exact HK26.out)).mono ?_
  rintro e w27 ⟨⟨vm, rfl⟩, hK⟩
  clear c_m0 c_m1 c_m2 c_m3 c_m4 c_m5 c_m6 c_m7 q_m
  have HK27 := Lib.hid hK; clear hK HK26
  go_wp2
  go_ret
  exact ⟨rfl, HK27.out.bel⟩
end nodeKnownW
end Go.Proofs.YtoekdlipaomniaaDoor
