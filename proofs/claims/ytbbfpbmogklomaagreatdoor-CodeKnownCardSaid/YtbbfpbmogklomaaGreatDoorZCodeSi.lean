/- busbarref0.SameInstrs, of two that read as one; code.Print where the instruction is not right. No condition. -/
import Derived.Test.YtbbfpbmogklomaaGreatDoorZKl
namespace Go.Proofs.YtbbfpbmogklomaaGreatDoor
open Go.RowKit Go.Bus Go.Bus.cellK Go.Bus.codeK
set_option linter.unusedVariables false
set_option linter.unusedSimpArgs false
namespace codeW
theorem neq_ins (x : Ins) (w : World) : (binOp .neq 25 (.agg (insC x).toArray) (.agg (insC x).toArray)).run Tryz.prog w = .ok (.bool false) w := by
  obtain ⟨a, b, c, d, e⟩ := x
  simp [insC, go_sem]
/-- Element k of a program's slice. -/
theorem ins_at {w : World} {F : Foot} {A : Option Addr} {n cap k : Nat} {p : List Ins} (h : SlK 5 insE w F (.slice A n cap) p) (hk : k < p.length) :
    ∃ b off, A = some ⟨b, off, none⟩ ∧ F b ∧ w.cell? ⟨b, off + k * 5, none⟩ = some (.int .i64 p[k].op) ∧ w.cell? ⟨b, off + k * 5 + 1, none⟩ = some (.int .i64 p[k].a) ∧ w.cell? ⟨b, off + k * 5 + 2, none⟩ = some (.int .i64 p[k].b) ∧ w.cell? ⟨b, off + k * 5 + 3, none⟩ = some (.int .i64 p[k].n) ∧ w.cell? ⟨b, off + k * 5 + 4, none⟩ = some (.int .u64 p[k].imm) := by
  obtain ⟨b, off, cs, hA, hb, hl, hr, hE⟩ := h.at_ hk
  unfold insE insC at hE
  subst hE
  exact ⟨b, off, hA, hb, hr 0 _ rfl, hr 1 _ rfl, hr 2 _ rfl, hr 3 _ rfl, hr 4 _ rfl⟩
set_option maxRecDepth 100000 in
set_option maxHeartbeats 1000000 in
theorem sameinstrs_any {p : List Ins} {u v : Value} {F G : Foot} (w : World) (h : SlK 5 insE w F u p) (h' : SlK 5 insE w G v p) : Calls Tryz.prog 38 #[u, v] w fun e w' => e = .returned (.bool true) ∧ ∃ n, w' = w.drewN n := by
  obtain ⟨A, cap, rfl, n1, m1⟩ := h.form
  obtain ⟨A', cap', rfl, n2, m2⟩ := h'.form
  unfold maxLen at m1 m2
  have HU := Lib.hid h; have HV := Lib.hid h'
  clear h h'
  go_enter Tryz.func38, Tryz.ntmps38
  go_wp2
  go_loopw [5] (fun i wr => ∃ k n : Nat, k ≤ p.length ∧ i = .int .i64 k ∧ wr = w.drewN n) (fun i _ => p.length - (intOf i).toNat)
  case atStart => exact ⟨0, 0, Nat.zero_le _, rfl, rfl⟩
  case round =>
    obtain ⟨k, n, hk, rfl, rfl⟩ := hrel
    by_cases hlt : k < p.length
    · obtain ⟨b, off, rfl, _, c0, c1, c2, c3, c4⟩ := ins_at HU.out hlt
      obtain ⟨b', off', rfl, _, d0, d1, d2, d3, d4⟩ := ins_at HV.out hlt
      generalize p[k] = x at *
      obtain ⟨x0, x1, x2, x3, x4⟩ := x
      have heq : ∀ W, (binOp .neq 25 (.agg #[.int .i64 x0, .int .i64 x1, .int .i64 x2, .int .i64 x3, .int .u64 x4]) (.agg #[.int .i64 x0, .int .i64 x1, .int .i64 x2, .int .i64 x3, .int .u64 x4])).run Tryz.prog W = .ok (.bool false) W := fun W => neq_ins ⟨x0, x1, x2, x3, x4⟩ W
      have hb1 : (0 : Int) ≤ (k : Int) := Int.natCast_nonneg _
      have hb2 : (k : Int) < (p.length : Int) := by omega
      go_wp2_with fail
      go_quiet (fail)
      go_wp2
      go_roundw
      case rel => exact ⟨k + 1, _, by omega, by go_num, rfl⟩
      case measure => simp [intOf]; omega
    · obtain rfl : k = p.length := by omega
      go_wp2
      go_ret
      exact ⟨rfl, _, rfl⟩
end codeW
end Go.Proofs.YtbbfpbmogklomaaGreatDoor
