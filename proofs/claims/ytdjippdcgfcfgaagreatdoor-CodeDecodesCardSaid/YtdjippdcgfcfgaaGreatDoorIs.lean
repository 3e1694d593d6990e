/- errors.Is at this program's errors: an Errno, a Fault that wraps one, none; the target an Errno. -/
import Derived.Test.YtdjippdcgfcfgaaGreatDoorChecked
import Derived.WalkKit
import Derived.LaidEql
import Derived.Stop.Asserts
import Derived.RowKitTokens
import Derived.Lib.IfaceEq
import Derived.Lib.Hide
import Derived.LoopN
import Derived.Outline
namespace Go.Proofs.YtdjippdcgfcfgaaGreatDoor
open Go.RowKit Go.Extern.Stop Go.Stop Go.Extern
set_option linter.unusedVariables false
namespace isK
theorem isTypeOf (v : Value) (w : World) : (Extern.ReflectliteType.typeOf #[.iface 54 v]).run Tryz.prog w = .ok (.iface 131 (.agg #[.pointer (some ⟨9, 54, none⟩)])) w := by kernel_rfl
theorem callComparable (w : World) : (callFunc 154 #[.agg #[.pointer (some ⟨9, 54, none⟩)]]).run Tryz.prog w = .ok (Next.value (.bool true)) w := by kernel_rfl
theorem isMethodComparable (n : Nat) (v : Value) (w : World) : (Go.method (n + 1) 131 v "Comparable").run Tryz.prog w = .ok (154, v) w := by kernel_rfl
theorem isComp : (Tryz.prog.info? 54).map (·.comparable) = some true := by kernel_rfl
theorem noIsE (v : Value) (xT : TypeId) (w : World) : (Instr.typeAssert (.iface 54 v) xT 154 true).run Tryz.prog w = .ok (.tuple #[.nilIface, .bool false]) w := run_typeAssert_lacksB Tryz.underlying154 (by kernel_rfl) (by kernel_rfl) v xT w
theorem noUnwrapE (v : Value) (xT : TypeId) (w : World) : (Instr.typeAssert (.iface 54 v) xT 139 true).run Tryz.prog w = .ok (.tuple #[.nilIface, .bool false]) w := run_typeAssert_lacksB Tryz.underlying139 (by kernel_rfl) (by kernel_rfl) v xT w
theorem noUnwrapsE (v : Value) (xT : TypeId) (w : World) : (Instr.typeAssert (.iface 54 v) xT 141 true).run Tryz.prog w = .ok (.tuple #[.nilIface, .bool false]) w := run_typeAssert_lacksB Tryz.underlying141 (by kernel_rfl) (by kernel_rfl) v xT w

set_option maxRecDepth 100000 in
set_option maxHeartbeats 1000000 in
theorem is_no (a b : Int) (w : World) :
    Calls Tryz.prog 59 #[.iface 54 (.int .i64 a), .iface 54 (.int .i64 b)] w fun e w' => e = .returned (.bool (a == b)) ∧ w = w' := by
  have h8 := @run_callFunc_extern Tryz.prog 88 _ Extern.ReflectliteType.typeOf Tryz.func88 (by kernel_rfl) (by kernel_rfl) (by kernel_rfl) (by kernel_rfl)
  have h32 := callComparable
  have tT := isTypeOf
  have mR := isMethodComparable
  have nE := noIsE
  have uE := noUnwrapE
  have vE := noUnwrapsE
  have heq := Lib.run_eql_iface_int (P := Tryz.prog) (k := .i64) w a b Tryz.underlying25 isComp Tryz.underlying54
  by_cases hab : a = b
  · have d0 : (a == b) = true := by simp [hab]
    rw [d0] at heq
    have HD := Lib.hid d0
    clear hab d0
    go_enter Tryz.func59, Tryz.ntmps59
    go_wp2
    refine wp_loop_rounds 1 ?_
    rw [rounds_succ]
    go_wp2
    go_ret
    exact ⟨by rw [HD.out]; rfl, rfl⟩
  · have d0 : (a == b) = false := by simp [hab]
    rw [d0] at heq
    have HD := Lib.hid d0
    clear hab d0
    go_enter Tryz.func59, Tryz.ntmps59
    go_wp2
    refine wp_loop_rounds 1 ?_
    rw [rounds_succ]
    go_wp2
    go_ret
    exact ⟨by rw [HD.out]; rfl, rfl⟩
end isK
end Go.Proofs.YtdjippdcgfcfgaaGreatDoor
