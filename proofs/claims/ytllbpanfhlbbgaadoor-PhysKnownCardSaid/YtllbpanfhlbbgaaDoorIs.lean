/- errors.Is at this program's errors: an Errno, a Fault that wraps one, none; the target an Errno. -/
import Derived.Test.YtllbpanfhlbbgaaDoorChecked
import Derived.WalkKit
import Derived.LaidEql
import Derived.Stop.Asserts
import Derived.RowKitTokens
import Derived.Lib.IfaceEq
import Derived.Lib.Hide
import Derived.LoopN
import Derived.Outline
namespace Go.Proofs.YtllbpanfhlbbgaaDoor
open Go.RowKit Go.Extern.Stop Go.Stop Go.Extern
set_option linter.unusedVariables false
namespace isK
theorem isTypeOf (v : Value) (w : World) : (Extern.ReflectliteType.typeOf #[.iface 64 v]).run Tryd.prog w = .ok (.iface 128 (.agg #[.pointer (some ⟨3, 64, none⟩)])) w := by kernel_rfl
theorem callComparable (w : World) : (callFunc 117 #[.agg #[.pointer (some ⟨3, 64, none⟩)]]).run Tryd.prog w = .ok (Next.value (.bool true)) w := by kernel_rfl
theorem isMethodComparable (n : Nat) (v : Value) (w : World) : (Go.method (n + 1) 128 v "Comparable").run Tryd.prog w = .ok (117, v) w := by kernel_rfl
theorem isComp : (Tryd.prog.info? 64).map (·.comparable) = some true := by kernel_rfl
theorem noIsE (v : Value) (xT : TypeId) (w : World) : (Instr.typeAssert (.iface 64 v) xT 142 true).run Tryd.prog w = .ok (.tuple #[.nilIface, .bool false]) w := run_typeAssert_lacksB Tryd.underlying142 (by kernel_rfl) (by kernel_rfl) v xT w
theorem noUnwrapE (v : Value) (xT : TypeId) (w : World) : (Instr.typeAssert (.iface 64 v) xT 135 true).run Tryd.prog w = .ok (.tuple #[.nilIface, .bool false]) w := run_typeAssert_lacksB Tryd.underlying135 (by kernel_rfl) (by kernel_rfl) v xT w
theorem noUnwrapsE (v : Value) (xT : TypeId) (w : World) : (Instr.typeAssert (.iface 64 v) xT 137 true).run Tryd.prog w = .ok (.tuple #[.nilIface, .bool false]) w := run_typeAssert_lacksB Tryd.underlying137 (by kernel_rfl) (by kernel_rfl) v xT w

set_option maxRecDepth 100000 in
set_option maxHeartbeats 1000000 in
theorem is_no (a b : Int) (w : World) :
    Calls Tryd.prog 56 #[.iface 64 (.int .i64 a), .iface 64 (.int .i64 b)] w fun e w' => e = .returned (.bool (a == b)) ∧ w = w' := by
  have h8 := @run_callFunc_extern Tryd.prog 84 _ Extern.ReflectliteType.typeOf Tryd.func84 (by kernel_rfl) (by kernel_rfl) (by kernel_rfl) (by kernel_rfl)
  have h32 := callComparable
  have tT := isTypeOf
  have mR := isMethodComparable
  have nE := noIsE
  have uE := noUnwrapE
  have vE := noUnwrapsE
  have heq := Lib.run_eql_iface_int (P := Tryd.prog) (k := .i64) w a b Tryd.underlying34 isComp Tryd.underlying64
  by_cases hab : a = b
  · have d0 : (a == b) = true := by simp [hab]
    rw [d0] at heq
    have HD := Lib.hid d0
    clear hab d0
    go_enter Tryd.func56, Tryd.ntmps56
    go_wp2
    refine wp_loop_rounds 1 ?_
    rw [rounds_succ]
    go_wp2
    go_ret
    exact ⟨by rw [HD.out]; rfl, rfl⟩
  · have d0 : (a == b) = false := by simp [hab]
    rw [d0] at heq
    have HD := Lib.hid d0
    clear hab d0
    go_enter Tryd.func56, Tryd.ntmps56
    go_wp2
    refine wp_loop_rounds 1 ?_
    rw [rounds_succ]
    go_wp2
    go_ret
    exact ⟨by rw [HD.out]; rfl, rfl⟩
end isK
end Go.Proofs.YtllbpanfhlbbgaaDoor
