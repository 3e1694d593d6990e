/- errors.Is at this program's errors: an Errno, a Fault that wraps one, none; the target an Errno. -/
import Derived.Test.YtomkgnlooheibaaChecked
import Derived.WalkKit
import Derived.LaidEql
import Derived.Stop.Asserts
import Derived.RowKitTokens
import Derived.Lib.IfaceEq
import Derived.Lib.Hide
import Derived.LoopN
import Derived.Outline
namespace Go.Proofs.Ytomkgnlooheibaa
open Go.RowKit Go.Extern.Stop Go.Stop Go.Extern
set_option linter.unusedVariables false
namespace isK
theorem isTypeOf (v : Value) (w : World) : (Extern.ReflectliteType.typeOf #[.iface 70 v]).run Try.prog w = .ok (.iface 116 (.agg #[.pointer (some ⟨0, 70, none⟩)])) w := by kernel_rfl
theorem callComparable (w : World) : (callFunc 83 #[.agg #[.pointer (some ⟨0, 70, none⟩)]]).run Try.prog w = .ok (Next.value (.bool true)) w := by kernel_rfl
theorem isMethodComparable (n : Nat) (v : Value) (w : World) : (Go.method (n + 1) 116 v "Comparable").run Try.prog w = .ok (83, v) w := by kernel_rfl
theorem isComp : (Try.prog.info? 70).map (·.comparable) = some true := by kernel_rfl
theorem noIsE (v : Value) (xT : TypeId) (w : World) : (Instr.typeAssert (.iface 70 v) xT 118 true).run Try.prog w = .ok (.tuple #[.nilIface, .bool false]) w := run_typeAssert_lacksB Try.underlying118 (by kernel_rfl) (by kernel_rfl) v xT w
theorem noUnwrapE (v : Value) (xT : TypeId) (w : World) : (Instr.typeAssert (.iface 70 v) xT 121 true).run Try.prog w = .ok (.tuple #[.nilIface, .bool false]) w := run_typeAssert_lacksB Try.underlying121 (by kernel_rfl) (by kernel_rfl) v xT w
theorem noUnwrapsE (v : Value) (xT : TypeId) (w : World) : (Instr.typeAssert (.iface 70 v) xT 123 true).run Try.prog w = .ok (.tuple #[.nilIface, .bool false]) w := run_typeAssert_lacksB Try.underlying123 (by kernel_rfl) (by kernel_rfl) v xT w

set_option maxRecDepth 100000 in
set_option maxHeartbeats 1000000 in
theorem is_no (a b : Int) (w : World) :
    Calls Try.prog 26 #[.iface 70 (.int .i64 a), .iface 70 (.int .i64 b)] w fun e w' => e = .returned (.bool (a == b)) ∧ w = w' := by
  have h8 := @run_callFunc_extern Try.prog 40 _ Extern.ReflectliteType.typeOf Try.func40 (by kernel_rfl) (by kernel_rfl) (by kernel_rfl) (by kernel_rfl)
  have h32 := callComparable
  have tT := isTypeOf
  have mR := isMethodComparable
  have nE := noIsE
  have uE := noUnwrapE
  have vE := noUnwrapsE
  have heq := Lib.run_eql_iface_int (P := Try.prog) (k := .i64) w a b Try.underlying27 isComp Try.underlying70
  by_cases hab : a = b
  · have d0 : (a == b) = true := by simp [hab]
    rw [d0] at heq
    have HD := Lib.hid d0
    clear hab d0
    go_enter Try.func26, Try.ntmps26
    go_wp2
    refine wp_loop_rounds 1 ?_
    rw [rounds_succ]
    go_wp2
    go_ret
    exact ⟨by rw [HD.out]; rfl, rfl⟩
  · have d0 : (a == b) = false := by simp [hab]
    rw [d0] at heq
    have HD := Lib.hid d0
    clear hab d0
    go_enter Try.func26, Try.ntmps26
    go_wp2
    refine wp_loop_rounds 1 ?_
    rw [rounds_succ]
    go_wp2
    go_ret
    exact ⟨by rw [HD.out]; rfl, rfl⟩
end isK
end Go.Proofs.Ytomkgnlooheibaa
