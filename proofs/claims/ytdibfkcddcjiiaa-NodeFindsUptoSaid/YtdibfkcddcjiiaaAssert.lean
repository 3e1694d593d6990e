/- A type assertion with ok, at a struct type: met, not met, of nil. Plain. -/
import Derived.Test.YtdibfkcddcjiiaaBase
namespace Go.Bus
open Go.RowKit
set_option linter.unusedVariables false
variable {P : Program} {T t xT : TypeId} {fs : Array Field} {z v : Value}
theorem assert_hit (h : P.underlying T = some (.struct fs)) (v : Value) (w : World) : (Instr.typeAssert (.iface T v) xT T true).run P w = .ok (.tuple #[v, .bool true]) w := by
  simp [Instr.typeAssert, run_underlying h, go_sem, Result.andThen]
theorem assert_miss (h : P.underlying T = some (.struct fs)) (hz : (P.info? T).map (·.zero) = some (some z)) (hne : t ≠ T) (v : Value) (w : World) : (Instr.typeAssert (.iface t v) xT T true).run P w = .ok (.tuple #[z, .bool false]) w := by
  obtain ⟨i, hi, hiz⟩ := Option.map_eq_some_iff.1 hz
  simp [Instr.typeAssert, run_underlying h, go_sem, Result.andThen, hne, zeroValue, typeInfo, hi, hiz]
theorem assert_nil (h : P.underlying T = some (.struct fs)) (hz : (P.info? T).map (·.zero) = some (some z)) (w : World) : (Instr.typeAssert .nilIface xT T true).run P w = .ok (.tuple #[z, .bool false]) w := by
  obtain ⟨i, hi, hiz⟩ := Option.map_eq_some_iff.1 hz
  simp [Instr.typeAssert, run_underlying h, go_sem, Result.andThen, zeroValue, typeInfo, hi, hiz]
end Go.Bus
