/- Texts of this claim, one behind the other. No condition but those that each states. -/
import Derived.Test.YtllbpanfhlbbgaaDoorChecked
import Derived.WalkKit
import Derived.LaidEql
import Derived.Stop.Asserts
import Derived.RowKitTokens
import Derived.Lib.IfaceEq
import Derived.Lib.Hide
import Derived.LoopN
import Derived.Outline
import Derived.Test.YtllbpanfhlbbgaaDoorBase
import Derived.Deep.RegionHeld3

namespace Go.Proofs.YtllbpanfhlbbgaaDoor
open Go.RowKit Go.Extern.Stop Go.Stop Go.Extern
set_option linter.unusedVariables false
namespace isK
theorem isTypeOf (v : Value) (w : World) : (Extern.ReflectliteType.typeOf #[.iface 64 v]).run Tryd.prog w = .ok (.iface 128 (.agg #[.pointer (some ⟨3, 64, none⟩)])) w := by kernel_rfl
theorem callComparable (w : World) : (callFunc 117 #[.agg #[.pointer (some ⟨3, 64, none⟩)]]).run Tryd.prog w = .ok (Next.value (.bool true)) w := by kernel_rfl
theorem isMethodComparable (n : Nat) (v : Value) (w : World) : (Go.method (n + 1) 128 v "Comparable").run Tryd.prog w = .ok (117, v) w := by kernel_rfl
theorem isComp : (Tryd.prog.info? 64).map (·.comparable) = some true := by kernel_rfl
theorem noIsE (v : Value) (xT : TypeId) (w : World) : (Instr.typeAssert (.iface 64 v) xT 142 true).run Tryd.prog w = .ok (.tuple #[.nilIface, .bool false]) w := run_typeAssert_lacksB Tryd.underlying142 (by kernel_rfl) (by kernel_rfl) v xT w
theorem noUnwrapE (v : Value) (xT : TypeId) (w : World) : (Instr.typeAssert (.iface 64 v) xT 135 true).run Tryd.prog w = .ok (.tuple #[.nilIface, .bool false]) w := run_typeAssert_lacksB Tryd.underlying135 (by kernel_rfl) (by kernel_rfl) v xT w
theorem noUnwrapsE (v : Value) (xT : TypeId) (w : World) : (Instr.typeAssert (.iface 64 v) xT 137 true).run Tryd.prog w = .ok (.tuple #[.nilIface, .bool false]) w := run_typeAssert_lacksB Tryd.underlying137 (by kernel_rfl) (by kernel_rfl) v xT w

set_option maxRecDepth 100000 in
set_option maxHeartbeats 1000000 in
theorem is_no (a b : Int) (w : World) :
    Calls Tryd.prog 56 #[.iface 64 (.int .i64 a), .iface 64 (.int .i64 b)] w fun e w' => e = .returned (.bool (a == b)) ∧ w = w' := by
  have h8 := @run_callFunc_extern Tryd.prog 84 _ Extern.ReflectliteType.typeOf Tryd.func84 (by kernel_rfl) (by kernel_rfl) (by kernel_rfl) (by kernel_rfl)
  have h32 := callComparable
  have tT := isTypeOf
  have mR := isMethodComparable
  have nE := noIsE
  have uE := noUnwrapE
  have vE := noUnwrapsE
  have heq := Lib.run_eql_iface_int (P := Tryd.prog) (k := .i64) w a b Tryd.underlying34 isComp Tryd.underlying64
  by_cases hab : a = b
  · have d0 : (a == b) = true := by simp [hab]
    rw [d0] at heq
    have HD := Lib.hid d0
    clear hab d0
    go_enter Tryd.func56, Tryd.ntmps56
    go_wp2
    refine wp_loop_rounds 1 ?_
    rw [rounds_succ]
    go_wp2
    go_ret
    exact ⟨by rw [HD.out]; rfl, rfl⟩
  · have d0 : (a == b) = false := by simp [hab]
    rw [d0] at heq
    have HD := Lib.hid d0
    clear hab d0
    go_enter Tryd.func56, Tryd.ntmps56
    go_wp2
    refine wp_loop_rounds 1 ?_
    rw [rounds_succ]
    go_wp2
    go_ret
    exact ⟨by rw [HD.out]; rfl, rfl⟩
end isK
end Go.Proofs.YtllbpanfhlbbgaaDoor

namespace Go.Proofs.YtllbpanfhlbbgaaDoor
open Go.RowKit Go.Bus
set_option linter.unusedVariables false
namespace isK
set_option maxRecDepth 100000 in
set_option maxHeartbeats 1000000 in
theorem num_no (a : Int) (w : World) (h1 : 1 ≤ a) (h2 : a ≤ 26) :
    Calls Tryd.prog 32 #[.iface 64 (.int .i64 a)] w fun e w' => e = .returned (.int .i64 a) ∧ w = w' := by
  go_enter Tryd.func32, Tryd.ntmps32
  go_wp2
  go_loopw [3, 4] (fun o i wr => ∃ k : Nat, 1 ≤ k ∧ k ≤ 27 ∧ i = .int .i64 k ∧ o = .int .i64 (if a < (k : Int) then a else 0) ∧ wr = w) (fun _ i _ => 27 - (intOf i).toNat)
  case atStart => exact ⟨1, by omega, by omega, rfl, by rw [if_neg (by omega)], rfl⟩
  case round =>
    obtain ⟨k, hk, hk', rfl, rfl, rfl⟩ := hrel
    by_cases hlt : k < 27
    · by_cases he : a = (k : Int)
      · subst he
        rw [if_neg (by omega)]
        go_wp2_with fail
        refine (is_no _ _ _).mono ?_
        rintro e w1 ⟨rfl, rfl⟩
        rw [show (((k : Nat) : Int) == (k : Int)) = true from by simp]
        go_wp2
        go_roundw
        case rel => exact ⟨k + 1, by omega, by omega, by go_num, by rw [if_pos (by omega)], by first | rfl | trivial⟩
        case measure => first | (simp [intOf]; done) | (simp [intOf]; omega)
      · have d0 : (a == (k : Int)) = false := by simp [he]
        have HE : Hid ((if a < ((k + 1 : Nat) : Int) then a else 0) = (if a < (k : Int) then a else 0)) := by
          unfold Hid
          by_cases hl : a < (k : Int)
          · rw [if_pos hl, if_pos (by omega)]
          · rw [if_neg hl, if_neg (by omega)]
        obtain ⟨o, ho⟩ : ∃ o, o = (if a < (k : Int) then a else 0) := ⟨_, rfl⟩
        rw [← ho] at HE
        rw [← ho]
        clear he ho
        go_wp2_with fail
        refine (is_no _ _ _).mono ?_
        rintro e w1 ⟨rfl, rfl⟩
        rw [d0]
        clear d0
        go_wp2
        go_roundw
        case rel => exact ⟨k + 1, by omega, by omega, by go_num, by rw [HE.out], by first | rfl | trivial⟩
        case measure => first | (simp [intOf]; done) | (simp [intOf]; omega)
    · obtain rfl : k = 27 := by omega
      rw [if_pos (by omega)]
      have d1 : (a == 0) = false := by simp; omega
      go_wp2_with fail
      refine (is_no _ _ _).mono ?_
      rintro e w1 ⟨rfl, rfl⟩
      go_wp2
      go_ret
      exact ⟨rfl, rfl⟩
end isK
end Go.Proofs.YtllbpanfhlbbgaaDoor

namespace Go.Proofs.YtllbpanfhlbbgaaDoor
open Go.RowKit Go.Bus Go.Extern.Stop Go.Stop Go.Extern
set_option linter.unusedVariables false
namespace isK
theorem noIsF (v : Value) (xT : TypeId) (w : World) : (Instr.typeAssert (.iface 67 v) xT 142 true).run Tryd.prog w = .ok (.tuple #[.nilIface, .bool false]) w := run_typeAssert_lacksB Tryd.underlying142 (by kernel_rfl) (by kernel_rfl) v xT w
theorem hasUnwrapF (v : Value) (xT : TypeId) (w : World) : (Instr.typeAssert (.iface 67 v) xT 135 true).run Tryd.prog w = .ok (.tuple #[.iface 67 v, .bool true]) w := run_typeAssert_hasB Tryd.underlying135 (by kernel_rfl) v xT w
theorem methodUnwrapF (n : Nat) (v : Value) (w : World) : (Go.method (n + 1) 67 v "Unwrap").run Tryd.prog w = .ok (111, v) w := by kernel_rfl

set_option maxRecDepth 100000 in
set_option maxHeartbeats 1000000 in
theorem is_fault (a l c b : Int) (w : World) :
    Calls Tryd.prog 56 #[.iface 67 (.agg #[.int .i64 a, .int .i64 l, .int .i64 c]), .iface 64 (.int .i64 b)] w fun e w' => e = .returned (.bool (a == b)) ∧ Below w.heap.size w w' := by
  have h8 := @run_callFunc_extern Tryd.prog 84 _ Extern.ReflectliteType.typeOf Tryd.func84 (by kernel_rfl) (by kernel_rfl) (by kernel_rfl) (by kernel_rfl)
  have h32 := callComparable
  have tT := isTypeOf
  have mR := isMethodComparable
  have nE := noIsE
  have uE := noUnwrapE
  have vE := noUnwrapsE
  have nF := noIsF
  have uF := hasUnwrapF
  have mF := methodUnwrapF
  have hty := run_eql_iface_types (P := Tryd.prog) 67 64 (.agg #[.int .i64 a, .int .i64 l, .int .i64 c]) (.int .i64 b) Tryd.underlying34 (by decide) w
  have heq := fun W => Lib.run_eql_iface_int (P := Tryd.prog) (k := .i64) W a b Tryd.underlying34 isComp Tryd.underlying64
  by_cases hab : a = b
  · have d0 : (a == b) = true := by simp [hab]
    simp only [d0] at heq
    have HD := Lib.hid d0
    clear hab d0
    go_enter Tryd.func56, Tryd.ntmps56
    go_wp2
    refine wp_loop_rounds 2 ?_
    rw [rounds_succ]
    go_wp2
    rw [rounds_succ]
    go_wp2
    go_ret
    exact ⟨by rw [HD.out]; rfl, (by repeat' (first | (with_reducible assumption) | (with_reducible refine Below.setCell ?_ ?_ _) | (with_reducible refine Below.alloc ?_ ?_ _) | (with_reducible refine Below.drew ?_) | (with_reducible refine below_drewN ?_ _) | (with_reducible exact Below.refl _ _) | (show _ ≤ _; (try simp); (try omega); done) | exact Below.refl _ _ | assumption))⟩
  · have d0 : (a == b) = false := by simp [hab]
    simp only [d0] at heq
    have HD := Lib.hid d0
    clear hab d0
    go_enter Tryd.func56, Tryd.ntmps56
    go_wp2
    refine wp_loop_rounds 2 ?_
    rw [rounds_succ]
    go_wp2
    rw [rounds_succ]
    go_wp2
    go_ret
    exact ⟨by rw [HD.out]; rfl, (by repeat' (first | (with_reducible assumption) | (with_reducible refine Below.setCell ?_ ?_ _) | (with_reducible refine Below.alloc ?_ ?_ _) | (with_reducible refine Below.drew ?_) | (with_reducible refine below_drewN ?_ _) | (with_reducible exact Below.refl _ _) | (show _ ≤ _; (try simp); (try omega); done) | exact Below.refl _ _ | assumption))⟩

set_option maxRecDepth 100000 in
set_option maxHeartbeats 1000000 in
theorem num_fault (a l c : Int) (w : World) (h1 : 1 ≤ a) (h2 : a ≤ 26) :
    Calls Tryd.prog 32 #[.iface 67 (.agg #[.int .i64 a, .int .i64 l, .int .i64 c])] w fun e w' => e = .returned (.int .i64 a) ∧ Below w.heap.size w w' := by
  go_enter Tryd.func32, Tryd.ntmps32
  go_wp2
  go_loopw [3, 4] (fun o i wr => ∃ k : Nat, 1 ≤ k ∧ k ≤ 27 ∧ i = .int .i64 k ∧ o = .int .i64 (if a < (k : Int) then a else 0) ∧ Below w.heap.size w wr) (fun _ i _ => 27 - (intOf i).toNat)
  case atStart => exact ⟨1, by omega, by omega, rfl, by rw [if_neg (by omega)], Below.refl _ _⟩
  case round =>
    obtain ⟨k, hk, hk', rfl, rfl, hB⟩ := hrel
    have HB := Lib.hid hB; clear hB
    by_cases hlt : k < 27
    · by_cases he : a = (k : Int)
      · subst he
        rw [if_neg (by omega)]
        go_wp2_with fail
        refine (is_fault _ _ _ _ _).mono ?_
        rintro e w1 ⟨rfl, hb1⟩
        have HB1 := Lib.hid (HB.out.trans (hb1.mono HB.out.size)); clear hb1
        rw [show (((k : Nat) : Int) == (k : Int)) = true from by simp]
        go_wp2
        go_roundw
        case rel => exact ⟨k + 1, by omega, by omega, by go_num, by rw [if_pos (by omega)], HB1.out⟩
        case measure => first | (simp [intOf]; done) | (simp [intOf]; omega)
      · have d0 : (a == (k : Int)) = false := by simp [he]
        have HE : Hid ((if a < ((k + 1 : Nat) : Int) then a else 0) = (if a < (k : Int) then a else 0)) := by
          unfold Hid
          by_cases hl : a < (k : Int)
          · rw [if_pos hl, if_pos (by omega)]
          · rw [if_neg hl, if_neg (by omega)]
        obtain ⟨o, ho⟩ : ∃ o, o = (if a < (k : Int) then a else 0) := ⟨_, rfl⟩
        rw [← ho] at HE
        rw [← ho]
        clear he ho
        go_wp2_with fail
        refine (is_fault _ _ _ _ _).mono ?_
        rintro e w1 ⟨rfl, hb1⟩
        have HB1 := Lib.hid (HB.out.trans (hb1.mono HB.out.size)); clear hb1
        rw [d0]
        clear d0
        go_wp2
        go_roundw
        case rel => exact ⟨k + 1, by omega, by omega, by go_num, by rw [HE.out], HB1.out⟩
        case measure => first | (simp [intOf]; done) | (simp [intOf]; omega)
    · obtain rfl : k = 27 := by omega
      rw [if_pos (by omega)]
      have d1 : (a == 0) = false := by simp; omega
      go_wp2_with fail
      refine (is_fault _ _ _ _ _).mono ?_
      rintro e w1 ⟨rfl, hb1⟩
      have HB1 := Lib.hid (HB.out.trans (hb1.mono HB.out.size)); clear hb1
      go_wp2
      go_ret
      exact ⟨rfl, HB1.out⟩

set_option maxRecDepth 100000 in
set_option maxHeartbeats 1000000 in
theorem num_nil (w : World) : Calls Tryd.prog 32 #[.nilIface] w fun e w' => e = .returned (.int .i64 0) ∧ w = w' := by
  go_enter Tryd.func32, Tryd.ntmps32
  go_wp2
  go_ret
  exact ⟨rfl, rfl⟩
end isK
end Go.Proofs.YtllbpanfhlbbgaaDoor

namespace Go.Proofs.YtllbpanfhlbbgaaDoor
open Go.RowKit Go.Bus Go.Extern.Stop Go.Stop Go.Extern
set_option linter.unusedVariables false
namespace asK
/-- The variable errors.errorType as its initialiser lays it. -/
def ErrT (w : World) : Prop := w.cell? ⟨0, 0, none⟩ = some (.iface 128 (.agg #[.pointer (some ⟨3, 34, none⟩)]))
theorem ErrT.lt {w : World} (h : ErrT w) : 0 < w.heap.size := World.block_lt_of_cell? w ⟨0, 0, none⟩ h
theorem ErrT.below {B : Nat} {w w' : World} (h : ErrT w) (hb : Below B w w') (hB : 0 < B) : ErrT w' := (hb.cell (p := ⟨0, 0, none⟩) hB).trans h
theorem ErrT.at_below {w w' : World} (h : ErrT w) (hb : Below w.heap.size w w') : ErrT w' := h.below hb h.lt

theorem valueOfP (t : Addr) (w : World) : (ReflectliteValue.unpack (.iface 70 (.pointer (some t)))).run Tryd.prog w
    = .ok (.agg #[.pointer (some ⟨3, 70, none⟩), .pointer (some ⟨w.heap.size, 0, none⟩), .int .u64 150]) (w.alloc (.cells #[.pointer (some t)] 70)) := by kernel_rfl
theorem typeP (a : Addr) (w : World) : (ReflectliteValue.methodAny (ReflectliteValue.valueError "reflectlite.Value.Type" 0) (fun t _ _ _ => ReflectliteType.toType t) #[.agg #[.pointer (some ⟨3, 70, none⟩), .pointer (some a), .int .u64 150]]).run Tryd.prog w
    = .ok (.iface 128 (.agg #[.pointer (some ⟨3, 70, none⟩)])) w := by kernel_rfl
theorem methodKind (n : Nat) (h : Value) (w : World) : (Go.method (n + 9) 128 (.agg #[h]) "Kind").run Tryd.prog w = .ok (106, h) w := by kernel_rfl
theorem kindP (w : World) : ((ReflectliteType.abiMethod fun t => (fun a : Nat => Value.int IntKind.u8 (a : Int)) <$> Rtype.kind t) #[.pointer (some ⟨3, 70, none⟩)]).run Tryd.prog w = .ok (.int .u8 22) w := by kernel_rfl
theorem kindF (w : World) : ((ReflectliteType.abiMethod fun t => (fun a : Nat => Value.int IntKind.u8 (a : Int)) <$> Rtype.kind t) #[.pointer (some ⟨3, 67, none⟩)]).run Tryd.prog w = .ok (.int .u8 25) w := by kernel_rfl
theorem rlm (z : Sem Value) (f : TypeId → Addr → Nat → Nat → Sem Value) (v : Value) :
    ReflectliteValue.method z f #[v] = (do match ← ReflectliteValue.parts v with | none => z | some (t, a, fl) => f t a fl (fl % 32)) := rfl
theorem partsP (a : Addr) (w : World) : (ReflectliteValue.parts (.agg #[.pointer (some ⟨3, 70, none⟩), .pointer (some a), .int .u64 150])).run Tryd.prog w = .ok (some (70, a, 150)) w := by kernel_rfl
theorem isNilP (a p : Addr) (W : World) (ha : W.cell? a = some (.pointer (some p))) :
    (ReflectliteValue.method (ReflectliteValue.valueError "reflectlite.Value.IsNil" 0) ReflectliteValue.isNil #[.agg #[.pointer (some ⟨3, 70, none⟩), .pointer (some a), .int .u64 150]]).run Tryd.prog W = .ok (.bool false) W := by
  rw [rlm]
  simp only [Sem.run_bind, partsP, Result.andThen]
  simp [ReflectliteValue.isNil, loadVar, isAgg, underlying, Tryd.underlying70, ha, Result.andThen]
theorem methodElem (n : Nat) (h : Value) (w : World) : (Go.method (n + 9) 128 (.agg #[h]) "Elem").run Tryd.prog w = .ok (118, .agg #[h]) w := by kernel_rfl
theorem methodImplements (n : Nat) (h : Value) (w : World) : (Go.method (n + 9) 128 (.agg #[h]) "Implements").run Tryd.prog w = .ok (119, .agg #[h]) w := by kernel_rfl
theorem methodAssignableTo (n : Nat) (h : Value) (w : World) : (Go.method (n + 9) 128 (.agg #[h]) "AssignableTo").run Tryd.prog w = .ok (116, .agg #[h]) w := by kernel_rfl
theorem elemP (w : World) : (ReflectliteType.method ReflectliteType.elem #[.agg #[.pointer (some ⟨3, 70, none⟩)]]).run Tryd.prog w = .ok (.iface 128 (.agg #[.pointer (some ⟨3, 67, none⟩)])) w := by kernel_rfl
theorem implementsF (w : World) : (ReflectliteType.relation "Implements" ReflectliteType.implements_ #[.agg #[.pointer (some ⟨3, 67, none⟩)], .iface 128 (.agg #[.pointer (some ⟨3, 34, none⟩)])]).run Tryd.prog w = .ok (.bool true) w := by kernel_rfl
theorem typeOfF (v : Value) (w : World) : (ReflectliteType.typeOf #[.iface 67 v]).run Tryd.prog w = .ok (.iface 128 (.agg #[.pointer (some ⟨3, 67, none⟩)])) w := by kernel_rfl
theorem assignableF (w : World) : (ReflectliteType.relation "AssignableTo" ReflectliteType.assignableTo #[.agg #[.pointer (some ⟨3, 67, none⟩)], .iface 128 (.agg #[.pointer (some ⟨3, 67, none⟩)])]).run Tryd.prog w = .ok (.bool true) w := by kernel_rfl
theorem assignableE (w : World) : (ReflectliteType.relation "AssignableTo" ReflectliteType.assignableTo #[.agg #[.pointer (some ⟨3, 64, none⟩)], .iface 128 (.agg #[.pointer (some ⟨3, 67, none⟩)])]).run Tryd.prog w = .ok (.bool false) w := by kernel_rfl
theorem valueOfF (x y z : Value) (hx : x.cells = #[x] := by rfl) (hy : y.cells = #[y] := by rfl) (hz : z.cells = #[z] := by rfl) (w : World) : (ReflectliteValue.unpack (.iface 67 (.agg #[x, y, z]))).run Tryd.prog w
    = .ok (.agg #[.pointer (some ⟨3, 67, none⟩), .pointer (some ⟨w.heap.size, 0, none⟩), .int .u64 153]) (w.alloc (.cells (Value.agg #[x, y, z]).cells 67)) := by kernel_rfl
theorem elemOfP (w : World) : (Rtype.elem? 70).run Tryd.prog w = .ok (some 67) w := by kernel_rfl
theorem mkF (p : Addr) (w : World) : (ReflectliteValue.mk 67 p ReflectliteValue.flagAddr).run Tryd.prog w = .ok (.agg #[.pointer (some ⟨3, 67, none⟩), .pointer (some p), .int .u64 409]) w := by kernel_rfl
theorem elemVP (a p : Addr) (W : World) (ha : W.cell? a = some (.pointer (some p))) :
    (ReflectliteValue.method (ReflectliteValue.valueError "reflectlite.Value.Elem" 0) ReflectliteValue.elem #[.agg #[.pointer (some ⟨3, 70, none⟩), .pointer (some a), .int .u64 150]]).run Tryd.prog W
      = .ok (.agg #[.pointer (some ⟨3, 67, none⟩), .pointer (some p), .int .u64 409]) W := by
  rw [rlm]
  simp only [Sem.run_bind, partsP, Result.andThen]
  simp [ReflectliteValue.elem, loadVar, isAgg, underlying, Tryd.underlying70, ha, Result.andThen, elemOfP, mkF]
theorem noAsE (v : Value) (xT : TypeId) (w : World) : (Instr.typeAssert (.iface 64 v) xT 132 true).run Tryd.prog w = .ok (.tuple #[.nilIface, .bool false]) w := run_typeAssert_lacksB Tryd.underlying132 (by kernel_rfl) (by kernel_rfl) v xT w
end asK
end Go.Proofs.YtllbpanfhlbbgaaDoor

namespace Go.Proofs.YtllbpanfhlbbgaaDoor
open Go.RowKit Go.Bus Go.Extern.Stop Go.Stop Go.Extern
set_option linter.unusedVariables false
namespace asK
theorem valueOfI (a l c : Int) (w : World) : (ReflectliteValue.unpack (.iface 67 (.agg #[.int .i64 a, .int .i64 l, .int .i64 c]))).run Tryd.prog w
    = .ok (.agg #[.pointer (some ⟨3, 67, none⟩), .pointer (some ⟨w.heap.size, 0, none⟩), .int .u64 153]) (w.alloc (.cells #[.int .i64 a, .int .i64 l, .int .i64 c] 67)) := by kernel_rfl
theorem partsA (a : Addr) (w : World) : (ReflectliteValue.parts (.agg #[.pointer (some ⟨3, 67, none⟩), .pointer (some a), .int .u64 409])).run Tryd.prog w = .ok (some (67, a, 409)) w := by kernel_rfl
theorem partsB (a : Addr) (w : World) : (ReflectliteValue.parts (.agg #[.pointer (some ⟨3, 67, none⟩), .pointer (some a), .int .u64 153])).run Tryd.prog w = .ok (some (67, a, 153)) w := by kernel_rfl
theorem directF (w : World) : (Rtype.directlyAssignable 67 67).run Tryd.prog w = .ok true w := by kernel_rfl

theorem rls (v x : Value) : ReflectliteValue.set #[v, x] = (do
    let (some (dst, a, fl), some (src, b, _)) := (← ReflectliteValue.parts v, ← ReflectliteValue.parts x)
      | unsupported (.noEntry "extern/(internal/reflectlite.Value).Set.zeroValue")
    if fl / ReflectliteValue.flagAddr % 2 == 0 then unsupported (.noEntry "extern/(internal/reflectlite.Value).Set.unaddressable")
    let val ← loadVar src b
    if ← Rtype.directlyAssignable dst src then storeVar dst a val
    else if ← Rtype.implements dst src then
      if (← Rtype.kind src) == 20 then
        match val with
        | .nilIface => unsupported (.noEntry "extern/reflectlite: a nil value of one interface type handed on as a value of another")
        | _ => storeVar dst a val
      else storeVar dst a (.iface src val)
    else panicString ("reflectlite.Set: value of type " ++ (← Rtype.spelt src) ++ " is not assignable to type " ++ (← Rtype.spelt dst))
    pure (.tuple #[])) := rfl

theorem setF (tb bb : Nat) (a l c o1 o2 o3 : Int) (W : World) (hb : Has W bb 67 #[.int .i64 a, .int .i64 l, .int .i64 c]) (ht : Has W tb 67 #[.int .i64 o1, .int .i64 o2, .int .i64 o3]) :
    (ReflectliteValue.set #[.agg #[.pointer (some ⟨3, 67, none⟩), .pointer (some ⟨tb, 0, none⟩), .int .u64 409], .agg #[.pointer (some ⟨3, 67, none⟩), .pointer (some ⟨bb, 0, none⟩), .int .u64 153]]).run Tryd.prog W
      = .ok (.tuple #[]) (((W.setCell ⟨tb, 0, none⟩ (.int .i64 a)).setCell ⟨tb, 1, none⟩ (.int .i64 l)).setCell ⟨tb, 2, none⟩ (.int .i64 c)) := by
  have b0 : W.cell? ⟨bb, 0, none⟩ = some (.int .i64 a) := hb.cell 0
  have b1 : W.cell? ⟨bb, 1, none⟩ = some (.int .i64 l) := hb.cell 1
  have b2 : W.cell? ⟨bb, 2, none⟩ = some (.int .i64 c) := hb.cell 2
  have ht1 := ht.set 0 (.int .i64 a)
  have ht2 := ht1.set 1 (.int .i64 l)
  have t0 : W.cell? ⟨tb, 0, none⟩ = some (.int .i64 o1) := ht.cell 0
  have t1 : (W.setCell ⟨tb, 0, none⟩ (.int .i64 a)).cell? ⟨tb, 1, none⟩ = some (.int .i64 o2) := ht1.cell 1
  have t2 : ((W.setCell ⟨tb, 0, none⟩ (.int .i64 a)).setCell ⟨tb, 1, none⟩ (.int .i64 l)).cell? ⟨tb, 2, none⟩ = some (.int .i64 o3) := ht2.cell 2
  have f0 := ht.frozen 0
  have f1 := ht1.frozen 1
  have f2 := ht2.frozen 2
  rw [rls]
  simp only [Sem.run_bind, partsA, partsB, Result.andThen]
  simp [ReflectliteValue.flagAddr, loadVar, isAgg, underlying, Tryd.underlying67, Result.andThen, directF, loadCells, loadCellsFrom, Addr.add, b0, b1, b2, storeVar, Value.cells, storeCells]
  rw [run_store Tryd.prog W ⟨tb, 0, none⟩ _ _ (by rfl)]
  simp [t0, f0]
  rw [run_store Tryd.prog _ ⟨tb, 1, none⟩ _ _ (by rfl)]
  simp [t1, f1]
  rw [run_store Tryd.prog _ ⟨tb, 2, none⟩ _ _ (by rfl)]
  simp [t2, f2]

set_option maxRecDepth 100000 in
set_option maxHeartbeats 2000000 in
theorem as_no (a : Int) (tb : Nat) (w : World) (hg : ErrT w) :
    Calls Tryd.prog 33 #[.iface 64 (.int .i64 a), .iface 70 (.pointer (some ⟨tb, 0, none⟩))] w fun ev w' => ev = .returned (.bool false) ∧ Below w.heap.size w w' := by
  have h6 := @run_callFunc_extern Tryd.prog 57 _ (fun args => ReflectliteValue.unpack (args.getD 0 (.tuple #[]))) Tryd.func57 (by kernel_rfl) (by kernel_rfl) (by kernel_rfl) (by kernel_rfl)
  have h7 := @run_callFunc_extern Tryd.prog 58 _ (ReflectliteValue.methodAny (ReflectliteValue.valueError "reflectlite.Value.Type" 0) (fun t _ _ _ => ReflectliteType.toType t)) Tryd.func58 (by kernel_rfl) (by kernel_rfl) (by kernel_rfl) (by kernel_rfl)
  have h8 := @run_callFunc_extern Tryd.prog 59 _ (ReflectliteValue.method (ReflectliteValue.valueError "reflectlite.Value.IsNil" 0) ReflectliteValue.isNil) Tryd.func59 (by kernel_rfl) (by kernel_rfl) (by kernel_rfl) (by kernel_rfl)
  have h27 := @run_callFunc_extern Tryd.prog 106 _ (ReflectliteType.abiMethod fun t => do pure (.int .u8 (← Rtype.kind t))) Tryd.func106 (by kernel_rfl) (by kernel_rfl) (by kernel_rfl) (by kernel_rfl)
  have h37 := @run_callFunc_extern Tryd.prog 118 _ (ReflectliteType.method ReflectliteType.elem) Tryd.func118 (by kernel_rfl) (by kernel_rfl) (by kernel_rfl) (by kernel_rfl)
  have h38 := @run_callFunc_extern Tryd.prog 119 _ (ReflectliteType.relation "Implements" ReflectliteType.implements_) Tryd.func119 (by kernel_rfl) (by kernel_rfl) (by kernel_rfl) (by kernel_rfl)
  have h10 := @run_callFunc_extern Tryd.prog 84 _ ReflectliteType.typeOf Tryd.func84 (by kernel_rfl) (by kernel_rfl) (by kernel_rfl) (by kernel_rfl)
  have h35 := @run_callFunc_extern Tryd.prog 116 _ (ReflectliteType.relation "AssignableTo" ReflectliteType.assignableTo) Tryd.func116 (by kernel_rfl) (by kernel_rfl) (by kernel_rfl) (by kernel_rfl)
  have tO := isK.isTypeOf
  have mA := methodAssignableTo
  have a25 := assignableE
  have f6 := valueOfP
  have f7 := typeP
  have mK := methodKind
  have mE := methodElem
  have mI := methodImplements
  have k27 := kindP
  have k25 := kindF
  have e27 := elemP
  have i25 := implementsF
  have nA := noAsE
  have uE := isK.noUnwrapE
  have vE := isK.noUnwrapsE
  have n8 := isNilP ⟨w.heap.size, 0, none⟩ ⟨tb, 0, none⟩ ((w.alloc (.cells #[.pointer (some ⟨tb, 0, none⟩)] 70)).alloc (.cells #[.pointer (some ⟨3, 70, none⟩), .pointer (some ⟨w.heap.size, 0, none⟩), .int .u64 150] 99)) (by simp)
  have hlt := hg.lt
  have hg2 : ((w.alloc (.cells #[.pointer (some ⟨tb, 0, none⟩)] 70)).alloc (.cells #[.pointer (some ⟨3, 70, none⟩), .pointer (some ⟨w.heap.size, 0, none⟩), .int .u64 150] 99)).cell? ⟨0, 0, none⟩ = some (.iface 128 (.agg #[.pointer (some ⟨3, 34, none⟩)])) := by
    rw [World.cell?_alloc_lt _ _ ⟨0, 0, none⟩ (by first | (simp; done) | (simp; omega)), World.cell?_alloc_lt _ _ ⟨0, 0, none⟩ hlt]; exact hg
  clear hg
  go_enter Tryd.func33, Tryd.ntmps33
  go_wp2
  refine wp_loop_rounds 1 ?_
  rw [rounds_succ]
  go_wp2
  go_ret
  exact ⟨rfl, (by repeat' (first | (with_reducible assumption) | (with_reducible refine Below.setCell ?_ ?_ _) | (with_reducible refine Below.alloc ?_ ?_ _) | (with_reducible refine Below.drew ?_) | (with_reducible refine below_drewN ?_ _) | (with_reducible exact Below.refl _ _) | (show _ ≤ _; (try simp); (try omega); done) | exact Below.refl _ _ | assumption))⟩

set_option maxRecDepth 100000 in
set_option maxHeartbeats 2000000 in
theorem as_fault (a l c o1 o2 o3 : Int) (tb : Nat) (w : World) (hg : ErrT w) (ht : Has w tb 67 #[.int .i64 o1, .int .i64 o2, .int .i64 o3]) :
    Calls Tryd.prog 33 #[.iface 67 (.agg #[.int .i64 a, .int .i64 l, .int .i64 c]), .iface 70 (.pointer (some ⟨tb, 0, none⟩))] w
      fun ev w' => ev = .returned (.bool true) ∧ Has w' tb 67 #[.int .i64 a, .int .i64 l, .int .i64 c] ∧ ∀ B, B ≤ tb → Below B w w' := by
  have h6 := @run_callFunc_extern Tryd.prog 57 _ (fun args => ReflectliteValue.unpack (args.getD 0 (.tuple #[]))) Tryd.func57 (by kernel_rfl) (by kernel_rfl) (by kernel_rfl) (by kernel_rfl)
  have h7 := @run_callFunc_extern Tryd.prog 58 _ (ReflectliteValue.methodAny (ReflectliteValue.valueError "reflectlite.Value.Type" 0) (fun t _ _ _ => ReflectliteType.toType t)) Tryd.func58 (by kernel_rfl) (by kernel_rfl) (by kernel_rfl) (by kernel_rfl)
  have h8 := @run_callFunc_extern Tryd.prog 59 _ (ReflectliteValue.method (ReflectliteValue.valueError "reflectlite.Value.IsNil" 0) ReflectliteValue.isNil) Tryd.func59 (by kernel_rfl) (by kernel_rfl) (by kernel_rfl) (by kernel_rfl)
  have h27 := @run_callFunc_extern Tryd.prog 106 _ (ReflectliteType.abiMethod fun t => do pure (.int .u8 (← Rtype.kind t))) Tryd.func106 (by kernel_rfl) (by kernel_rfl) (by kernel_rfl) (by kernel_rfl)
  have h37 := @run_callFunc_extern Tryd.prog 118 _ (ReflectliteType.method ReflectliteType.elem) Tryd.func118 (by kernel_rfl) (by kernel_rfl) (by kernel_rfl) (by kernel_rfl)
  have h38 := @run_callFunc_extern Tryd.prog 119 _ (ReflectliteType.relation "Implements" ReflectliteType.implements_) Tryd.func119 (by kernel_rfl) (by kernel_rfl) (by kernel_rfl) (by kernel_rfl)
  have h10 := @run_callFunc_extern Tryd.prog 84 _ ReflectliteType.typeOf Tryd.func84 (by kernel_rfl) (by kernel_rfl) (by kernel_rfl) (by kernel_rfl)
  have h35 := @run_callFunc_extern Tryd.prog 116 _ (ReflectliteType.relation "AssignableTo" ReflectliteType.assignableTo) Tryd.func116 (by kernel_rfl) (by kernel_rfl) (by kernel_rfl) (by kernel_rfl)
  have h11 := @run_callFunc_extern Tryd.prog 86 _ (ReflectliteValue.method (ReflectliteValue.valueError "reflectlite.Value.Elem" 0) ReflectliteValue.elem) Tryd.func86 (by kernel_rfl) (by kernel_rfl) (by kernel_rfl) (by kernel_rfl)
  have h12 := @run_callFunc_extern Tryd.prog 87 _ ReflectliteValue.set Tryd.func87 (by kernel_rfl) (by kernel_rfl) (by kernel_rfl) (by kernel_rfl)
  have tO := typeOfF
  have mA := methodAssignableTo
  have a25 := assignableF
  have v25 := valueOfI
  have f6 := valueOfP
  have f7 := typeP
  have mK := methodKind
  have mE := methodElem
  have mI := methodImplements
  have k27 := kindP
  have k25 := kindF
  have e27 := elemP
  have i25 := implementsF
  have n8 := isNilP ⟨w.heap.size, 0, none⟩ ⟨tb, 0, none⟩ ((w.alloc (.cells #[.pointer (some ⟨tb, 0, none⟩)] 70)).alloc (.cells #[.pointer (some ⟨3, 70, none⟩), .pointer (some ⟨w.heap.size, 0, none⟩), .int .u64 150] 99)) (by simp)
  have hlt := hg.lt
  have htl := ht.lt
  have hg2 : ((w.alloc (.cells #[.pointer (some ⟨tb, 0, none⟩)] 70)).alloc (.cells #[.pointer (some ⟨3, 70, none⟩), .pointer (some ⟨w.heap.size, 0, none⟩), .int .u64 150] 99)).cell? ⟨0, 0, none⟩ = some (.iface 128 (.agg #[.pointer (some ⟨3, 34, none⟩)])) := by
    rw [World.cell?_alloc_lt _ _ ⟨0, 0, none⟩ (by first | (simp; done) | (simp; omega)), World.cell?_alloc_lt _ _ ⟨0, 0, none⟩ hlt]; exact hg
  have el := elemVP ⟨w.heap.size, 0, none⟩ ⟨tb, 0, none⟩ (((w.alloc (.cells #[.pointer (some ⟨tb, 0, none⟩)] 70)).alloc (.cells #[.pointer (some ⟨3, 70, none⟩), .pointer (some ⟨w.heap.size, 0, none⟩), .int .u64 150] 99)).alloc (.cells #[.pointer (some ⟨3, 70, none⟩), .pointer (some ⟨w.heap.size, 0, none⟩), .int .u64 150] 99)) (by rw [World.cell?_alloc_lt _ _ ⟨w.heap.size, 0, none⟩ (by simp; omega)]; simp)
  have hT := (((ht.alloc (.cells #[.pointer (some ⟨tb, 0, none⟩)] 70)).alloc (.cells #[.pointer (some ⟨3, 70, none⟩), .pointer (some ⟨w.heap.size, 0, none⟩), .int .u64 150] 99)).alloc (.cells #[.pointer (some ⟨3, 70, none⟩), .pointer (some ⟨w.heap.size, 0, none⟩), .int .u64 150] 99)).alloc (.cells #[.int .i64 a, .int .i64 l, .int .i64 c] 67)
  have hS := Has.new (((w.alloc (.cells #[.pointer (some ⟨tb, 0, none⟩)] 70)).alloc (.cells #[.pointer (some ⟨3, 70, none⟩), .pointer (some ⟨w.heap.size, 0, none⟩), .int .u64 150] 99)).alloc (.cells #[.pointer (some ⟨3, 70, none⟩), .pointer (some ⟨w.heap.size, 0, none⟩), .int .u64 150] 99)) 67 #[.int .i64 a, .int .i64 l, .int .i64 c]
  have hsz : (((w.alloc (.cells #[.pointer (some ⟨tb, 0, none⟩)] 70)).alloc (.cells #[.pointer (some ⟨3, 70, none⟩), .pointer (some ⟨w.heap.size, 0, none⟩), .int .u64 150] 99)).alloc (.cells #[.pointer (some ⟨3, 70, none⟩), .pointer (some ⟨w.heap.size, 0, none⟩), .int .u64 150] 99)).heap.size = w.heap.size + 1 + 1 + 1 := by simp
  rw [hsz] at hS
  have st := setF tb (w.heap.size + 1 + 1 + 1) a l c o1 o2 o3 _ hS hT
  have hF := ((hT.set 0 (.int .i64 a)).set 1 (.int .i64 l)).set 2 (.int .i64 c)
  have HF := Lib.hid hF
  clear hg ht hT hS hsz hF
  go_enter Tryd.func33, Tryd.ntmps33
  go_wp2
  refine wp_loop_rounds 1 ?_
  rw [rounds_succ]
  go_wp2
  go_ret
  exact ⟨rfl, HF.out, fun B hB => (by repeat' (first | (with_reducible assumption) | (with_reducible refine Below.setCell ?_ ?_ _) | (with_reducible refine Below.alloc ?_ ?_ _) | (with_reducible refine Below.drew ?_) | (with_reducible refine below_drewN ?_ _) | (with_reducible exact Below.refl _ _) | (show _ ≤ _; (try simp); (try omega); done) | exact Below.refl _ _ | assumption))⟩
end asK
end Go.Proofs.YtllbpanfhlbbgaaDoor

namespace Go.Proofs.YtllbpanfhlbbgaaDoor
open Go.RowKit Go.Bus Go.Extern.Stop Go.Stop Go.Extern
set_option linter.unusedVariables false
namespace asK
set_option maxRecDepth 100000 in
set_option maxHeartbeats 1000000 in
theorem plain_nil (w : World) : Calls Tryd.prog 9 #[.nilIface, .int .i64 0] w fun e w' => e = .returned (.bool true) ∧ Below w.heap.size w w' := by
  go_enter Tryd.func9, Tryd.ntmps9
  go_wp2_with fail
  refine (isK.num_nil _).mono ?_
  rintro e w1 ⟨rfl, rfl⟩
  go_wp2
  go_ret
  exact ⟨rfl, (by repeat' (first | (with_reducible assumption) | (with_reducible refine Below.setCell ?_ ?_ _) | (with_reducible refine Below.alloc ?_ ?_ _) | (with_reducible refine Below.drew ?_) | (with_reducible refine below_drewN ?_ _) | (with_reducible exact Below.refl _ _) | (show _ ≤ _; (try simp); (try omega); done) | exact Below.refl _ _ | assumption))⟩

set_option maxRecDepth 100000 in
set_option maxHeartbeats 1000000 in
theorem plain_no (a : Int) (w : World) (h1 : 1 ≤ a) (h2 : a ≤ 26) (hg : ErrT w) : Calls Tryd.prog 9 #[.iface 64 (.int .i64 a), .int .i64 a] w fun e w' => e = .returned (.bool true) ∧ Below w.heap.size w w' := by
  have d : (a == a) = true := by simp
  have HG := Lib.hid hg; clear hg
  go_enter Tryd.func9, Tryd.ntmps9
  go_wp2_with fail
  refine (isK.num_no a _ h1 h2).mono ?_
  rintro e w1 ⟨rfl, rfl⟩
  go_wp2_with fail
  refine (as_no a _ _ (HG.out.at_below (by repeat' (first | (with_reducible assumption) | (with_reducible refine Below.setCell ?_ ?_ _) | (with_reducible refine Below.alloc ?_ ?_ _) | (with_reducible refine Below.drew ?_) | (with_reducible refine below_drewN ?_ _) | (with_reducible exact Below.refl _ _) | (show _ ≤ _; (try simp); (try omega); done) | exact Below.refl _ _ | assumption)))).mono ?_
  rintro e w1 ⟨rfl, hb1⟩
  have hB : Below w.heap.size w w1 := Below.trans (by repeat' (first | (with_reducible assumption) | (with_reducible refine Below.setCell ?_ ?_ _) | (with_reducible refine Below.alloc ?_ ?_ _) | (with_reducible refine Below.drew ?_) | (with_reducible refine below_drewN ?_ _) | (with_reducible exact Below.refl _ _) | (show _ ≤ _; (try simp); (try omega); done) | exact Below.refl _ _ | assumption)) (hb1.mono (by simp))
  have HB := Lib.hid hB
  clear hb1 hB
  go_wp2
  go_ret
  exact ⟨rfl, HB.out⟩

end asK
end Go.Proofs.YtllbpanfhlbbgaaDoor
