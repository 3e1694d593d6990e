/- errors.As at an Errno (false) and at a Fault (true: the target is it). Condition: errors.errorType is laid. -/
import Derived.Test.YtllbpanfhlbbgaaDoorErrAs
namespace Go.Proofs.YtllbpanfhlbbgaaDoor
open Go.RowKit Go.Bus Go.Extern.Stop Go.Stop Go.Extern
set_option linter.unusedVariables false
namespace asK
theorem valueOfI (a l c : Int) (w : World) : (ReflectliteValue.unpack (.iface 67 (.agg #[.int .i64 a, .int .i64 l, .int .i64 c]))).run Tryd.prog w
    = .ok (.agg #[.pointer (some ⟨3, 67, none⟩), .pointer (some ⟨w.heap.size, 0, none⟩), .int .u64 153]) (w.alloc (.cells #[.int .i64 a, .int .i64 l, .int .i64 c] 67)) := by kernel_rfl
theorem partsA (a : Addr) (w : World) : (ReflectliteValue.parts (.agg #[.pointer (some ⟨3, 67, none⟩), .pointer (some a), .int .u64 409])).run Tryd.prog w = .ok (some (67, a, 409)) w := by kernel_rfl
theorem partsB (a : Addr) (w : World) : (ReflectliteValue.parts (.agg #[.pointer (some ⟨3, 67, none⟩), .pointer (some a), .int .u64 153])).run Tryd.prog w = .ok (some (67, a, 153)) w := by kernel_rfl
theorem directF (w : World) : (Rtype.directlyAssignable 67 67).run Tryd.prog w = .ok true w := by kernel_rfl

theorem rls (v x : Value) : ReflectliteValue.set #[v, x] = (do
    let (some (dst, a, fl), some (src, b, _)) := (← ReflectliteValue.parts v, ← ReflectliteValue.parts x)
      | unsupported (.noEntry "extern/(internal/reflectlite.Value).Set.zeroValue")
    if fl / ReflectliteValue.flagAddr % 2 == 0 then unsupported (.noEntry "extern/(internal/reflectlite.Value).Set.unaddressable")
    let val ← loadVar src b
    if ← Rtype.directlyAssignable dst src then storeVar dst a val
    else if ← Rtype.implements dst src then
      if (← Rtype.kind src) == 20 then
        match val with
        | .nilIface => unsupported (.noEntry "extern/reflectlite: a nil value of one interface type handed on as a value of another")
        | _ => storeVar dst a val
      else storeVar dst a (.iface src val)
    else panicString ("reflectlite.Set: value of type " ++ (← Rtype.spelt src) ++ " is not assignable to type " ++ (← Rtype.spelt dst))
    pure (.tuple #[])) := rfl

theorem setF (tb bb : Nat) (a l c o1 o2 o3 : Int) (W : World) (hb : Has W bb 67 #[.int .i64 a, .int .i64 l, .int .i64 c]) (ht : Has W tb 67 #[.int .i64 o1, .int .i64 o2, .int .i64 o3]) :
    (ReflectliteValue.set #[.agg #[.pointer (some ⟨3, 67, none⟩), .pointer (some ⟨tb, 0, none⟩), .int .u64 409], .agg #[.pointer (some ⟨3, 67, none⟩), .pointer (some ⟨bb, 0, none⟩), .int .u64 153]]).run Tryd.prog W
      = .ok (.tuple #[]) (((W.setCell ⟨tb, 0, none⟩ (.int .i64 a)).setCell ⟨tb, 1, none⟩ (.int .i64 l)).setCell ⟨tb, 2, none⟩ (.int .i64 c)) := by
  have b0 : W.cell? ⟨bb, 0, none⟩ = some (.int .i64 a) := hb.cell 0
  have b1 : W.cell? ⟨bb, 1, none⟩ = some (.int .i64 l) := hb.cell 1
  have b2 : W.cell? ⟨bb, 2, none⟩ = some (.int .i64 c) := hb.cell 2
  have ht1 := ht.set 0 (.int .i64 a)
  have ht2 := ht1.set 1 (.int .i64 l)
  have t0 : W.cell? ⟨tb, 0, none⟩ = some (.int .i64 o1) := ht.cell 0
  have t1 : (W.setCell ⟨tb, 0, none⟩ (.int .i64 a)).cell? ⟨tb, 1, none⟩ = some (.int .i64 o2) := ht1.cell 1
  have t2 : ((W.setCell ⟨tb, 0, none⟩ (.int .i64 a)).setCell ⟨tb, 1, none⟩ (.int .i64 l)).cell? ⟨tb, 2, none⟩ = some (.int .i64 o3) := ht2.cell 2
  have f0 := ht.frozen 0
  have f1 := ht1.frozen 1
  have f2 := ht2.frozen 2
  rw [rls]
  simp only [Sem.run_bind, partsA, partsB, Result.andThen]
  simp [ReflectliteValue.flagAddr, loadVar, isAgg, underlying, Tryd.underlying67, Result.andThen, directF, loadCells, loadCellsFrom, Addr.add, b0, b1, b2, storeVar, Value.cells, storeCells]
  rw [run_store Tryd.prog W ⟨tb, 0, none⟩ _ _ (by rfl)]
  simp [t0, f0]
  rw [run_store Tryd.prog _ ⟨tb, 1, none⟩ _ _ (by rfl)]
  simp [t1, f1]
  rw [run_store Tryd.prog _ ⟨tb, 2, none⟩ _ _ (by rfl)]
  simp [t2, f2]

set_option maxRecDepth 100000 in
set_option maxHeartbeats 2000000 in
theorem as_no (a : Int) (tb : Nat) (w : World) (hg : ErrT w) :
    Calls Tryd.prog 33 #[.iface 64 (.int .i64 a), .iface 70 (.pointer (some ⟨tb, 0, none⟩))] w fun ev w' => ev = .returned (.bool false) ∧ Below w.heap.size w w' := by
  have h6 := @run_callFunc_extern Tryd.prog 57 _ (fun args => ReflectliteValue.unpack (args.getD 0 (.tuple #[]))) Tryd.func57 (by kernel_rfl) (by kernel_rfl) (by kernel_rfl) (by kernel_rfl)
  have h7 := @run_callFunc_extern Tryd.prog 58 _ (ReflectliteValue.methodAny (ReflectliteValue.valueError "reflectlite.Value.Type" 0) (fun t _ _ _ => ReflectliteType.toType t)) Tryd.func58 (by kernel_rfl) (by kernel_rfl) (by kernel_rfl) (by kernel_rfl)
  have h8 := @run_callFunc_extern Tryd.prog 59 _ (ReflectliteValue.method (ReflectliteValue.valueError "reflectlite.Value.IsNil" 0) ReflectliteValue.isNil) Tryd.func59 (by kernel_rfl) (by kernel_rfl) (by kernel_rfl) (by kernel_rfl)
  have h27 := @run_callFunc_extern Tryd.prog 106 _ (ReflectliteType.abiMethod fun t => do pure (.int .u8 (← Rtype.kind t))) Tryd.func106 (by kernel_rfl) (by kernel_rfl) (by kernel_rfl) (by kernel_rfl)
  have h37 := @run_callFunc_extern Tryd.prog 118 _ (ReflectliteType.method ReflectliteType.elem) Tryd.func118 (by kernel_rfl) (by kernel_rfl) (by kernel_rfl) (by kernel_rfl)
  have h38 := @run_callFunc_extern Tryd.prog 119 _ (ReflectliteType.relation "Implements" ReflectliteType.implements_) Tryd.func119 (by kernel_rfl) (by kernel_rfl) (by kernel_rfl) (by kernel_rfl)
  have h10 := @run_callFunc_extern Tryd.prog 84 _ ReflectliteType.typeOf Tryd.func84 (by kernel_rfl) (by kernel_rfl) (by kernel_rfl) (by kernel_rfl)
  have h35 := @run_callFunc_extern Tryd.prog 116 _ (ReflectliteType.relation "AssignableTo" ReflectliteType.assignableTo) Tryd.func116 (by kernel_rfl) (by kernel_rfl) (by kernel_rfl) (by kernel_rfl)
  have tO := isK.isTypeOf
  have mA := methodAssignableTo
  have a25 := assignableE
  have f6 := valueOfP
  have f7 := typeP
  have mK := methodKind
  have mE := methodElem
  have mI := methodImplements
  have k27 := kindP
  have k25 := kindF
  have e27 := elemP
  have i25 := implementsF
  have nA := noAsE
  have uE := isK.noUnwrapE
  have vE := isK.noUnwrapsE
  have n8 := isNilP ⟨w.heap.size, 0, none⟩ ⟨tb, 0, none⟩ ((w.alloc (.cells #[.pointer (some ⟨tb, 0, none⟩)] 70)).alloc (.cells #[.pointer (some ⟨3, 70, none⟩), .pointer (some ⟨w.heap.size, 0, none⟩), .int .u64 150] 99)) (by simp)
  have hlt := hg.lt
  have hg2 : ((w.alloc (.cells #[.pointer (some ⟨tb, 0, none⟩)] 70)).alloc (.cells #[.pointer (some ⟨3, 70, none⟩), .pointer (some ⟨w.heap.size, 0, none⟩), .int .u64 150] 99)).cell? ⟨0, 0, none⟩ = some (.iface 128 (.agg #[.pointer (some ⟨3, 34, none⟩)])) := by
    rw [World.cell?_alloc_lt _ _ ⟨0, 0, none⟩ (by first | (simp; done) | (simp; omega)), World.cell?_alloc_lt _ _ ⟨0, 0, none⟩ hlt]; exact hg
  clear hg
  go_enter Tryd.func33, Tryd.ntmps33
  go_wp2
  refine wp_loop_rounds 1 ?_
  rw [rounds_succ]
  go_wp2
  go_ret
  exact ⟨rfl, (by repeat' (first | (with_reducible assumption) | (with_reducible refine Below.setCell ?_ ?_ _) | (with_reducible refine Below.alloc ?_ ?_ _) | (with_reducible refine Below.drew ?_) | (with_reducible refine below_drewN ?_ _) | (with_reducible exact Below.refl _ _) | (show _ ≤ _; (try simp); (try omega); done) | exact Below.refl _ _ | assumption))⟩

set_option maxRecDepth 100000 in
set_option maxHeartbeats 2000000 in
theorem as_fault (a l c o1 o2 o3 : Int) (tb : Nat) (w : World) (hg : ErrT w) (ht : Has w tb 67 #[.int .i64 o1, .int .i64 o2, .int .i64 o3]) :
    Calls Tryd.prog 33 #[.iface 67 (.agg #[.int .i64 a, .int .i64 l, .int .i64 c]), .iface 70 (.pointer (some ⟨tb, 0, none⟩))] w
      fun ev w' => ev = .returned (.bool true) ∧ Has w' tb 67 #[.int .i64 a, .int .i64 l, .int .i64 c] ∧ ∀ B, B ≤ tb → Below B w w' := by
  have h6 := @run_callFunc_extern Tryd.prog 57 _ (fun args => ReflectliteValue.unpack (args.getD 0 (.tuple #[]))) Tryd.func57 (by kernel_rfl) (by kernel_rfl) (by kernel_rfl) (by kernel_rfl)
  have h7 := @run_callFunc_extern Tryd.prog 58 _ (ReflectliteValue.methodAny (ReflectliteValue.valueError "reflectlite.Value.Type" 0) (fun t _ _ _ => ReflectliteType.toType t)) Tryd.func58 (by kernel_rfl) (by kernel_rfl) (by kernel_rfl) (by kernel_rfl)
  have h8 := @run_callFunc_extern Tryd.prog 59 _ (ReflectliteValue.method (ReflectliteValue.valueError "reflectlite.Value.IsNil" 0) ReflectliteValue.isNil) Tryd.func59 (by kernel_rfl) (by kernel_rfl) (by kernel_rfl) (by kernel_rfl)
  have h27 := @run_callFunc_extern Tryd.prog 106 _ (ReflectliteType.abiMethod fun t => do pure (.int .u8 (← Rtype.kind t))) Tryd.func106 (by kernel_rfl) (by kernel_rfl) (by kernel_rfl) (by kernel_rfl)
  have h37 := @run_callFunc_extern Tryd.prog 118 _ (ReflectliteType.method ReflectliteType.elem) Tryd.func118 (by kernel_rfl) (by kernel_rfl) (by kernel_rfl) (by kernel_rfl)
  have h38 := @run_callFunc_extern Tryd.prog 119 _ (ReflectliteType.relation "Implements" ReflectliteType.implements_) Tryd.func119 (by kernel_rfl) (by kernel_rfl) (by kernel_rfl) (by kernel_rfl)
  have h10 := @run_callFunc_extern Tryd.prog 84 _ ReflectliteType.typeOf Tryd.func84 (by kernel_rfl) (by kernel_rfl) (by kernel_rfl) (by kernel_rfl)
  have h35 := @run_callFunc_extern Tryd.prog 116 _ (ReflectliteType.relation "AssignableTo" ReflectliteType.assignableTo) Tryd.func116 (by kernel_rfl) (by kernel_rfl) (by kernel_rfl) (by kernel_rfl)
  have h11 := @run_callFunc_extern Tryd.prog 86 _ (ReflectliteValue.method (ReflectliteValue.valueError "reflectlite.Value.Elem" 0) ReflectliteValue.elem) Tryd.func86 (by kernel_rfl) (by kernel_rfl) (by kernel_rfl) (by kernel_rfl)
  have h12 := @run_callFunc_extern Tryd.prog 87 _ ReflectliteValue.set Tryd.func87 (by kernel_rfl) (by kernel_rfl) (by kernel_rfl) (by kernel_rfl)
  have tO := typeOfF
  have mA := methodAssignableTo
  have a25 := assignableF
  have v25 := valueOfI
  have f6 := valueOfP
  have f7 := typeP
  have mK := methodKind
  have mE := methodElem
  have mI := methodImplements
  have k27 := kindP
  have k25 := kindF
  have e27 := elemP
  have i25 := implementsF
  have n8 := isNilP ⟨w.heap.size, 0, none⟩ ⟨tb, 0, none⟩ ((w.alloc (.cells #[.pointer (some ⟨tb, 0, none⟩)] 70)).alloc (.cells #[.pointer (some ⟨3, 70, none⟩), .pointer (some ⟨w.heap.size, 0, none⟩), .int .u64 150] 99)) (by simp)
  have hlt := hg.lt
  have htl := ht.lt
  have hg2 : ((w.alloc (.cells #[.pointer (some ⟨tb, 0, none⟩)] 70)).alloc (.cells #[.pointer (some ⟨3, 70, none⟩), .pointer (some ⟨w.heap.size, 0, none⟩), .int .u64 150] 99)).cell? ⟨0, 0, none⟩ = some (.iface 128 (.agg #[.pointer (some ⟨3, 34, none⟩)])) := by
    rw [World.cell?_alloc_lt _ _ ⟨0, 0, none⟩ (by first | (simp; done) | (simp; omega)), World.cell?_alloc_lt _ _ ⟨0, 0, none⟩ hlt]; exact hg
  have el := elemVP ⟨w.heap.size, 0, none⟩ ⟨tb, 0, none⟩ (((w.alloc (.cells #[.pointer (some ⟨tb, 0, none⟩)] 70)).alloc (.cells #[.pointer (some ⟨3, 70, none⟩), .pointer (some ⟨w.heap.size, 0, none⟩), .int .u64 150] 99)).alloc (.cells #[.pointer (some ⟨3, 70, none⟩), .pointer (some ⟨w.heap.size, 0, none⟩), .int .u64 150] 99)) (by rw [World.cell?_alloc_lt _ _ ⟨w.heap.size, 0, none⟩ (by simp; omega)]; simp)
  have hT := (((ht.alloc (.cells #[.pointer (some ⟨tb, 0, none⟩)] 70)).alloc (.cells #[.pointer (some ⟨3, 70, none⟩), .pointer (some ⟨w.heap.size, 0, none⟩), .int .u64 150] 99)).alloc (.cells #[.pointer (some ⟨3, 70, none⟩), .pointer (some ⟨w.heap.size, 0, none⟩), .int .u64 150] 99)).alloc (.cells #[.int .i64 a, .int .i64 l, .int .i64 c] 67)
  have hS := Has.new (((w.alloc (.cells #[.pointer (some ⟨tb, 0, none⟩)] 70)).alloc (.cells #[.pointer (some ⟨3, 70, none⟩), .pointer (some ⟨w.heap.size, 0, none⟩), .int .u64 150] 99)).alloc (.cells #[.pointer (some ⟨3, 70, none⟩), .pointer (some ⟨w.heap.size, 0, none⟩), .int .u64 150] 99)) 67 #[.int .i64 a, .int .i64 l, .int .i64 c]
  have hsz : (((w.alloc (.cells #[.pointer (some ⟨tb, 0, none⟩)] 70)).alloc (.cells #[.pointer (some ⟨3, 70, none⟩), .pointer (some ⟨w.heap.size, 0, none⟩), .int .u64 150] 99)).alloc (.cells #[.pointer (some ⟨3, 70, none⟩), .pointer (some ⟨w.heap.size, 0, none⟩), .int .u64 150] 99)).heap.size = w.heap.size + 1 + 1 + 1 := by simp
  rw [hsz] at hS
  have st := setF tb (w.heap.size + 1 + 1 + 1) a l c o1 o2 o3 _ hS hT
  have hF := ((hT.set 0 (.int .i64 a)).set 1 (.int .i64 l)).set 2 (.int .i64 c)
  have HF := Lib.hid hF
  clear hg ht hT hS hsz hF
  go_enter Tryd.func33, Tryd.ntmps33
  go_wp2
  refine wp_loop_rounds 1 ?_
  rw [rounds_succ]
  go_wp2
  go_ret
  exact ⟨rfl, HF.out, fun B hB => (by repeat' (first | (with_reducible assumption) | (with_reducible refine Below.setCell ?_ ?_ _) | (with_reducible refine Below.alloc ?_ ?_ _) | (with_reducible refine Below.drew ?_) | (with_reducible refine below_drewN ?_ _) | (with_reducible exact Below.refl _ _) | (show _ ≤ _; (try simp); (try omega); done) | exact Below.refl _ _ | assumption))⟩
end asK
end Go.Proofs.YtllbpanfhlbbgaaDoor
