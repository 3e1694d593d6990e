/- What busbarlaw11.PhysKnown asks of ToPhys and ToRaw, call by call. Condition: errors.errorType is laid. -/
import Derived.Test.YtllbpanfhlbbgaaDoorPhysKc
namespace Go.Proofs.YtllbpanfhlbbgaaDoor
open Go.RowKit Go.Bus Go.Rt Go.Bus.dbK Go.Bus.rawK
set_option linter.unusedVariables false
namespace physK
open ratW physW asK

def aT : Sig := ⟨0, 0, ⟨#[]⟩, 0, 0, 0, 8, false, false, 1, 2, -40, 1, 0, 1, 0, 1, ⟨#[]⟩, []⟩
theorem aT_ok : RatsOk aT := by constructor <;> decide
def aU : Sig := ⟨0, 0, ⟨#[]⟩, 0, 0, 0, 8, false, true, 1, 2, -40, 1, 0, 1, 0, 1, ⟨#[]⟩, []⟩
theorem aU_ok : RatsOk aU := by constructor <;> decide
def aV : Sig := ⟨0, 0, ⟨#[]⟩, 0, 0, 0, 64, false, false, 1, 1, 0, 1, 0, 1, 0, 1, ⟨#[]⟩, []⟩
theorem aV_ok : RatsOk aV := by constructor <;> decide
def aR : Sig := ⟨0, 0, ⟨#[]⟩, 0, 0, 0, 8, false, false, 1, 2, -40, 1, 0, 1, 50, 1, ⟨#[]⟩, []⟩
theorem aR_ok : RatsOk aR := by constructor <;> decide
def aX : Sig := ⟨0, 0, ⟨#[]⟩, 0, 0, 0, 8, false, false, 0, 1, -40, 1, 0, 1, 0, 1, ⟨#[]⟩, []⟩
theorem aX_ok : RatsOk aX := by constructor <;> decide
def aY : Sig := ⟨0, 0, ⟨#[]⟩, 0, 0, 0, 8, false, false, 2, 4, -40, 1, 0, 1, 0, 1, ⟨#[]⟩, []⟩
theorem aY_ok : RatsOk aY := by constructor <;> decide
def aQ : Sig := ⟨0, 0, ⟨#[]⟩, 0, 0, 0, 64, false, false, 1, 1, 0, 1, 5, 1, 5, 1, ⟨#[]⟩, []⟩
theorem aQ_ok : RatsOk aQ := by constructor <;> decide
theorem ak0 : KC 14 #[.agg (csOf aT (.slice none 0 0)), .int .u64 0, .int .i64 (-40), .int .i64 1] := to_k aT none 0 0 aT_ok (by decide) (by decide) (show toP aT 0 = .ok (-40, 1) by kernel_rfl)
theorem ak1 : KC 14 #[.agg (csOf aT (.slice none 0 0)), .int .u64 255, .int .i64 175, .int .i64 2] := to_k aT none 0 0 aT_ok (by decide) (by decide) (show toP aT 255 = .ok (175, 2) by kernel_rfl)
theorem ak2 : KC 15 #[.agg (csOf aT (.slice none 0 0)), .int .u64 256, .int .i64 18] := noTo_k aT none 0 0 aT_ok (by decide) (by decide) (by decide) (by decide) (show toP aT 256 = .error 18 by kernel_rfl)
theorem ak3 : KC 14 #[.agg (csOf aU (.slice none 0 0)), .int .u64 18446744073709551615, .int .i64 (-81), .int .i64 2] := to_k aU none 0 0 aU_ok (by decide) (by decide) (show toP aU 18446744073709551615 = .ok (-81, 2) by kernel_rfl)
theorem ak4 : KC 14 #[.agg (csOf aV (.slice none 0 0)), .int .u64 9223372036854775807, .int .i64 9223372036854775807, .int .i64 1] := to_k aV none 0 0 aV_ok (by decide) (by decide) (show toP aV 9223372036854775807 = .ok (9223372036854775807, 1) by kernel_rfl)
theorem ak5 : KC 15 #[.agg (csOf aV (.slice none 0 0)), .int .u64 9223372036854775808, .int .i64 9] := noTo_k aV none 0 0 aV_ok (by decide) (by decide) (by decide) (by decide) (show toP aV 9223372036854775808 = .error 9 by kernel_rfl)
theorem ak6 : KC 16 #[.agg (csOf aT (.slice none 0 0)), .int .i64 (-40), .int .i64 1, .int .u64 0] := from_k aT none 0 0 aT_ok (by decide) (by decide) (by decide) (show toR aT (-40) 1 = .ok 0 by kernel_rfl)
theorem ak7 : KC 16 #[.agg (csOf aT (.slice none 0 0)), .int .i64 0, .int .i64 1, .int .u64 80] := from_k aT none 0 0 aT_ok (by decide) (by decide) (by decide) (show toR aT (0) 1 = .ok 80 by kernel_rfl)
theorem ak8 : KC 16 #[.agg (csOf aT (.slice none 0 0)), .int .i64 1, .int .i64 4, .int .u64 81] := from_k aT none 0 0 aT_ok (by decide) (by decide) (by decide) (show toR aT (1) 4 = .ok 81 by kernel_rfl)
theorem ak9 : KC 16 #[.agg (csOf aT (.slice none 0 0)), .int .i64 1, .int .i64 8, .int .u64 80] := from_k aT none 0 0 aT_ok (by decide) (by decide) (by decide) (show toR aT (1) 8 = .ok 80 by kernel_rfl)
theorem ak10 : KC 16 #[.agg (csOf aT (.slice none 0 0)), .int .i64 (-1), .int .i64 4, .int .u64 80] := from_k aT none 0 0 aT_ok (by decide) (by decide) (by decide) (show toR aT (-1) 4 = .ok 80 by kernel_rfl)
theorem ak11 : KC 16 #[.agg (csOf aT (.slice none 0 0)), .int .i64 (-401), .int .i64 10, .int .u64 0] := from_k aT none 0 0 aT_ok (by decide) (by decide) (by decide) (show toR aT (-401) 10 = .ok 0 by kernel_rfl)
theorem ak12 : KC 17 #[.agg (csOf aT (.slice none 0 0)), .int .i64 88, .int .i64 1, .int .i64 18] := noFrom_k aT none 0 0 aT_ok (by decide) (by decide) (by decide) (by decide) (by decide) (show toR aT (88) 1 = .error 18 by kernel_rfl)
theorem ak13 : KC 17 #[.agg (csOf aT (.slice none 0 0)), .int .i64 (-41), .int .i64 1, .int .i64 18] := noFrom_k aT none 0 0 aT_ok (by decide) (by decide) (by decide) (by decide) (by decide) (show toR aT (-41) 1 = .error 18 by kernel_rfl)
theorem ak14 : KC 17 #[.agg (csOf aT (.slice none 0 0)), .int .i64 2, .int .i64 4, .int .i64 1] := noFrom_k aT none 0 0 aT_ok (by decide) (by decide) (by decide) (by decide) (by decide) (show toR aT (2) 4 = .error 1 by kernel_rfl)
theorem ak15 : KC 15 #[.agg (csOf aR (.slice none 0 0)), .int .u64 0, .int .i64 18] := noTo_k aR none 0 0 aR_ok (by decide) (by decide) (by decide) (by decide) (show toP aR 0 = .error 18 by kernel_rfl)
theorem ak16 : KC 14 #[.agg (csOf aR (.slice none 0 0)), .int .u64 80, .int .i64 0, .int .i64 1] := to_k aR none 0 0 aR_ok (by decide) (by decide) (show toP aR 80 = .ok (0, 1) by kernel_rfl)
theorem ak17 : KC 14 #[.agg (csOf aR (.slice none 0 0)), .int .u64 180, .int .i64 50, .int .i64 1] := to_k aR none 0 0 aR_ok (by decide) (by decide) (show toP aR 180 = .ok (50, 1) by kernel_rfl)
theorem ak18 : KC 15 #[.agg (csOf aR (.slice none 0 0)), .int .u64 181, .int .i64 18] := noTo_k aR none 0 0 aR_ok (by decide) (by decide) (by decide) (by decide) (show toP aR 181 = .error 18 by kernel_rfl)
theorem ak19 : KC 17 #[.agg (csOf aR (.slice none 0 0)), .int .i64 51, .int .i64 1, .int .i64 18] := noFrom_k aR none 0 0 aR_ok (by decide) (by decide) (by decide) (by decide) (by decide) (show toR aR (51) 1 = .error 18 by kernel_rfl)
theorem ak20 : KC 16 #[.agg (csOf aR (.slice none 0 0)), .int .i64 50, .int .i64 1, .int .u64 180] := from_k aR none 0 0 aR_ok (by decide) (by decide) (by decide) (show toR aR (50) 1 = .ok 180 by kernel_rfl)
theorem ak21 : KC 15 #[.agg (csOf aX (.slice none 0 0)), .int .u64 300, .int .i64 10] := noTo_k aX none 0 0 aX_ok (by decide) (by decide) (by decide) (by decide) (show toP aX 300 = .error 10 by kernel_rfl)
theorem ak22 : KC 17 #[.agg (csOf aX (.slice none 0 0)), .int .i64 0, .int .i64 1, .int .i64 10] := noFrom_k aX none 0 0 aX_ok (by decide) (by decide) (by decide) (by decide) (by decide) (show toR aX (0) 1 = .error 10 by kernel_rfl)
theorem ak23 : KC 15 #[.agg (csOf aY (.slice none 0 0)), .int .u64 300, .int .i64 1] := noTo_k aY none 0 0 aY_ok (by decide) (by decide) (by decide) (by decide) (show toP aY 300 = .error 1 by kernel_rfl)
theorem ak24 : KC 14 #[.agg (csOf aQ (.slice none 0 0)), .int .u64 5, .int .i64 5, .int .i64 1] := to_k aQ none 0 0 aQ_ok (by decide) (by decide) (show toP aQ 5 = .ok (5, 1) by kernel_rfl)
theorem ak25 : KC 15 #[.agg (csOf aQ (.slice none 0 0)), .int .u64 6, .int .i64 18] := noTo_k aQ none 0 0 aQ_ok (by decide) (by decide) (by decide) (by decide) (show toP aQ 6 = .error 18 by kernel_rfl)
theorem ak26 : KC 17 #[.agg (csOf aQ (.slice none 0 0)), .int .i64 6, .int .i64 1, .int .i64 18] := noFrom_k aQ none 0 0 aQ_ok (by decide) (by decide) (by decide) (by decide) (by decide) (show toR aQ (6) 1 = .error 18 by kernel_rfl)
theorem ak27 : KC 17 #[.agg (csOf aV (.slice none 0 0)), .int .i64 (-1), .int .i64 1, .int .i64 18] := noFrom_k aV none 0 0 aV_ok (by decide) (by decide) (by decide) (by decide) (by decide) (show toR aV (-1) 1 = .error 18 by kernel_rfl)
def bT : Sig := ⟨0, 0, ⟨#[]⟩, 0, 0, 0, 64, false, true, 1, 1, 0, 1, 0, 1, 0, 1, ⟨#[]⟩, []⟩
theorem bT_ok : RatsOk bT := by constructor <;> decide
def bX : Sig := ⟨0, 0, ⟨#[]⟩, 0, 0, 0, 64, false, true, 2, 1, 0, 1, 0, 1, 0, 1, ⟨#[]⟩, []⟩
theorem bX_ok : RatsOk bX := by constructor <;> decide
def bY : Sig := ⟨0, 0, ⟨#[]⟩, 0, 0, 0, 64, false, true, 1, 1, 1, 1, 0, 1, 0, 1, ⟨#[]⟩, []⟩
theorem bY_ok : RatsOk bY := by constructor <;> decide
def bV : Sig := ⟨0, 0, ⟨#[]⟩, 0, 0, 0, 64, false, true, -1, 1, 0, 1, 0, 1, 0, 1, ⟨#[]⟩, []⟩
theorem bV_ok : RatsOk bV := by constructor <;> decide
def bH : Sig := ⟨0, 0, ⟨#[]⟩, 0, 0, 0, 64, false, true, 1, 9223372036854775807, 0, 1, 0, 1, 0, 1, ⟨#[]⟩, []⟩
theorem bH_ok : RatsOk bH := by constructor <;> decide
theorem bk0 : KC 14 #[.agg (csOf bT (.slice none 0 0)), .int .u64 9223372036854775808, .int .i64 (-9223372036854775808), .int .i64 1] := to_k bT none 0 0 bT_ok (by decide) (by decide) (show toP bT 9223372036854775808 = .ok (-9223372036854775808, 1) by kernel_rfl)
theorem bk1 : KC 16 #[.agg (csOf bT (.slice none 0 0)), .int .i64 (-9223372036854775808), .int .i64 1, .int .u64 9223372036854775808] := from_k bT none 0 0 bT_ok (by decide) (by decide) (by decide) (show toR bT (-9223372036854775808) 1 = .ok 9223372036854775808 by kernel_rfl)
theorem bk2 : KC 15 #[.agg (csOf bX (.slice none 0 0)), .int .u64 4611686018427387904, .int .i64 9] := noTo_k bX none 0 0 bX_ok (by decide) (by decide) (by decide) (by decide) (show toP bX 4611686018427387904 = .error 9 by kernel_rfl)
theorem bk3 : KC 14 #[.agg (csOf bX (.slice none 0 0)), .int .u64 4611686018427387903, .int .i64 9223372036854775806, .int .i64 1] := to_k bX none 0 0 bX_ok (by decide) (by decide) (show toP bX 4611686018427387903 = .ok (9223372036854775806, 1) by kernel_rfl)
theorem bk4 : KC 15 #[.agg (csOf bY (.slice none 0 0)), .int .u64 9223372036854775807, .int .i64 9] := noTo_k bY none 0 0 bY_ok (by decide) (by decide) (by decide) (by decide) (show toP bY 9223372036854775807 = .error 9 by kernel_rfl)
theorem bk5 : KC 15 #[.agg (csOf bV (.slice none 0 0)), .int .u64 9223372036854775808, .int .i64 9] := noTo_k bV none 0 0 bV_ok (by decide) (by decide) (by decide) (by decide) (show toP bV 9223372036854775808 = .error 9 by kernel_rfl)
theorem bk6 : KC 17 #[.agg (csOf bV (.slice none 0 0)), .int .i64 (-9223372036854775808), .int .i64 1, .int .i64 9] := noFrom_k bV none 0 0 bV_ok (by decide) (by decide) (by decide) (by decide) (by decide) (show toR bV (-9223372036854775808) 1 = .error 9 by kernel_rfl)
theorem bk7 : KC 17 #[.agg (csOf bY (.slice none 0 0)), .int .i64 (-9223372036854775808), .int .i64 1, .int .i64 9] := noFrom_k bY none 0 0 bY_ok (by decide) (by decide) (by decide) (by decide) (by decide) (show toR bY (-9223372036854775808) 1 = .error 9 by kernel_rfl)
theorem bk8 : KC 17 #[.agg (csOf bH (.slice none 0 0)), .int .i64 2, .int .i64 1, .int .i64 9] := noFrom_k bH none 0 0 bH_ok (by decide) (by decide) (by decide) (by decide) (by decide) (show toR bH (2) 1 = .error 9 by kernel_rfl)
theorem bk9 : KC 16 #[.agg (csOf bH (.slice none 0 0)), .int .i64 1, .int .i64 1, .int .u64 9223372036854775807] := from_k bH none 0 0 bH_ok (by decide) (by decide) (by decide) (show toR bH (1) 1 = .ok 9223372036854775807 by kernel_rfl)
end physK
end Go.Proofs.YtllbpanfhlbbgaaDoor
