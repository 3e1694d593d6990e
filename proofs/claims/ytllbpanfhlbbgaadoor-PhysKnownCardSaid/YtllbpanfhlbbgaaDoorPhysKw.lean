/- Walk of busbarlaw11.PhysKnown. Condition: errors.errorType is laid. -/
import Derived.Test.YtllbpanfhlbbgaaDoorPhysKe
import Derived.Deep.DeepCutAuto
namespace Go.Proofs.YtllbpanfhlbbgaaDoor
open Go.RowKit Go.Bus Go.Rt Go.Bus.dbK Go.Bus.rawK Go.Bus.cellK
set_option linter.unusedVariables false
set_option linter.unusedSimpArgs false
namespace physK
open ratW physW asK
set_option maxRecDepth 100000 in
set_option maxHeartbeats 8000000 in
theorem known_any (w : World) (hE : ErrT w) : Cl1 5 #[] (.bool true) w := by
  have HB : Hid (Below w.heap.size w w) := Lib.hid (Below.refl _ _)
  have HE : Hid (ErrT w) := Lib.hid hE
  clear hE
  have IT := cs_info aT (.slice none 0 0)
  have ZT : Hid ((#[.int .i64 0, .int .i64 0, .string ⟨#[]⟩, .int .i64 0, .int .u64 0, .int .i64 0, .int .i64 0, .bool false, .bool false, .int .i64 0, .int .i64 0, .int .i64 0, .int .i64 0, .int .i64 0, .int .i64 0, .int .i64 0, .int .i64 0, .string ⟨#[]⟩, .slice none 0 0] : Array Value).size = (csOf aT (.slice none 0 0)).size) := Lib.hid rfl
  have OT := cs_one aT none 0 0
  have IU := cs_info aU (.slice none 0 0)
  have ZU : Hid ((#[.int .i64 0, .int .i64 0, .string ⟨#[]⟩, .int .i64 0, .int .u64 0, .int .i64 0, .int .i64 0, .bool false, .bool false, .int .i64 0, .int .i64 0, .int .i64 0, .int .i64 0, .int .i64 0, .int .i64 0, .int .i64 0, .int .i64 0, .string ⟨#[]⟩, .slice none 0 0] : Array Value).size = (csOf aU (.slice none 0 0)).size) := Lib.hid rfl
  have OU := cs_one aU none 0 0
  have IV := cs_info aV (.slice none 0 0)
  have ZV : Hid ((#[.int .i64 0, .int .i64 0, .string ⟨#[]⟩, .int .i64 0, .int .u64 0, .int .i64 0, .int .i64 0, .bool false, .bool false, .int .i64 0, .int .i64 0, .int .i64 0, .int .i64 0, .int .i64 0, .int .i64 0, .int .i64 0, .int .i64 0, .string ⟨#[]⟩, .slice none 0 0] : Array Value).size = (csOf aV (.slice none 0 0)).size) := Lib.hid rfl
  have OV := cs_one aV none 0 0
  have IR := cs_info aR (.slice none 0 0)
  have ZR : Hid ((#[.int .i64 0, .int .i64 0, .string ⟨#[]⟩, .int .i64 0, .int .u64 0, .int .i64 0, .int .i64 0, .bool false, .bool false, .int .i64 0, .int .i64 0, .int .i64 0, .int .i64 0, .int .i64 0, .int .i64 0, .int .i64 0, .int .i64 0, .string ⟨#[]⟩, .slice none 0 0] : Array Value).size = (csOf aR (.slice none 0 0)).size) := Lib.hid rfl
  have OR := cs_one aR none 0 0
  have IX := cs_info aX (.slice none 0 0)
  have ZX : Hid ((#[.int .i64 0, .int .i64 0, .string ⟨#[]⟩, .int .i64 0, .int .u64 0, .int .i64 0, .int .i64 0, .bool false, .bool false, .int .i64 0, .int .i64 0, .int .i64 0, .int .i64 0, .int .i64 0, .int .i64 0, .int .i64 0, .int .i64 0, .string ⟨#[]⟩, .slice none 0 0] : Array Value).size = (csOf aX (.slice none 0 0)).size) := Lib.hid rfl
  have OX := cs_one aX none 0 0
  have IY := cs_info aY (.slice none 0 0)
  have ZY : Hid ((#[.int .i64 0, .int .i64 0, .string ⟨#[]⟩, .int .i64 0, .int .u64 0, .int .i64 0, .int .i64 0, .bool false, .bool false, .int .i64 0, .int .i64 0, .int .i64 0, .int .i64 0, .int .i64 0, .int .i64 0, .int .i64 0, .int .i64 0, .string ⟨#[]⟩, .slice none 0 0] : Array Value).size = (csOf aY (.slice none 0 0)).size) := Lib.hid rfl
  have OY := cs_one aY none 0 0
  have IQ := cs_info aQ (.slice none 0 0)
  have ZQ : Hid ((#[.int .i64 0, .int .i64 0, .string ⟨#[]⟩, .int .i64 0, .int .u64 0, .int .i64 0, .int .i64 0, .bool false, .bool false, .int .i64 0, .int .i64 0, .int .i64 0, .int .i64 0, .int .i64 0, .int .i64 0, .int .i64 0, .int .i64 0, .string ⟨#[]⟩, .slice none 0 0] : Array Value).size = (csOf aQ (.slice none 0 0)).size) := Lib.hid rfl
  have OQ := cs_one aQ none 0 0
  go_enter Tryd.func5, Tryd.ntmps5
  go_wp2_with fail
  refine (half_f w).mono ?_
  rintro e w1 ⟨rfl, hb⟩
  replace HB := Lib.hid (HB.out.trans (hb.mono HB.out.size))
  clear hb
  go_upto_region 2 with (refine wpList_store_last rfl 29 _ _ rfl 29 _ rfl rfl IT.out ZT.out OT.out ?_)
  have HT : Hid (Has (w1.alloc (Obj.cells (csOf aT (.slice none 0 0)) 29)) w1.heap.size 29 (csOf aT (.slice none 0 0))) := Lib.hid (Has.new w1 _ _)
  have HB0 := Lib.hid HB.out
  replace HB : Hid (Below w.heap.size w (w1.alloc (Obj.cells (csOf aT (.slice none 0 0)) 29))) := Lib.hid (HB.out.alloc HB.out.size _)
  obtain ⟨bT, hbT⟩ : ∃ b, b = w1.heap.size := ⟨_, rfl⟩
  have lT : Hid (w.heap.size ≤ bT) := Lib.hid (by rw [hbT]; exact HB0.out.size)
  rw [← hbT] at HT ⊢
  clear hbT HB0
  generalize w1.alloc (Obj.cells (csOf aT (.slice none 0 0)) 29) = w2 at *
  go_wp2_with fail
  refine (half_t w2).mono ?_
  rintro e w3 ⟨rfl, hb⟩
  replace HT := Lib.hid (HT.out.below hb HT.out.lt)
  replace HB := Lib.hid (HB.out.trans (hb.mono HB.out.size))
  clear hb
  go_upto_region 3 with (refine wpList_store_last rfl 29 _ _ rfl 29 _ rfl rfl IU.out ZU.out OU.out ?_)
  have HU : Hid (Has (w3.alloc (Obj.cells (csOf aU (.slice none 0 0)) 29)) w3.heap.size 29 (csOf aU (.slice none 0 0))) := Lib.hid (Has.new w3 _ _)
  have LT := Lib.hid HT.out.lt
  have HB0 := Lib.hid HB.out
  replace HT := Lib.hid (HT.out.alloc (Obj.cells (csOf aU (.slice none 0 0)) 29))
  replace HB : Hid (Below w.heap.size w (w3.alloc (Obj.cells (csOf aU (.slice none 0 0)) 29))) := Lib.hid (HB.out.alloc HB.out.size _)
  obtain ⟨bU, hbU⟩ : ∃ b, b = w3.heap.size := ⟨_, rfl⟩
  have lU : Hid (w.heap.size ≤ bU) := Lib.hid (by rw [hbU]; exact HB0.out.size)
  have nTU : Hid (bT ≠ bU) := Lib.hid (by rw [hbU]; exact Nat.ne_of_lt LT.out)
  rw [← hbU] at HU ⊢
  clear hbU HB0 LT
  generalize w3.alloc (Obj.cells (csOf aU (.slice none 0 0)) 29) = w4 at *
  go_upto_region 4 with fail
  have HOne : Hid (Has (w4.alloc (Obj.cells #[.int .i64 1, .int .i64 1] 26)) w4.heap.size 26 #[.int .i64 1, .int .i64 1]) := Lib.hid (Has.new w4 _ _)
  have LT := Lib.hid HT.out.lt
  have LU := Lib.hid HU.out.lt
  have HB0 := Lib.hid HB.out
  replace HT := Lib.hid (HT.out.alloc (Obj.cells #[.int .i64 1, .int .i64 1] 26))
  replace HU := Lib.hid (HU.out.alloc (Obj.cells #[.int .i64 1, .int .i64 1] 26))
  replace HB : Hid (Below w.heap.size w (w4.alloc (Obj.cells #[.int .i64 1, .int .i64 1] 26))) := Lib.hid (HB.out.alloc HB.out.size _)
  obtain ⟨bOne, hbOne⟩ : ∃ b, b = w4.heap.size := ⟨_, rfl⟩
  have lOne : Hid (w.heap.size ≤ bOne) := Lib.hid (by rw [hbOne]; exact HB0.out.size)
  have nTOne : Hid (bT ≠ bOne) := Lib.hid (by rw [hbOne]; exact Nat.ne_of_lt LT.out)
  have nUOne : Hid (bU ≠ bOne) := Lib.hid (by rw [hbOne]; exact Nat.ne_of_lt LU.out)
  rw [← hbOne] at HOne ⊢
  clear hbOne HB0 LT LU
  generalize w4.alloc (Obj.cells #[.int .i64 1, .int .i64 1] 26) = w5 at *
  go_upto_region 5 with fail
  have HZero : Hid (Has (w5.alloc (Obj.cells #[.int .i64 0, .int .i64 1] 26)) w5.heap.size 26 #[.int .i64 0, .int .i64 1]) := Lib.hid (Has.new w5 _ _)
  have LT := Lib.hid HT.out.lt
  have LU := Lib.hid HU.out.lt
  have LOne := Lib.hid HOne.out.lt
  have HB0 := Lib.hid HB.out
  replace HT := Lib.hid (HT.out.alloc (Obj.cells #[.int .i64 0, .int .i64 1] 26))
  replace HU := Lib.hid (HU.out.alloc (Obj.cells #[.int .i64 0, .int .i64 1] 26))
  replace HOne := Lib.hid (HOne.out.alloc (Obj.cells #[.int .i64 0, .int .i64 1] 26))
  replace HB : Hid (Below w.heap.size w (w5.alloc (Obj.cells #[.int .i64 0, .int .i64 1] 26))) := Lib.hid (HB.out.alloc HB.out.size _)
  obtain ⟨bZero, hbZero⟩ : ∃ b, b = w5.heap.size := ⟨_, rfl⟩
  have lZero : Hid (w.heap.size ≤ bZero) := Lib.hid (by rw [hbZero]; exact HB0.out.size)
  have nTZero : Hid (bT ≠ bZero) := Lib.hid (by rw [hbZero]; exact Nat.ne_of_lt LT.out)
  have nUZero : Hid (bU ≠ bZero) := Lib.hid (by rw [hbZero]; exact Nat.ne_of_lt LU.out)
  have nOneZero : Hid (bOne ≠ bZero) := Lib.hid (by rw [hbZero]; exact Nat.ne_of_lt LOne.out)
  rw [← hbZero] at HZero ⊢
  clear hbZero HB0 LT LU LOne
  generalize w5.alloc (Obj.cells #[.int .i64 0, .int .i64 1] 26) = w6 at *
  have x0 : w6.cell? ⟨bOne, 0, none⟩ = some (.int .i64 1) := HOne.out.cell 0
  have x1 : w6.cell? ⟨bOne, 1, none⟩ = some (.int .i64 1) := HOne.out.cell 1
  have y0 : w6.cell? ⟨bZero, 0, none⟩ = some (.int .i64 0) := HZero.out.cell 0
  have y1 : w6.cell? ⟨bZero, 1, none⟩ = some (.int .i64 1) := HZero.out.cell 1
  go_upto_region 6 with (first | simp only [build_v] | (refine wpList_store_last rfl 29 _ _ rfl 29 _ rfl rfl IV.out ZV.out OV.out ?_))
  clear x0 x1 y0 y1
  have HV : Hid (Has (w6.alloc (Obj.cells (csOf aV (.slice none 0 0)) 29)) w6.heap.size 29 (csOf aV (.slice none 0 0))) := Lib.hid (Has.new w6 _ _)
  have LT := Lib.hid HT.out.lt
  have LU := Lib.hid HU.out.lt
  have LOne := Lib.hid HOne.out.lt
  have LZero := Lib.hid HZero.out.lt
  have HB0 := Lib.hid HB.out
  replace HT := Lib.hid (HT.out.alloc (Obj.cells (csOf aV (.slice none 0 0)) 29))
  replace HU := Lib.hid (HU.out.alloc (Obj.cells (csOf aV (.slice none 0 0)) 29))
  replace HOne := Lib.hid (HOne.out.alloc (Obj.cells (csOf aV (.slice none 0 0)) 29))
  replace HZero := Lib.hid (HZero.out.alloc (Obj.cells (csOf aV (.slice none 0 0)) 29))
  replace HB : Hid (Below w.heap.size w (w6.alloc (Obj.cells (csOf aV (.slice none 0 0)) 29))) := Lib.hid (HB.out.alloc HB.out.size _)
  obtain ⟨bV, hbV⟩ : ∃ b, b = w6.heap.size := ⟨_, rfl⟩
  have lV : Hid (w.heap.size ≤ bV) := Lib.hid (by rw [hbV]; exact HB0.out.size)
  have nTV : Hid (bT ≠ bV) := Lib.hid (by rw [hbV]; exact Nat.ne_of_lt LT.out)
  have nUV : Hid (bU ≠ bV) := Lib.hid (by rw [hbV]; exact Nat.ne_of_lt LU.out)
  have nOneV : Hid (bOne ≠ bV) := Lib.hid (by rw [hbV]; exact Nat.ne_of_lt LOne.out)
  have nZeroV : Hid (bZero ≠ bV) := Lib.hid (by rw [hbV]; exact Nat.ne_of_lt LZero.out)
  rw [← hbV] at HV ⊢
  clear hbV HB0 LT LU LOne LZero
  generalize w6.alloc (Obj.cells (csOf aV (.slice none 0 0)) 29) = w7 at *
  go_wp2_with (refine wpList_load_if (by rfl) 29 _ rfl bT rfl (by exact HT.out) Tryd.underlying29 rfl IT.out ?_)
  refine (ak0 w7 (HE.out.at_below HB.out)).mono ?_
  rintro e w8 ⟨rfl, hb⟩
  replace HT := Lib.hid (HT.out.below hb HT.out.lt)
  replace HU := Lib.hid (HU.out.below hb HU.out.lt)
  replace HOne := Lib.hid (HOne.out.below hb HOne.out.lt)
  replace HZero := Lib.hid (HZero.out.below hb HZero.out.lt)
  replace HV := Lib.hid (HV.out.below hb HV.out.lt)
  replace HB := Lib.hid (HB.out.trans (hb.mono HB.out.size))
  clear hb
  go_wp2_with (refine wpList_load_if (by rfl) 29 _ rfl bT rfl (by exact HT.out) Tryd.underlying29 rfl IT.out ?_)
  refine (ak1 w8 (HE.out.at_below HB.out)).mono ?_
  rintro e w9 ⟨rfl, hb⟩
  replace HT := Lib.hid (HT.out.below hb HT.out.lt)
  replace HU := Lib.hid (HU.out.below hb HU.out.lt)
  replace HOne := Lib.hid (HOne.out.below hb HOne.out.lt)
  replace HZero := Lib.hid (HZero.out.below hb HZero.out.lt)
  replace HV := Lib.hid (HV.out.below hb HV.out.lt)
  replace HB := Lib.hid (HB.out.trans (hb.mono HB.out.size))
  clear hb
  go_wp2_with (refine wpList_load_if (by rfl) 29 _ rfl bT rfl (by exact HT.out) Tryd.underlying29 rfl IT.out ?_)
  refine (ak2 w9 (HE.out.at_below HB.out)).mono ?_
  rintro e w10 ⟨rfl, hb⟩
  replace HT := Lib.hid (HT.out.below hb HT.out.lt)
  replace HU := Lib.hid (HU.out.below hb HU.out.lt)
  replace HOne := Lib.hid (HOne.out.below hb HOne.out.lt)
  replace HZero := Lib.hid (HZero.out.below hb HZero.out.lt)
  replace HV := Lib.hid (HV.out.below hb HV.out.lt)
  replace HB := Lib.hid (HB.out.trans (hb.mono HB.out.size))
  clear hb
  go_wp2_with (refine wpList_load_if (by rfl) 29 _ rfl bU rfl (by exact HU.out) Tryd.underlying29 rfl IU.out ?_)
  refine (ak3 w10 (HE.out.at_below HB.out)).mono ?_
  rintro e w11 ⟨rfl, hb⟩
  replace HT := Lib.hid (HT.out.below hb HT.out.lt)
  replace HU := Lib.hid (HU.out.below hb HU.out.lt)
  replace HOne := Lib.hid (HOne.out.below hb HOne.out.lt)
  replace HZero := Lib.hid (HZero.out.below hb HZero.out.lt)
  replace HV := Lib.hid (HV.out.below hb HV.out.lt)
  replace HB := Lib.hid (HB.out.trans (hb.mono HB.out.size))
  clear hb
  go_wp2_with (refine wpList_load_if (by rfl) 29 _ rfl bV rfl (by exact HV.out) Tryd.underlying29 rfl IV.out ?_)
  refine (ak4 w11 (HE.out.at_below HB.out)).mono ?_
  rintro e w12 ⟨rfl, hb⟩
  replace HT := Lib.hid (HT.out.below hb HT.out.lt)
  replace HU := Lib.hid (HU.out.below hb HU.out.lt)
  replace HOne := Lib.hid (HOne.out.below hb HOne.out.lt)
  replace HZero := Lib.hid (HZero.out.below hb HZero.out.lt)
  replace HV := Lib.hid (HV.out.below hb HV.out.lt)
  replace HB := Lib.hid (HB.out.trans (hb.mono HB.out.size))
  clear hb
  go_wp2_with (refine wpList_load_if (by rfl) 29 _ rfl bV rfl (by exact HV.out) Tryd.underlying29 rfl IV.out ?_)
  refine (ak5 w12 (HE.out.at_below HB.out)).mono ?_
  rintro e w13 ⟨rfl, hb⟩
  replace HT := Lib.hid (HT.out.below hb HT.out.lt)
  replace HU := Lib.hid (HU.out.below hb HU.out.lt)
  replace HOne := Lib.hid (HOne.out.below hb HOne.out.lt)
  replace HZero := Lib.hid (HZero.out.below hb HZero.out.lt)
  replace HV := Lib.hid (HV.out.below hb HV.out.lt)
  replace HB := Lib.hid (HB.out.trans (hb.mono HB.out.size))
  clear hb
  go_wp2_with (refine wpList_load_if (by rfl) 29 _ rfl bT rfl (by exact HT.out) Tryd.underlying29 rfl IT.out ?_)
  refine (ak6 w13 (HE.out.at_below HB.out)).mono ?_
  rintro e w14 ⟨rfl, hb⟩
  replace HT := Lib.hid (HT.out.below hb HT.out.lt)
  replace HU := Lib.hid (HU.out.below hb HU.out.lt)
  replace HOne := Lib.hid (HOne.out.below hb HOne.out.lt)
  replace HZero := Lib.hid (HZero.out.below hb HZero.out.lt)
  replace HV := Lib.hid (HV.out.below hb HV.out.lt)
  replace HB := Lib.hid (HB.out.trans (hb.mono HB.out.size))
  clear hb
  go_wp2_with (refine wpList_load_if (by rfl) 29 _ rfl bT rfl (by exact HT.out) Tryd.underlying29 rfl IT.out ?_)
  refine (ak7 w14 (HE.out.at_below HB.out)).mono ?_
  rintro e w15 ⟨rfl, hb⟩
  replace HT := Lib.hid (HT.out.below hb HT.out.lt)
  replace HU := Lib.hid (HU.out.below hb HU.out.lt)
  replace HOne := Lib.hid (HOne.out.below hb HOne.out.lt)
  replace HZero := Lib.hid (HZero.out.below hb HZero.out.lt)
  replace HV := Lib.hid (HV.out.below hb HV.out.lt)
  replace HB := Lib.hid (HB.out.trans (hb.mono HB.out.size))
  clear hb
  go_wp2_with (refine wpList_load_if (by rfl) 29 _ rfl bT rfl (by exact HT.out) Tryd.underlying29 rfl IT.out ?_)
  refine (ak8 w15 (HE.out.at_below HB.out)).mono ?_
  rintro e w16 ⟨rfl, hb⟩
  replace HT := Lib.hid (HT.out.below hb HT.out.lt)
  replace HU := Lib.hid (HU.out.below hb HU.out.lt)
  replace HOne := Lib.hid (HOne.out.below hb HOne.out.lt)
  replace HZero := Lib.hid (HZero.out.below hb HZero.out.lt)
  replace HV := Lib.hid (HV.out.below hb HV.out.lt)
  replace HB := Lib.hid (HB.out.trans (hb.mono HB.out.size))
  clear hb
  go_wp2_with (refine wpList_load_if (by rfl) 29 _ rfl bT rfl (by exact HT.out) Tryd.underlying29 rfl IT.out ?_)
  refine (ak9 w16 (HE.out.at_below HB.out)).mono ?_
  rintro e w17 ⟨rfl, hb⟩
  replace HT := Lib.hid (HT.out.below hb HT.out.lt)
  replace HU := Lib.hid (HU.out.below hb HU.out.lt)
  replace HOne := Lib.hid (HOne.out.below hb HOne.out.lt)
  replace HZero := Lib.hid (HZero.out.below hb HZero.out.lt)
  replace HV := Lib.hid (HV.out.below hb HV.out.lt)
  replace HB := Lib.hid (HB.out.trans (hb.mono HB.out.size))
  clear hb
  go_wp2_with (refine wpList_load_if (by rfl) 29 _ rfl bT rfl (by exact HT.out) Tryd.underlying29 rfl IT.out ?_)
  refine (ak10 w17 (HE.out.at_below HB.out)).mono ?_
  rintro e w18 ⟨rfl, hb⟩
  replace HT := Lib.hid (HT.out.below hb HT.out.lt)
  replace HU := Lib.hid (HU.out.below hb HU.out.lt)
  replace HOne := Lib.hid (HOne.out.below hb HOne.out.lt)
  replace HZero := Lib.hid (HZero.out.below hb HZero.out.lt)
  replace HV := Lib.hid (HV.out.below hb HV.out.lt)
  replace HB := Lib.hid (HB.out.trans (hb.mono HB.out.size))
  clear hb
  go_wp2_with (refine wpList_load_if (by rfl) 29 _ rfl bT rfl (by exact HT.out) Tryd.underlying29 rfl IT.out ?_)
  refine (ak11 w18 (HE.out.at_below HB.out)).mono ?_
  rintro e w19 ⟨rfl, hb⟩
  replace HT := Lib.hid (HT.out.below hb HT.out.lt)
  replace HU := Lib.hid (HU.out.below hb HU.out.lt)
  replace HOne := Lib.hid (HOne.out.below hb HOne.out.lt)
  replace HZero := Lib.hid (HZero.out.below hb HZero.out.lt)
  replace HV := Lib.hid (HV.out.below hb HV.out.lt)
  replace HB := Lib.hid (HB.out.trans (hb.mono HB.out.size))
  clear hb
  go_wp2_with (refine wpList_load_if (by rfl) 29 _ rfl bT rfl (by exact HT.out) Tryd.underlying29 rfl IT.out ?_)
  refine (ak12 w19 (HE.out.at_below HB.out)).mono ?_
  rintro e w20 ⟨rfl, hb⟩
  replace HT := Lib.hid (HT.out.below hb HT.out.lt)
  replace HU := Lib.hid (HU.out.below hb HU.out.lt)
  replace HOne := Lib.hid (HOne.out.below hb HOne.out.lt)
  replace HZero := Lib.hid (HZero.out.below hb HZero.out.lt)
  replace HV := Lib.hid (HV.out.below hb HV.out.lt)
  replace HB := Lib.hid (HB.out.trans (hb.mono HB.out.size))
  clear hb
  go_wp2_with (refine wpList_load_if (by rfl) 29 _ rfl bT rfl (by exact HT.out) Tryd.underlying29 rfl IT.out ?_)
  refine (ak13 w20 (HE.out.at_below HB.out)).mono ?_
  rintro e w21 ⟨rfl, hb⟩
  replace HT := Lib.hid (HT.out.below hb HT.out.lt)
  replace HU := Lib.hid (HU.out.below hb HU.out.lt)
  replace HOne := Lib.hid (HOne.out.below hb HOne.out.lt)
  replace HZero := Lib.hid (HZero.out.below hb HZero.out.lt)
  replace HV := Lib.hid (HV.out.below hb HV.out.lt)
  replace HB := Lib.hid (HB.out.trans (hb.mono HB.out.size))
  clear hb
  go_wp2_with (refine wpList_load_if (by rfl) 29 _ rfl bT rfl (by exact HT.out) Tryd.underlying29 rfl IT.out ?_)
  refine (ak14 w21 (HE.out.at_below HB.out)).mono ?_
  rintro e w22 ⟨rfl, hb⟩
  replace HT := Lib.hid (HT.out.below hb HT.out.lt)
  replace HU := Lib.hid (HU.out.below hb HU.out.lt)
  replace HOne := Lib.hid (HOne.out.below hb HOne.out.lt)
  replace HZero := Lib.hid (HZero.out.below hb HZero.out.lt)
  replace HV := Lib.hid (HV.out.below hb HV.out.lt)
  replace HB := Lib.hid (HB.out.trans (hb.mono HB.out.size))
  clear hb
  go_upto_region 10 with fail
  go_upto_region 11 with (first | (refine wpList_load_if (by rfl) 29 _ rfl bT rfl (by exact HT.out) Tryd.underlying29 rfl IT.out ?_) | (refine wpList_store_last rfl 29 _ _ rfl 29 _ rfl rfl IT.out ZT.out OT.out ?_))
  have HR : Hid (Has (w22.alloc (Obj.cells (csOf aT (.slice none 0 0)) 29)) w22.heap.size 29 (csOf aT (.slice none 0 0))) := Lib.hid (Has.new w22 _ _)
  have LT := Lib.hid HT.out.lt
  have LU := Lib.hid HU.out.lt
  have LOne := Lib.hid HOne.out.lt
  have LZero := Lib.hid HZero.out.lt
  have LV := Lib.hid HV.out.lt
  have HB0 := Lib.hid HB.out
  replace HT := Lib.hid (HT.out.alloc (Obj.cells (csOf aT (.slice none 0 0)) 29))
  replace HU := Lib.hid (HU.out.alloc (Obj.cells (csOf aT (.slice none 0 0)) 29))
  replace HOne := Lib.hid (HOne.out.alloc (Obj.cells (csOf aT (.slice none 0 0)) 29))
  replace HZero := Lib.hid (HZero.out.alloc (Obj.cells (csOf aT (.slice none 0 0)) 29))
  replace HV := Lib.hid (HV.out.alloc (Obj.cells (csOf aT (.slice none 0 0)) 29))
  replace HB : Hid (Below w.heap.size w (w22.alloc (Obj.cells (csOf aT (.slice none 0 0)) 29))) := Lib.hid (HB.out.alloc HB.out.size _)
  obtain ⟨bR, hbR⟩ : ∃ b, b = w22.heap.size := ⟨_, rfl⟩
  have lR : Hid (w.heap.size ≤ bR) := Lib.hid (by rw [hbR]; exact HB0.out.size)
  have nTR : Hid (bT ≠ bR) := Lib.hid (by rw [hbR]; exact Nat.ne_of_lt LT.out)
  have nUR : Hid (bU ≠ bR) := Lib.hid (by rw [hbR]; exact Nat.ne_of_lt LU.out)
  have nOneR : Hid (bOne ≠ bR) := Lib.hid (by rw [hbR]; exact Nat.ne_of_lt LOne.out)
  have nZeroR : Hid (bZero ≠ bR) := Lib.hid (by rw [hbR]; exact Nat.ne_of_lt LZero.out)
  have nVR : Hid (bV ≠ bR) := Lib.hid (by rw [hbR]; exact Nat.ne_of_lt LV.out)
  rw [← hbR] at HR ⊢
  clear hbR HB0 LT LU LOne LZero LV
  generalize w22.alloc (Obj.cells (csOf aT (.slice none 0 0)) 29) = w23 at *
  have f0 : w23.cell? ⟨bR, 15, none⟩ = some (.int .i64 (0)) := HR.out.cell 15
  have f1 : w23.cell? ⟨bR, 16, none⟩ = some (.int .i64 (1)) := HR.out.cell 16
  have f2 := HR.out.frozen 15
  have f3 := HR.out.frozen 16
  have f4 := HR.out.lt
  go_upto_region 12 with fail
  clear f0 f1 f2 f3 f4
  replace HR : Hid (Has ((w23.setCell ⟨bR, 15, none⟩ (.int .i64 (50))).setCell ⟨bR, 16, none⟩ (.int .i64 (1))) bR 29 (csOf aR (.slice none 0 0))) := Lib.hid (by exact (HR.out.set 15 _).set 16 _)
  replace HT : Hid (Has ((w23.setCell ⟨bR, 15, none⟩ (.int .i64 (50))).setCell ⟨bR, 16, none⟩ (.int .i64 (1))) bT 29 (csOf aT (.slice none 0 0))) := Lib.hid ((HT.out.far nTR.out _).far nTR.out _)
  replace HU : Hid (Has ((w23.setCell ⟨bR, 15, none⟩ (.int .i64 (50))).setCell ⟨bR, 16, none⟩ (.int .i64 (1))) bU 29 (csOf aU (.slice none 0 0))) := Lib.hid ((HU.out.far nUR.out _).far nUR.out _)
  replace HOne : Hid (Has ((w23.setCell ⟨bR, 15, none⟩ (.int .i64 (50))).setCell ⟨bR, 16, none⟩ (.int .i64 (1))) bOne 26 #[.int .i64 1, .int .i64 1]) := Lib.hid ((HOne.out.far nOneR.out _).far nOneR.out _)
  replace HZero : Hid (Has ((w23.setCell ⟨bR, 15, none⟩ (.int .i64 (50))).setCell ⟨bR, 16, none⟩ (.int .i64 (1))) bZero 26 #[.int .i64 0, .int .i64 1]) := Lib.hid ((HZero.out.far nZeroR.out _).far nZeroR.out _)
  replace HV : Hid (Has ((w23.setCell ⟨bR, 15, none⟩ (.int .i64 (50))).setCell ⟨bR, 16, none⟩ (.int .i64 (1))) bV 29 (csOf aV (.slice none 0 0))) := Lib.hid ((HV.out.far nVR.out _).far nVR.out _)
  replace HB : Hid (Below w.heap.size w ((w23.setCell ⟨bR, 15, none⟩ (.int .i64 (50))).setCell ⟨bR, 16, none⟩ (.int .i64 (1)))) := Lib.hid ((HB.out.setCell lR.out _).setCell lR.out _)
  generalize ((w23.setCell ⟨bR, 15, none⟩ (.int .i64 (50))).setCell ⟨bR, 16, none⟩ (.int .i64 (1))) = w24 at *
  go_upto_region 13 with (first | (refine wpList_load_if (by rfl) 29 _ rfl bT rfl (by exact HT.out) Tryd.underlying29 rfl IT.out ?_) | (refine wpList_store_last rfl 29 _ _ rfl 29 _ rfl rfl IT.out ZT.out OT.out ?_))
  have HX : Hid (Has (w24.alloc (Obj.cells (csOf aT (.slice none 0 0)) 29)) w24.heap.size 29 (csOf aT (.slice none 0 0))) := Lib.hid (Has.new w24 _ _)
  have LT := Lib.hid HT.out.lt
  have LU := Lib.hid HU.out.lt
  have LOne := Lib.hid HOne.out.lt
  have LZero := Lib.hid HZero.out.lt
  have LV := Lib.hid HV.out.lt
  have LR := Lib.hid HR.out.lt
  have HB0 := Lib.hid HB.out
  replace HT := Lib.hid (HT.out.alloc (Obj.cells (csOf aT (.slice none 0 0)) 29))
  replace HU := Lib.hid (HU.out.alloc (Obj.cells (csOf aT (.slice none 0 0)) 29))
  replace HOne := Lib.hid (HOne.out.alloc (Obj.cells (csOf aT (.slice none 0 0)) 29))
  replace HZero := Lib.hid (HZero.out.alloc (Obj.cells (csOf aT (.slice none 0 0)) 29))
  replace HV := Lib.hid (HV.out.alloc (Obj.cells (csOf aT (.slice none 0 0)) 29))
  replace HR := Lib.hid (HR.out.alloc (Obj.cells (csOf aT (.slice none 0 0)) 29))
  replace HB : Hid (Below w.heap.size w (w24.alloc (Obj.cells (csOf aT (.slice none 0 0)) 29))) := Lib.hid (HB.out.alloc HB.out.size _)
  obtain ⟨bX, hbX⟩ : ∃ b, b = w24.heap.size := ⟨_, rfl⟩
  have lX : Hid (w.heap.size ≤ bX) := Lib.hid (by rw [hbX]; exact HB0.out.size)
  have nTX : Hid (bT ≠ bX) := Lib.hid (by rw [hbX]; exact Nat.ne_of_lt LT.out)
  have nUX : Hid (bU ≠ bX) := Lib.hid (by rw [hbX]; exact Nat.ne_of_lt LU.out)
  have nOneX : Hid (bOne ≠ bX) := Lib.hid (by rw [hbX]; exact Nat.ne_of_lt LOne.out)
  have nZeroX : Hid (bZero ≠ bX) := Lib.hid (by rw [hbX]; exact Nat.ne_of_lt LZero.out)
  have nVX : Hid (bV ≠ bX) := Lib.hid (by rw [hbX]; exact Nat.ne_of_lt LV.out)
  have nRX : Hid (bR ≠ bX) := Lib.hid (by rw [hbX]; exact Nat.ne_of_lt LR.out)
  rw [← hbX] at HX ⊢
  clear hbX HB0 LT LU LOne LZero LV LR
  generalize w24.alloc (Obj.cells (csOf aT (.slice none 0 0)) 29) = w25 at *
  have y0 : w25.cell? ⟨bZero, 0, none⟩ = some (.int .i64 0) := HZero.out.cell 0
  have y1 : w25.cell? ⟨bZero, 1, none⟩ = some (.int .i64 1) := HZero.out.cell 1
  have f0 : w25.cell? ⟨bX, 9, none⟩ = some (.int .i64 (1)) := HX.out.cell 9
  have f1 : w25.cell? ⟨bX, 10, none⟩ = some (.int .i64 (2)) := HX.out.cell 10
  have f2 := HX.out.frozen 9
  have f3 := HX.out.frozen 10
  have f4 := HX.out.lt
  go_upto_region 14 with fail
  clear f0 f1 f2 f3 f4 y0 y1
  replace HX : Hid (Has ((w25.setCell ⟨bX, 9, none⟩ (.int .i64 (0))).setCell ⟨bX, 10, none⟩ (.int .i64 (1))) bX 29 (csOf aX (.slice none 0 0))) := Lib.hid (by exact (HX.out.set 9 _).set 10 _)
  replace HT : Hid (Has ((w25.setCell ⟨bX, 9, none⟩ (.int .i64 (0))).setCell ⟨bX, 10, none⟩ (.int .i64 (1))) bT 29 (csOf aT (.slice none 0 0))) := Lib.hid ((HT.out.far nTX.out _).far nTX.out _)
  replace HU : Hid (Has ((w25.setCell ⟨bX, 9, none⟩ (.int .i64 (0))).setCell ⟨bX, 10, none⟩ (.int .i64 (1))) bU 29 (csOf aU (.slice none 0 0))) := Lib.hid ((HU.out.far nUX.out _).far nUX.out _)
  replace HOne : Hid (Has ((w25.setCell ⟨bX, 9, none⟩ (.int .i64 (0))).setCell ⟨bX, 10, none⟩ (.int .i64 (1))) bOne 26 #[.int .i64 1, .int .i64 1]) := Lib.hid ((HOne.out.far nOneX.out _).far nOneX.out _)
  replace HZero : Hid (Has ((w25.setCell ⟨bX, 9, none⟩ (.int .i64 (0))).setCell ⟨bX, 10, none⟩ (.int .i64 (1))) bZero 26 #[.int .i64 0, .int .i64 1]) := Lib.hid ((HZero.out.far nZeroX.out _).far nZeroX.out _)
  replace HV : Hid (Has ((w25.setCell ⟨bX, 9, none⟩ (.int .i64 (0))).setCell ⟨bX, 10, none⟩ (.int .i64 (1))) bV 29 (csOf aV (.slice none 0 0))) := Lib.hid ((HV.out.far nVX.out _).far nVX.out _)
  replace HR : Hid (Has ((w25.setCell ⟨bX, 9, none⟩ (.int .i64 (0))).setCell ⟨bX, 10, none⟩ (.int .i64 (1))) bR 29 (csOf aR (.slice none 0 0))) := Lib.hid ((HR.out.far nRX.out _).far nRX.out _)
  replace HB : Hid (Below w.heap.size w ((w25.setCell ⟨bX, 9, none⟩ (.int .i64 (0))).setCell ⟨bX, 10, none⟩ (.int .i64 (1)))) := Lib.hid ((HB.out.setCell lX.out _).setCell lX.out _)
  generalize ((w25.setCell ⟨bX, 9, none⟩ (.int .i64 (0))).setCell ⟨bX, 10, none⟩ (.int .i64 (1))) = w26 at *
  go_upto_region 15 with (first | (refine wpList_load_if (by rfl) 29 _ rfl bT rfl (by exact HT.out) Tryd.underlying29 rfl IT.out ?_) | (refine wpList_store_last rfl 29 _ _ rfl 29 _ rfl rfl IT.out ZT.out OT.out ?_))
  have HY : Hid (Has (w26.alloc (Obj.cells (csOf aT (.slice none 0 0)) 29)) w26.heap.size 29 (csOf aT (.slice none 0 0))) := Lib.hid (Has.new w26 _ _)
  have LT := Lib.hid HT.out.lt
  have LU := Lib.hid HU.out.lt
  have LOne := Lib.hid HOne.out.lt
  have LZero := Lib.hid HZero.out.lt
  have LV := Lib.hid HV.out.lt
  have LR := Lib.hid HR.out.lt
  have LX := Lib.hid HX.out.lt
  have HB0 := Lib.hid HB.out
  replace HT := Lib.hid (HT.out.alloc (Obj.cells (csOf aT (.slice none 0 0)) 29))
  replace HU := Lib.hid (HU.out.alloc (Obj.cells (csOf aT (.slice none 0 0)) 29))
  replace HOne := Lib.hid (HOne.out.alloc (Obj.cells (csOf aT (.slice none 0 0)) 29))
  replace HZero := Lib.hid (HZero.out.alloc (Obj.cells (csOf aT (.slice none 0 0)) 29))
  replace HV := Lib.hid (HV.out.alloc (Obj.cells (csOf aT (.slice none 0 0)) 29))
  replace HR := Lib.hid (HR.out.alloc (Obj.cells (csOf aT (.slice none 0 0)) 29))
  replace HX := Lib.hid (HX.out.alloc (Obj.cells (csOf aT (.slice none 0 0)) 29))
  replace HB : Hid (Below w.heap.size w (w26.alloc (Obj.cells (csOf aT (.slice none 0 0)) 29))) := Lib.hid (HB.out.alloc HB.out.size _)
  obtain ⟨bY, hbY⟩ : ∃ b, b = w26.heap.size := ⟨_, rfl⟩
  have lY : Hid (w.heap.size ≤ bY) := Lib.hid (by rw [hbY]; exact HB0.out.size)
  have nTY : Hid (bT ≠ bY) := Lib.hid (by rw [hbY]; exact Nat.ne_of_lt LT.out)
  have nUY : Hid (bU ≠ bY) := Lib.hid (by rw [hbY]; exact Nat.ne_of_lt LU.out)
  have nOneY : Hid (bOne ≠ bY) := Lib.hid (by rw [hbY]; exact Nat.ne_of_lt LOne.out)
  have nZeroY : Hid (bZero ≠ bY) := Lib.hid (by rw [hbY]; exact Nat.ne_of_lt LZero.out)
  have nVY : Hid (bV ≠ bY) := Lib.hid (by rw [hbY]; exact Nat.ne_of_lt LV.out)
  have nRY : Hid (bR ≠ bY) := Lib.hid (by rw [hbY]; exact Nat.ne_of_lt LR.out)
  have nXY : Hid (bX ≠ bY) := Lib.hid (by rw [hbY]; exact Nat.ne_of_lt LX.out)
  rw [← hbY] at HY ⊢
  clear hbY HB0 LT LU LOne LZero LV LR LX
  generalize w26.alloc (Obj.cells (csOf aT (.slice none 0 0)) 29) = w27 at *
  have f0 : w27.cell? ⟨bY, 9, none⟩ = some (.int .i64 (1)) := HY.out.cell 9
  have f1 : w27.cell? ⟨bY, 10, none⟩ = some (.int .i64 (2)) := HY.out.cell 10
  have f2 := HY.out.frozen 9
  have f3 := HY.out.frozen 10
  have f4 := HY.out.lt
  go_upto_region 16 with fail
  clear f0 f1 f2 f3 f4
  replace HY : Hid (Has ((w27.setCell ⟨bY, 9, none⟩ (.int .i64 (2))).setCell ⟨bY, 10, none⟩ (.int .i64 (4))) bY 29 (csOf aY (.slice none 0 0))) := Lib.hid (by exact (HY.out.set 9 _).set 10 _)
  replace HT : Hid (Has ((w27.setCell ⟨bY, 9, none⟩ (.int .i64 (2))).setCell ⟨bY, 10, none⟩ (.int .i64 (4))) bT 29 (csOf aT (.slice none 0 0))) := Lib.hid ((HT.out.far nTY.out _).far nTY.out _)
  replace HU : Hid (Has ((w27.setCell ⟨bY, 9, none⟩ (.int .i64 (2))).setCell ⟨bY, 10, none⟩ (.int .i64 (4))) bU 29 (csOf aU (.slice none 0 0))) := Lib.hid ((HU.out.far nUY.out _).far nUY.out _)
  replace HOne : Hid (Has ((w27.setCell ⟨bY, 9, none⟩ (.int .i64 (2))).setCell ⟨bY, 10, none⟩ (.int .i64 (4))) bOne 26 #[.int .i64 1, .int .i64 1]) := Lib.hid ((HOne.out.far nOneY.out _).far nOneY.out _)
  replace HZero : Hid (Has ((w27.setCell ⟨bY, 9, none⟩ (.int .i64 (2))).setCell ⟨bY, 10, none⟩ (.int .i64 (4))) bZero 26 #[.int .i64 0, .int .i64 1]) := Lib.hid ((HZero.out.far nZeroY.out _).far nZeroY.out _)
  replace HV : Hid (Has ((w27.setCell ⟨bY, 9, none⟩ (.int .i64 (2))).setCell ⟨bY, 10, none⟩ (.int .i64 (4))) bV 29 (csOf aV (.slice none 0 0))) := Lib.hid ((HV.out.far nVY.out _).far nVY.out _)
  replace HR : Hid (Has ((w27.setCell ⟨bY, 9, none⟩ (.int .i64 (2))).setCell ⟨bY, 10, none⟩ (.int .i64 (4))) bR 29 (csOf aR (.slice none 0 0))) := Lib.hid ((HR.out.far nRY.out _).far nRY.out _)
  replace HX : Hid (Has ((w27.setCell ⟨bY, 9, none⟩ (.int .i64 (2))).setCell ⟨bY, 10, none⟩ (.int .i64 (4))) bX 29 (csOf aX (.slice none 0 0))) := Lib.hid ((HX.out.far nXY.out _).far nXY.out _)
  replace HB : Hid (Below w.heap.size w ((w27.setCell ⟨bY, 9, none⟩ (.int .i64 (2))).setCell ⟨bY, 10, none⟩ (.int .i64 (4)))) := Lib.hid ((HB.out.setCell lY.out _).setCell lY.out _)
  generalize ((w27.setCell ⟨bY, 9, none⟩ (.int .i64 (2))).setCell ⟨bY, 10, none⟩ (.int .i64 (4))) = w28 at *
  go_wp2_with (refine wpList_load_if (by rfl) 29 _ rfl bR rfl (by exact HR.out) Tryd.underlying29 rfl IR.out ?_)
  refine (ak15 w28 (HE.out.at_below HB.out)).mono ?_
  rintro e w29 ⟨rfl, hb⟩
  replace HT := Lib.hid (HT.out.below hb HT.out.lt)
  replace HU := Lib.hid (HU.out.below hb HU.out.lt)
  replace HOne := Lib.hid (HOne.out.below hb HOne.out.lt)
  replace HZero := Lib.hid (HZero.out.below hb HZero.out.lt)
  replace HV := Lib.hid (HV.out.below hb HV.out.lt)
  replace HR := Lib.hid (HR.out.below hb HR.out.lt)
  replace HX := Lib.hid (HX.out.below hb HX.out.lt)
  replace HY := Lib.hid (HY.out.below hb HY.out.lt)
  replace HB := Lib.hid (HB.out.trans (hb.mono HB.out.size))
  clear hb
  go_wp2_with (refine wpList_load_if (by rfl) 29 _ rfl bR rfl (by exact HR.out) Tryd.underlying29 rfl IR.out ?_)
  refine (ak16 w29 (HE.out.at_below HB.out)).mono ?_
  rintro e w30 ⟨rfl, hb⟩
  replace HT := Lib.hid (HT.out.below hb HT.out.lt)
  replace HU := Lib.hid (HU.out.below hb HU.out.lt)
  replace HOne := Lib.hid (HOne.out.below hb HOne.out.lt)
  replace HZero := Lib.hid (HZero.out.below hb HZero.out.lt)
  replace HV := Lib.hid (HV.out.below hb HV.out.lt)
  replace HR := Lib.hid (HR.out.below hb HR.out.lt)
  replace HX := Lib.hid (HX.out.below hb HX.out.lt)
  replace HY := Lib.hid (HY.out.below hb HY.out.lt)
  replace HB := Lib.hid (HB.out.trans (hb.mono HB.out.size))
  clear hb
  go_wp2_with (refine wpList_load_if (by rfl) 29 _ rfl bR rfl (by exact HR.out) Tryd.underlying29 rfl IR.out ?_)
  refine (ak17 w30 (HE.out.at_below HB.out)).mono ?_
  rintro e w31 ⟨rfl, hb⟩
  replace HT := Lib.hid (HT.out.below hb HT.out.lt)
  replace HU := Lib.hid (HU.out.below hb HU.out.lt)
  replace HOne := Lib.hid (HOne.out.below hb HOne.out.lt)
  replace HZero := Lib.hid (HZero.out.below hb HZero.out.lt)
  replace HV := Lib.hid (HV.out.below hb HV.out.lt)
  replace HR := Lib.hid (HR.out.below hb HR.out.lt)
  replace HX := Lib.hid (HX.out.below hb HX.out.lt)
  replace HY := Lib.hid (HY.out.below hb HY.out.lt)
  replace HB := Lib.hid (HB.out.trans (hb.mono HB.out.size))
  clear hb
  go_wp2_with (refine wpList_load_if (by rfl) 29 _ rfl bR rfl (by exact HR.out) Tryd.underlying29 rfl IR.out ?_)
  refine (ak18 w31 (HE.out.at_below HB.out)).mono ?_
  rintro e w32 ⟨rfl, hb⟩
  replace HT := Lib.hid (HT.out.below hb HT.out.lt)
  replace HU := Lib.hid (HU.out.below hb HU.out.lt)
  replace HOne := Lib.hid (HOne.out.below hb HOne.out.lt)
  replace HZero := Lib.hid (HZero.out.below hb HZero.out.lt)
  replace HV := Lib.hid (HV.out.below hb HV.out.lt)
  replace HR := Lib.hid (HR.out.below hb HR.out.lt)
  replace HX := Lib.hid (HX.out.below hb HX.out.lt)
  replace HY := Lib.hid (HY.out.below hb HY.out.lt)
  replace HB := Lib.hid (HB.out.trans (hb.mono HB.out.size))
  clear hb
  go_wp2_with (refine wpList_load_if (by rfl) 29 _ rfl bR rfl (by exact HR.out) Tryd.underlying29 rfl IR.out ?_)
  refine (ak19 w32 (HE.out.at_below HB.out)).mono ?_
  rintro e w33 ⟨rfl, hb⟩
  replace HT := Lib.hid (HT.out.below hb HT.out.lt)
  replace HU := Lib.hid (HU.out.below hb HU.out.lt)
  replace HOne := Lib.hid (HOne.out.below hb HOne.out.lt)
  replace HZero := Lib.hid (HZero.out.below hb HZero.out.lt)
  replace HV := Lib.hid (HV.out.below hb HV.out.lt)
  replace HR := Lib.hid (HR.out.below hb HR.out.lt)
  replace HX := Lib.hid (HX.out.below hb HX.out.lt)
  replace HY := Lib.hid (HY.out.below hb HY.out.lt)
  replace HB := Lib.hid (HB.out.trans (hb.mono HB.out.size))
  clear hb
  go_wp2_with (refine wpList_load_if (by rfl) 29 _ rfl bR rfl (by exact HR.out) Tryd.underlying29 rfl IR.out ?_)
  refine (ak20 w33 (HE.out.at_below HB.out)).mono ?_
  rintro e w34 ⟨rfl, hb⟩
  replace HT := Lib.hid (HT.out.below hb HT.out.lt)
  replace HU := Lib.hid (HU.out.below hb HU.out.lt)
  replace HOne := Lib.hid (HOne.out.below hb HOne.out.lt)
  replace HZero := Lib.hid (HZero.out.below hb HZero.out.lt)
  replace HV := Lib.hid (HV.out.below hb HV.out.lt)
  replace HR := Lib.hid (HR.out.below hb HR.out.lt)
  replace HX := Lib.hid (HX.out.below hb HX.out.lt)
  replace HY := Lib.hid (HY.out.below hb HY.out.lt)
  replace HB := Lib.hid (HB.out.trans (hb.mono HB.out.size))
  clear hb
  go_wp2_with (refine wpList_load_if (by rfl) 29 _ rfl bX rfl (by exact HX.out) Tryd.underlying29 rfl IX.out ?_)
  refine (ak21 w34 (HE.out.at_below HB.out)).mono ?_
  rintro e w35 ⟨rfl, hb⟩
  replace HT := Lib.hid (HT.out.below hb HT.out.lt)
  replace HU := Lib.hid (HU.out.below hb HU.out.lt)
  replace HOne := Lib.hid (HOne.out.below hb HOne.out.lt)
  replace HZero := Lib.hid (HZero.out.below hb HZero.out.lt)
  replace HV := Lib.hid (HV.out.below hb HV.out.lt)
  replace HR := Lib.hid (HR.out.below hb HR.out.lt)
  replace HX := Lib.hid (HX.out.below hb HX.out.lt)
  replace HY := Lib.hid (HY.out.below hb HY.out.lt)
  replace HB := Lib.hid (HB.out.trans (hb.mono HB.out.size))
  clear hb
  go_wp2_with (refine wpList_load_if (by rfl) 29 _ rfl bX rfl (by exact HX.out) Tryd.underlying29 rfl IX.out ?_)
  refine (ak22 w35 (HE.out.at_below HB.out)).mono ?_
  rintro e w36 ⟨rfl, hb⟩
  replace HT := Lib.hid (HT.out.below hb HT.out.lt)
  replace HU := Lib.hid (HU.out.below hb HU.out.lt)
  replace HOne := Lib.hid (HOne.out.below hb HOne.out.lt)
  replace HZero := Lib.hid (HZero.out.below hb HZero.out.lt)
  replace HV := Lib.hid (HV.out.below hb HV.out.lt)
  replace HR := Lib.hid (HR.out.below hb HR.out.lt)
  replace HX := Lib.hid (HX.out.below hb HX.out.lt)
  replace HY := Lib.hid (HY.out.below hb HY.out.lt)
  replace HB := Lib.hid (HB.out.trans (hb.mono HB.out.size))
  clear hb
  go_wp2_with (refine wpList_load_if (by rfl) 29 _ rfl bY rfl (by exact HY.out) Tryd.underlying29 rfl IY.out ?_)
  refine (ak23 w36 (HE.out.at_below HB.out)).mono ?_
  rintro e w37 ⟨rfl, hb⟩
  replace HT := Lib.hid (HT.out.below hb HT.out.lt)
  replace HU := Lib.hid (HU.out.below hb HU.out.lt)
  replace HOne := Lib.hid (HOne.out.below hb HOne.out.lt)
  replace HZero := Lib.hid (HZero.out.below hb HZero.out.lt)
  replace HV := Lib.hid (HV.out.below hb HV.out.lt)
  replace HR := Lib.hid (HR.out.below hb HR.out.lt)
  replace HX := Lib.hid (HX.out.below hb HX.out.lt)
  replace HY := Lib.hid (HY.out.below hb HY.out.lt)
  replace HB := Lib.hid (HB.out.trans (hb.mono HB.out.size))
  clear hb
  go_upto_region 18 with fail
  go_upto_region 19 with (first | (refine wpList_load_if (by rfl) 29 _ rfl bV rfl (by exact HV.out) Tryd.underlying29 rfl IV.out ?_) | (refine wpList_store_last rfl 29 _ _ rfl 29 _ rfl rfl IV.out ZV.out OV.out ?_))
  have HQ : Hid (Has (w37.alloc (Obj.cells (csOf aV (.slice none 0 0)) 29)) w37.heap.size 29 (csOf aV (.slice none 0 0))) := Lib.hid (Has.new w37 _ _)
  have LT := Lib.hid HT.out.lt
  have LU := Lib.hid HU.out.lt
  have LOne := Lib.hid HOne.out.lt
  have LZero := Lib.hid HZero.out.lt
  have LV := Lib.hid HV.out.lt
  have LR := Lib.hid HR.out.lt
  have LX := Lib.hid HX.out.lt
  have LY := Lib.hid HY.out.lt
  have HB0 := Lib.hid HB.out
  replace HT := Lib.hid (HT.out.alloc (Obj.cells (csOf aV (.slice none 0 0)) 29))
  replace HU := Lib.hid (HU.out.alloc (Obj.cells (csOf aV (.slice none 0 0)) 29))
  replace HOne := Lib.hid (HOne.out.alloc (Obj.cells (csOf aV (.slice none 0 0)) 29))
  replace HZero := Lib.hid (HZero.out.alloc (Obj.cells (csOf aV (.slice none 0 0)) 29))
  replace HV := Lib.hid (HV.out.alloc (Obj.cells (csOf aV (.slice none 0 0)) 29))
  replace HR := Lib.hid (HR.out.alloc (Obj.cells (csOf aV (.slice none 0 0)) 29))
  replace HX := Lib.hid (HX.out.alloc (Obj.cells (csOf aV (.slice none 0 0)) 29))
  replace HY := Lib.hid (HY.out.alloc (Obj.cells (csOf aV (.slice none 0 0)) 29))
  replace HB : Hid (Below w.heap.size w (w37.alloc (Obj.cells (csOf aV (.slice none 0 0)) 29))) := Lib.hid (HB.out.alloc HB.out.size _)
  obtain ⟨bQ, hbQ⟩ : ∃ b, b = w37.heap.size := ⟨_, rfl⟩
  have lQ : Hid (w.heap.size ≤ bQ) := Lib.hid (by rw [hbQ]; exact HB0.out.size)
  have nTQ : Hid (bT ≠ bQ) := Lib.hid (by rw [hbQ]; exact Nat.ne_of_lt LT.out)
  have nUQ : Hid (bU ≠ bQ) := Lib.hid (by rw [hbQ]; exact Nat.ne_of_lt LU.out)
  have nOneQ : Hid (bOne ≠ bQ) := Lib.hid (by rw [hbQ]; exact Nat.ne_of_lt LOne.out)
  have nZeroQ : Hid (bZero ≠ bQ) := Lib.hid (by rw [hbQ]; exact Nat.ne_of_lt LZero.out)
  have nVQ : Hid (bV ≠ bQ) := Lib.hid (by rw [hbQ]; exact Nat.ne_of_lt LV.out)
  have nRQ : Hid (bR ≠ bQ) := Lib.hid (by rw [hbQ]; exact Nat.ne_of_lt LR.out)
  have nXQ : Hid (bX ≠ bQ) := Lib.hid (by rw [hbQ]; exact Nat.ne_of_lt LX.out)
  have nYQ : Hid (bY ≠ bQ) := Lib.hid (by rw [hbQ]; exact Nat.ne_of_lt LY.out)
  rw [← hbQ] at HQ ⊢
  clear hbQ HB0 LT LU LOne LZero LV LR LX LY
  generalize w37.alloc (Obj.cells (csOf aV (.slice none 0 0)) 29) = w38 at *
  have f0 : w38.cell? ⟨bQ, 13, none⟩ = some (.int .i64 (0)) := HQ.out.cell 13
  have f1 : w38.cell? ⟨bQ, 14, none⟩ = some (.int .i64 (1)) := HQ.out.cell 14
  have f2 := HQ.out.frozen 13
  have f3 := HQ.out.frozen 14
  have f4 := HQ.out.lt
  go_upto_region 20 with fail
  clear f0 f1 f2 f3 f4
  replace HQ : Hid (Has ((w38.setCell ⟨bQ, 13, none⟩ (.int .i64 (5))).setCell ⟨bQ, 14, none⟩ (.int .i64 (1))) bQ 29 (csOf aQ5 (.slice none 0 0))) := Lib.hid (by exact (HQ.out.set 13 _).set 14 _)
  replace HT : Hid (Has ((w38.setCell ⟨bQ, 13, none⟩ (.int .i64 (5))).setCell ⟨bQ, 14, none⟩ (.int .i64 (1))) bT 29 (csOf aT (.slice none 0 0))) := Lib.hid ((HT.out.far nTQ.out _).far nTQ.out _)
  replace HU : Hid (Has ((w38.setCell ⟨bQ, 13, none⟩ (.int .i64 (5))).setCell ⟨bQ, 14, none⟩ (.int .i64 (1))) bU 29 (csOf aU (.slice none 0 0))) := Lib.hid ((HU.out.far nUQ.out _).far nUQ.out _)
  replace HOne : Hid (Has ((w38.setCell ⟨bQ, 13, none⟩ (.int .i64 (5))).setCell ⟨bQ, 14, none⟩ (.int .i64 (1))) bOne 26 #[.int .i64 1, .int .i64 1]) := Lib.hid ((HOne.out.far nOneQ.out _).far nOneQ.out _)
  replace HZero : Hid (Has ((w38.setCell ⟨bQ, 13, none⟩ (.int .i64 (5))).setCell ⟨bQ, 14, none⟩ (.int .i64 (1))) bZero 26 #[.int .i64 0, .int .i64 1]) := Lib.hid ((HZero.out.far nZeroQ.out _).far nZeroQ.out _)
  replace HV : Hid (Has ((w38.setCell ⟨bQ, 13, none⟩ (.int .i64 (5))).setCell ⟨bQ, 14, none⟩ (.int .i64 (1))) bV 29 (csOf aV (.slice none 0 0))) := Lib.hid ((HV.out.far nVQ.out _).far nVQ.out _)
  replace HR : Hid (Has ((w38.setCell ⟨bQ, 13, none⟩ (.int .i64 (5))).setCell ⟨bQ, 14, none⟩ (.int .i64 (1))) bR 29 (csOf aR (.slice none 0 0))) := Lib.hid ((HR.out.far nRQ.out _).far nRQ.out _)
  replace HX : Hid (Has ((w38.setCell ⟨bQ, 13, none⟩ (.int .i64 (5))).setCell ⟨bQ, 14, none⟩ (.int .i64 (1))) bX 29 (csOf aX (.slice none 0 0))) := Lib.hid ((HX.out.far nXQ.out _).far nXQ.out _)
  replace HY : Hid (Has ((w38.setCell ⟨bQ, 13, none⟩ (.int .i64 (5))).setCell ⟨bQ, 14, none⟩ (.int .i64 (1))) bY 29 (csOf aY (.slice none 0 0))) := Lib.hid ((HY.out.far nYQ.out _).far nYQ.out _)
  replace HB : Hid (Below w.heap.size w ((w38.setCell ⟨bQ, 13, none⟩ (.int .i64 (5))).setCell ⟨bQ, 14, none⟩ (.int .i64 (1)))) := Lib.hid ((HB.out.setCell lQ.out _).setCell lQ.out _)
  generalize ((w38.setCell ⟨bQ, 13, none⟩ (.int .i64 (5))).setCell ⟨bQ, 14, none⟩ (.int .i64 (1))) = w39 at *
  have g0 : w39.cell? ⟨bQ, 13, none⟩ = some (.int .i64 (5)) := HQ.out.cell 13
  have g1 : w39.cell? ⟨bQ, 14, none⟩ = some (.int .i64 (1)) := HQ.out.cell 14
  have f0 : w39.cell? ⟨bQ, 15, none⟩ = some (.int .i64 (0)) := HQ.out.cell 15
  have f1 : w39.cell? ⟨bQ, 16, none⟩ = some (.int .i64 (1)) := HQ.out.cell 16
  have f2 := HQ.out.frozen 15
  have f3 := HQ.out.frozen 16
  have f4 := HQ.out.lt
  go_upto_region 21 with fail
  clear f0 f1 f2 f3 f4 g0 g1
  replace HQ : Hid (Has ((w39.setCell ⟨bQ, 15, none⟩ (.int .i64 (5))).setCell ⟨bQ, 16, none⟩ (.int .i64 (1))) bQ 29 (csOf aQ (.slice none 0 0))) := Lib.hid (by exact (HQ.out.set 15 _).set 16 _)
  replace HT : Hid (Has ((w39.setCell ⟨bQ, 15, none⟩ (.int .i64 (5))).setCell ⟨bQ, 16, none⟩ (.int .i64 (1))) bT 29 (csOf aT (.slice none 0 0))) := Lib.hid ((HT.out.far nTQ.out _).far nTQ.out _)
  replace HU : Hid (Has ((w39.setCell ⟨bQ, 15, none⟩ (.int .i64 (5))).setCell ⟨bQ, 16, none⟩ (.int .i64 (1))) bU 29 (csOf aU (.slice none 0 0))) := Lib.hid ((HU.out.far nUQ.out _).far nUQ.out _)
  replace HOne : Hid (Has ((w39.setCell ⟨bQ, 15, none⟩ (.int .i64 (5))).setCell ⟨bQ, 16, none⟩ (.int .i64 (1))) bOne 26 #[.int .i64 1, .int .i64 1]) := Lib.hid ((HOne.out.far nOneQ.out _).far nOneQ.out _)
  replace HZero : Hid (Has ((w39.setCell ⟨bQ, 15, none⟩ (.int .i64 (5))).setCell ⟨bQ, 16, none⟩ (.int .i64 (1))) bZero 26 #[.int .i64 0, .int .i64 1]) := Lib.hid ((HZero.out.far nZeroQ.out _).far nZeroQ.out _)
  replace HV : Hid (Has ((w39.setCell ⟨bQ, 15, none⟩ (.int .i64 (5))).setCell ⟨bQ, 16, none⟩ (.int .i64 (1))) bV 29 (csOf aV (.slice none 0 0))) := Lib.hid ((HV.out.far nVQ.out _).far nVQ.out _)
  replace HR : Hid (Has ((w39.setCell ⟨bQ, 15, none⟩ (.int .i64 (5))).setCell ⟨bQ, 16, none⟩ (.int .i64 (1))) bR 29 (csOf aR (.slice none 0 0))) := Lib.hid ((HR.out.far nRQ.out _).far nRQ.out _)
  replace HX : Hid (Has ((w39.setCell ⟨bQ, 15, none⟩ (.int .i64 (5))).setCell ⟨bQ, 16, none⟩ (.int .i64 (1))) bX 29 (csOf aX (.slice none 0 0))) := Lib.hid ((HX.out.far nXQ.out _).far nXQ.out _)
  replace HY : Hid (Has ((w39.setCell ⟨bQ, 15, none⟩ (.int .i64 (5))).setCell ⟨bQ, 16, none⟩ (.int .i64 (1))) bY 29 (csOf aY (.slice none 0 0))) := Lib.hid ((HY.out.far nYQ.out _).far nYQ.out _)
  replace HB : Hid (Below w.heap.size w ((w39.setCell ⟨bQ, 15, none⟩ (.int .i64 (5))).setCell ⟨bQ, 16, none⟩ (.int .i64 (1)))) := Lib.hid ((HB.out.setCell lQ.out _).setCell lQ.out _)
  generalize ((w39.setCell ⟨bQ, 15, none⟩ (.int .i64 (5))).setCell ⟨bQ, 16, none⟩ (.int .i64 (1))) = w40 at *
  go_wp2_with (refine wpList_load_if (by rfl) 29 _ rfl bQ rfl (by exact HQ.out) Tryd.underlying29 rfl IQ.out ?_)
  refine (ak24 w40 (HE.out.at_below HB.out)).mono ?_
  rintro e w41 ⟨rfl, hb⟩
  replace HT := Lib.hid (HT.out.below hb HT.out.lt)
  replace HU := Lib.hid (HU.out.below hb HU.out.lt)
  replace HOne := Lib.hid (HOne.out.below hb HOne.out.lt)
  replace HZero := Lib.hid (HZero.out.below hb HZero.out.lt)
  replace HV := Lib.hid (HV.out.below hb HV.out.lt)
  replace HR := Lib.hid (HR.out.below hb HR.out.lt)
  replace HX := Lib.hid (HX.out.below hb HX.out.lt)
  replace HY := Lib.hid (HY.out.below hb HY.out.lt)
  replace HQ := Lib.hid (HQ.out.below hb HQ.out.lt)
  replace HB := Lib.hid (HB.out.trans (hb.mono HB.out.size))
  clear hb
  go_wp2_with (refine wpList_load_if (by rfl) 29 _ rfl bQ rfl (by exact HQ.out) Tryd.underlying29 rfl IQ.out ?_)
  refine (ak25 w41 (HE.out.at_below HB.out)).mono ?_
  rintro e w42 ⟨rfl, hb⟩
  replace HT := Lib.hid (HT.out.below hb HT.out.lt)
  replace HU := Lib.hid (HU.out.below hb HU.out.lt)
  replace HOne := Lib.hid (HOne.out.below hb HOne.out.lt)
  replace HZero := Lib.hid (HZero.out.below hb HZero.out.lt)
  replace HV := Lib.hid (HV.out.below hb HV.out.lt)
  replace HR := Lib.hid (HR.out.below hb HR.out.lt)
  replace HX := Lib.hid (HX.out.below hb HX.out.lt)
  replace HY := Lib.hid (HY.out.below hb HY.out.lt)
  replace HQ := Lib.hid (HQ.out.below hb HQ.out.lt)
  replace HB := Lib.hid (HB.out.trans (hb.mono HB.out.size))
  clear hb
  go_wp2_with (refine wpList_load_if (by rfl) 29 _ rfl bQ rfl (by exact HQ.out) Tryd.underlying29 rfl IQ.out ?_)
  refine (ak26 w42 (HE.out.at_below HB.out)).mono ?_
  rintro e w43 ⟨rfl, hb⟩
  replace HT := Lib.hid (HT.out.below hb HT.out.lt)
  replace HU := Lib.hid (HU.out.below hb HU.out.lt)
  replace HOne := Lib.hid (HOne.out.below hb HOne.out.lt)
  replace HZero := Lib.hid (HZero.out.below hb HZero.out.lt)
  replace HV := Lib.hid (HV.out.below hb HV.out.lt)
  replace HR := Lib.hid (HR.out.below hb HR.out.lt)
  replace HX := Lib.hid (HX.out.below hb HX.out.lt)
  replace HY := Lib.hid (HY.out.below hb HY.out.lt)
  replace HQ := Lib.hid (HQ.out.below hb HQ.out.lt)
  replace HB := Lib.hid (HB.out.trans (hb.mono HB.out.size))
  clear hb
  go_wp2_with (refine wpList_load_if (by rfl) 29 _ rfl bV rfl (by exact HV.out) Tryd.underlying29 rfl IV.out ?_)
  refine (ak27 w43 (HE.out.at_below HB.out)).mono ?_
  rintro e w44 ⟨rfl, hb⟩
  replace HT := Lib.hid (HT.out.below hb HT.out.lt)
  replace HU := Lib.hid (HU.out.below hb HU.out.lt)
  replace HOne := Lib.hid (HOne.out.below hb HOne.out.lt)
  replace HZero := Lib.hid (HZero.out.below hb HZero.out.lt)
  replace HV := Lib.hid (HV.out.below hb HV.out.lt)
  replace HR := Lib.hid (HR.out.below hb HR.out.lt)
  replace HX := Lib.hid (HX.out.below hb HX.out.lt)
  replace HY := Lib.hid (HY.out.below hb HY.out.lt)
  replace HQ := Lib.hid (HQ.out.below hb HQ.out.lt)
  replace HB := Lib.hid (HB.out.trans (hb.mono HB.out.size))
  clear hb
  go_upto_region 24 with fail
  have HL : Hid (Has (w44.alloc (Obj.cells #[.int .i64 0, .string ⟨#[111, 102, 102]⟩, .int .i64 1, .string ⟨#[111, 110]⟩, .int .i64 0, .string ⟨#[110, 111]⟩] 51)) w44.heap.size 51 #[.int .i64 0, .string ⟨#[111, 102, 102]⟩, .int .i64 1, .string ⟨#[111, 110]⟩, .int .i64 0, .string ⟨#[110, 111]⟩]) := Lib.hid (Has.new w44 _ _)
  have LT := Lib.hid HT.out.lt
  have LU := Lib.hid HU.out.lt
  have LOne := Lib.hid HOne.out.lt
  have LZero := Lib.hid HZero.out.lt
  have LV := Lib.hid HV.out.lt
  have LR := Lib.hid HR.out.lt
  have LX := Lib.hid HX.out.lt
  have LY := Lib.hid HY.out.lt
  have LQ := Lib.hid HQ.out.lt
  have HB0 := Lib.hid HB.out
  replace HT := Lib.hid (HT.out.alloc (Obj.cells #[.int .i64 0, .string ⟨#[111, 102, 102]⟩, .int .i64 1, .string ⟨#[111, 110]⟩, .int .i64 0, .string ⟨#[110, 111]⟩] 51))
  replace HU := Lib.hid (HU.out.alloc (Obj.cells #[.int .i64 0, .string ⟨#[111, 102, 102]⟩, .int .i64 1, .string ⟨#[111, 110]⟩, .int .i64 0, .string ⟨#[110, 111]⟩] 51))
  replace HOne := Lib.hid (HOne.out.alloc (Obj.cells #[.int .i64 0, .string ⟨#[111, 102, 102]⟩, .int .i64 1, .string ⟨#[111, 110]⟩, .int .i64 0, .string ⟨#[110, 111]⟩] 51))
  replace HZero := Lib.hid (HZero.out.alloc (Obj.cells #[.int .i64 0, .string ⟨#[111, 102, 102]⟩, .int .i64 1, .string ⟨#[111, 110]⟩, .int .i64 0, .string ⟨#[110, 111]⟩] 51))
  replace HV := Lib.hid (HV.out.alloc (Obj.cells #[.int .i64 0, .string ⟨#[111, 102, 102]⟩, .int .i64 1, .string ⟨#[111, 110]⟩, .int .i64 0, .string ⟨#[110, 111]⟩] 51))
  replace HR := Lib.hid (HR.out.alloc (Obj.cells #[.int .i64 0, .string ⟨#[111, 102, 102]⟩, .int .i64 1, .string ⟨#[111, 110]⟩, .int .i64 0, .string ⟨#[110, 111]⟩] 51))
  replace HX := Lib.hid (HX.out.alloc (Obj.cells #[.int .i64 0, .string ⟨#[111, 102, 102]⟩, .int .i64 1, .string ⟨#[111, 110]⟩, .int .i64 0, .string ⟨#[110, 111]⟩] 51))
  replace HY := Lib.hid (HY.out.alloc (Obj.cells #[.int .i64 0, .string ⟨#[111, 102, 102]⟩, .int .i64 1, .string ⟨#[111, 110]⟩, .int .i64 0, .string ⟨#[110, 111]⟩] 51))
  replace HQ := Lib.hid (HQ.out.alloc (Obj.cells #[.int .i64 0, .string ⟨#[111, 102, 102]⟩, .int .i64 1, .string ⟨#[111, 110]⟩, .int .i64 0, .string ⟨#[110, 111]⟩] 51))
  replace HB : Hid (Below w.heap.size w (w44.alloc (Obj.cells #[.int .i64 0, .string ⟨#[111, 102, 102]⟩, .int .i64 1, .string ⟨#[111, 110]⟩, .int .i64 0, .string ⟨#[110, 111]⟩] 51))) := Lib.hid (HB.out.alloc HB.out.size _)
  obtain ⟨bL, hbL⟩ : ∃ b, b = w44.heap.size := ⟨_, rfl⟩
  have lL : Hid (w.heap.size ≤ bL) := Lib.hid (by rw [hbL]; exact HB0.out.size)
  have nTL : Hid (bT ≠ bL) := Lib.hid (by rw [hbL]; exact Nat.ne_of_lt LT.out)
  have nUL : Hid (bU ≠ bL) := Lib.hid (by rw [hbL]; exact Nat.ne_of_lt LU.out)
  have nOneL : Hid (bOne ≠ bL) := Lib.hid (by rw [hbL]; exact Nat.ne_of_lt LOne.out)
  have nZeroL : Hid (bZero ≠ bL) := Lib.hid (by rw [hbL]; exact Nat.ne_of_lt LZero.out)
  have nVL : Hid (bV ≠ bL) := Lib.hid (by rw [hbL]; exact Nat.ne_of_lt LV.out)
  have nRL : Hid (bR ≠ bL) := Lib.hid (by rw [hbL]; exact Nat.ne_of_lt LR.out)
  have nXL : Hid (bX ≠ bL) := Lib.hid (by rw [hbL]; exact Nat.ne_of_lt LX.out)
  have nYL : Hid (bY ≠ bL) := Lib.hid (by rw [hbL]; exact Nat.ne_of_lt LY.out)
  have nQL : Hid (bQ ≠ bL) := Lib.hid (by rw [hbL]; exact Nat.ne_of_lt LQ.out)
  rw [← hbL] at HL ⊢
  clear hbL HB0 LT LU LOne LZero LV LR LX LY LQ
  generalize w44.alloc (Obj.cells #[.int .i64 0, .string ⟨#[111, 102, 102]⟩, .int .i64 1, .string ⟨#[111, 110]⟩, .int .i64 0, .string ⟨#[110, 111]⟩] 51) = w45 at *
  go_upto_region 25 with fail
  have HM : Hid (Has (w45.alloc (Obj.cells #[.int .i64 300, .string ⟨#[111, 110]⟩, .int .i64 1, .string ⟨#[111, 110]⟩] 51)) w45.heap.size 51 #[.int .i64 300, .string ⟨#[111, 110]⟩, .int .i64 1, .string ⟨#[111, 110]⟩]) := Lib.hid (Has.new w45 _ _)
  have LT := Lib.hid HT.out.lt
  have LU := Lib.hid HU.out.lt
  have LOne := Lib.hid HOne.out.lt
  have LZero := Lib.hid HZero.out.lt
  have LV := Lib.hid HV.out.lt
  have LR := Lib.hid HR.out.lt
  have LX := Lib.hid HX.out.lt
  have LY := Lib.hid HY.out.lt
  have LQ := Lib.hid HQ.out.lt
  have LL := Lib.hid HL.out.lt
  have HB0 := Lib.hid HB.out
  replace HT := Lib.hid (HT.out.alloc (Obj.cells #[.int .i64 300, .string ⟨#[111, 110]⟩, .int .i64 1, .string ⟨#[111, 110]⟩] 51))
  replace HU := Lib.hid (HU.out.alloc (Obj.cells #[.int .i64 300, .string ⟨#[111, 110]⟩, .int .i64 1, .string ⟨#[111, 110]⟩] 51))
  replace HOne := Lib.hid (HOne.out.alloc (Obj.cells #[.int .i64 300, .string ⟨#[111, 110]⟩, .int .i64 1, .string ⟨#[111, 110]⟩] 51))
  replace HZero := Lib.hid (HZero.out.alloc (Obj.cells #[.int .i64 300, .string ⟨#[111, 110]⟩, .int .i64 1, .string ⟨#[111, 110]⟩] 51))
  replace HV := Lib.hid (HV.out.alloc (Obj.cells #[.int .i64 300, .string ⟨#[111, 110]⟩, .int .i64 1, .string ⟨#[111, 110]⟩] 51))
  replace HR := Lib.hid (HR.out.alloc (Obj.cells #[.int .i64 300, .string ⟨#[111, 110]⟩, .int .i64 1, .string ⟨#[111, 110]⟩] 51))
  replace HX := Lib.hid (HX.out.alloc (Obj.cells #[.int .i64 300, .string ⟨#[111, 110]⟩, .int .i64 1, .string ⟨#[111, 110]⟩] 51))
  replace HY := Lib.hid (HY.out.alloc (Obj.cells #[.int .i64 300, .string ⟨#[111, 110]⟩, .int .i64 1, .string ⟨#[111, 110]⟩] 51))
  replace HQ := Lib.hid (HQ.out.alloc (Obj.cells #[.int .i64 300, .string ⟨#[111, 110]⟩, .int .i64 1, .string ⟨#[111, 110]⟩] 51))
  replace HL := Lib.hid (HL.out.alloc (Obj.cells #[.int .i64 300, .string ⟨#[111, 110]⟩, .int .i64 1, .string ⟨#[111, 110]⟩] 51))
  replace HB : Hid (Below w.heap.size w (w45.alloc (Obj.cells #[.int .i64 300, .string ⟨#[111, 110]⟩, .int .i64 1, .string ⟨#[111, 110]⟩] 51))) := Lib.hid (HB.out.alloc HB.out.size _)
  obtain ⟨bM, hbM⟩ : ∃ b, b = w45.heap.size := ⟨_, rfl⟩
  have lM : Hid (w.heap.size ≤ bM) := Lib.hid (by rw [hbM]; exact HB0.out.size)
  have nTM : Hid (bT ≠ bM) := Lib.hid (by rw [hbM]; exact Nat.ne_of_lt LT.out)
  have nUM : Hid (bU ≠ bM) := Lib.hid (by rw [hbM]; exact Nat.ne_of_lt LU.out)
  have nOneM : Hid (bOne ≠ bM) := Lib.hid (by rw [hbM]; exact Nat.ne_of_lt LOne.out)
  have nZeroM : Hid (bZero ≠ bM) := Lib.hid (by rw [hbM]; exact Nat.ne_of_lt LZero.out)
  have nVM : Hid (bV ≠ bM) := Lib.hid (by rw [hbM]; exact Nat.ne_of_lt LV.out)
  have nRM : Hid (bR ≠ bM) := Lib.hid (by rw [hbM]; exact Nat.ne_of_lt LR.out)
  have nXM : Hid (bX ≠ bM) := Lib.hid (by rw [hbM]; exact Nat.ne_of_lt LX.out)
  have nYM : Hid (bY ≠ bM) := Lib.hid (by rw [hbM]; exact Nat.ne_of_lt LY.out)
  have nQM : Hid (bQ ≠ bM) := Lib.hid (by rw [hbM]; exact Nat.ne_of_lt LQ.out)
  have nLM : Hid (bL ≠ bM) := Lib.hid (by rw [hbM]; exact Nat.ne_of_lt LL.out)
  rw [← hbM] at HM ⊢
  clear hbM HB0 LT LU LOne LZero LV LR LX LY LQ LL
  generalize w45.alloc (Obj.cells #[.int .i64 300, .string ⟨#[111, 110]⟩, .int .i64 1, .string ⟨#[111, 110]⟩] 51) = w46 at *
  go_wp2_with (refine wpList_load_if (by rfl) 29 _ rfl bT rfl (by exact HT.out) Tryd.underlying29 rfl IT.out ?_)
  refine (tx0 w46 _ (sl_l HL.out)).mono ?_
  rintro e w47 ⟨rfl, hb⟩
  replace HT := Lib.hid (HT.out.below hb HT.out.lt)
  replace HU := Lib.hid (HU.out.below hb HU.out.lt)
  replace HOne := Lib.hid (HOne.out.below hb HOne.out.lt)
  replace HZero := Lib.hid (HZero.out.below hb HZero.out.lt)
  replace HV := Lib.hid (HV.out.below hb HV.out.lt)
  replace HR := Lib.hid (HR.out.below hb HR.out.lt)
  replace HX := Lib.hid (HX.out.below hb HX.out.lt)
  replace HY := Lib.hid (HY.out.below hb HY.out.lt)
  replace HQ := Lib.hid (HQ.out.below hb HQ.out.lt)
  replace HL := Lib.hid (HL.out.below hb HL.out.lt)
  replace HM := Lib.hid (HM.out.below hb HM.out.lt)
  replace HB := Lib.hid (HB.out.trans (hb.mono HB.out.size))
  clear hb
  go_wp2_with (refine wpList_load_if (by rfl) 29 _ rfl bT rfl (by exact HT.out) Tryd.underlying29 rfl IT.out ?_)
  refine (tx1 w47 _ (sl_l HL.out)).mono ?_
  rintro e w48 ⟨rfl, hb⟩
  replace HT := Lib.hid (HT.out.below hb HT.out.lt)
  replace HU := Lib.hid (HU.out.below hb HU.out.lt)
  replace HOne := Lib.hid (HOne.out.below hb HOne.out.lt)
  replace HZero := Lib.hid (HZero.out.below hb HZero.out.lt)
  replace HV := Lib.hid (HV.out.below hb HV.out.lt)
  replace HR := Lib.hid (HR.out.below hb HR.out.lt)
  replace HX := Lib.hid (HX.out.below hb HX.out.lt)
  replace HY := Lib.hid (HY.out.below hb HY.out.lt)
  replace HQ := Lib.hid (HQ.out.below hb HQ.out.lt)
  replace HL := Lib.hid (HL.out.below hb HL.out.lt)
  replace HM := Lib.hid (HM.out.below hb HM.out.lt)
  replace HB := Lib.hid (HB.out.trans (hb.mono HB.out.size))
  clear hb
  go_wp2_with (refine wpList_load_if (by rfl) 29 _ rfl bT rfl (by exact HT.out) Tryd.underlying29 rfl IT.out ?_)
  refine (tx2 w48 _ (sl_l HL.out)).mono ?_
  rintro e w49 ⟨rfl, hb⟩
  replace HT := Lib.hid (HT.out.below hb HT.out.lt)
  replace HU := Lib.hid (HU.out.below hb HU.out.lt)
  replace HOne := Lib.hid (HOne.out.below hb HOne.out.lt)
  replace HZero := Lib.hid (HZero.out.below hb HZero.out.lt)
  replace HV := Lib.hid (HV.out.below hb HV.out.lt)
  replace HR := Lib.hid (HR.out.below hb HR.out.lt)
  replace HX := Lib.hid (HX.out.below hb HX.out.lt)
  replace HY := Lib.hid (HY.out.below hb HY.out.lt)
  replace HQ := Lib.hid (HQ.out.below hb HQ.out.lt)
  replace HL := Lib.hid (HL.out.below hb HL.out.lt)
  replace HM := Lib.hid (HM.out.below hb HM.out.lt)
  replace HB := Lib.hid (HB.out.trans (hb.mono HB.out.size))
  clear hb
  go_wp2_with (refine wpList_load_if (by rfl) 29 _ rfl bT rfl (by exact HT.out) Tryd.underlying29 rfl IT.out ?_)
  refine (va0 w49 _ (sl_m HM.out)).mono ?_
  rintro e w50 ⟨rfl, hb⟩
  replace HT := Lib.hid (HT.out.below hb HT.out.lt)
  replace HU := Lib.hid (HU.out.below hb HU.out.lt)
  replace HOne := Lib.hid (HOne.out.below hb HOne.out.lt)
  replace HZero := Lib.hid (HZero.out.below hb HZero.out.lt)
  replace HV := Lib.hid (HV.out.below hb HV.out.lt)
  replace HR := Lib.hid (HR.out.below hb HR.out.lt)
  replace HX := Lib.hid (HX.out.below hb HX.out.lt)
  replace HY := Lib.hid (HY.out.below hb HY.out.lt)
  replace HQ := Lib.hid (HQ.out.below hb HQ.out.lt)
  replace HL := Lib.hid (HL.out.below hb HL.out.lt)
  replace HM := Lib.hid (HM.out.below hb HM.out.lt)
  replace HB := Lib.hid (HB.out.trans (hb.mono HB.out.size))
  clear hb
  go_wp2_with (refine wpList_load_if (by rfl) 29 _ rfl bT rfl (by exact HT.out) Tryd.underlying29 rfl IT.out ?_)
  refine (va1 w50 _ (sl_m HM.out)).mono ?_
  rintro e w51 ⟨rfl, hb⟩
  replace HT := Lib.hid (HT.out.below hb HT.out.lt)
  replace HU := Lib.hid (HU.out.below hb HU.out.lt)
  replace HOne := Lib.hid (HOne.out.below hb HOne.out.lt)
  replace HZero := Lib.hid (HZero.out.below hb HZero.out.lt)
  replace HV := Lib.hid (HV.out.below hb HV.out.lt)
  replace HR := Lib.hid (HR.out.below hb HR.out.lt)
  replace HX := Lib.hid (HX.out.below hb HX.out.lt)
  replace HY := Lib.hid (HY.out.below hb HY.out.lt)
  replace HQ := Lib.hid (HQ.out.below hb HQ.out.lt)
  replace HL := Lib.hid (HL.out.below hb HL.out.lt)
  replace HM := Lib.hid (HM.out.below hb HM.out.lt)
  replace HB := Lib.hid (HB.out.trans (hb.mono HB.out.size))
  clear hb
  go_wp2_with fail
  refine (ends_any w51 (HE.out.at_below HB.out)).mono ?_
  rintro e w52 ⟨rfl, hb⟩
  replace HT := Lib.hid (HT.out.below hb HT.out.lt)
  replace HU := Lib.hid (HU.out.below hb HU.out.lt)
  replace HOne := Lib.hid (HOne.out.below hb HOne.out.lt)
  replace HZero := Lib.hid (HZero.out.below hb HZero.out.lt)
  replace HV := Lib.hid (HV.out.below hb HV.out.lt)
  replace HR := Lib.hid (HR.out.below hb HR.out.lt)
  replace HX := Lib.hid (HX.out.below hb HX.out.lt)
  replace HY := Lib.hid (HY.out.below hb HY.out.lt)
  replace HQ := Lib.hid (HQ.out.below hb HQ.out.lt)
  replace HL := Lib.hid (HL.out.below hb HL.out.lt)
  replace HM := Lib.hid (HM.out.below hb HM.out.lt)
  replace HB := Lib.hid (HB.out.trans (hb.mono HB.out.size))
  clear hb
  go_wp2
  go_ret
  exact ⟨rfl, HB.out⟩
end physK
end Go.Proofs.YtllbpanfhlbbgaaDoor
