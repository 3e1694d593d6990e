/- What busbarlaw11.PhysKnown asks besides; the walk of ends. Condition: errors.errorType is laid. -/
import Derived.Test.YtllbpanfhlbbgaaDoorPhysKf
import Derived.Test.YtllbpanfhlbbgaaDoorPhysH
import Derived.Test.YtllbpanfhlbbgaaDoorPhysX
import Derived.Test.YtllbpanfhlbbgaaDoorSlNew
import Derived.Deep.DeepCutAuto
namespace Go.Proofs.YtllbpanfhlbbgaaDoor
open Go.RowKit Go.Bus Go.Rt Go.Bus.dbK Go.Bus.rawK Go.Bus.cellK
set_option linter.unusedVariables false
set_option linter.unusedSimpArgs false
namespace physK
open ratW physW asK
def z19 : Array Value := #[.int .i64 0, .int .i64 0, .string ⟨#[]⟩, .int .i64 0, .int .u64 0, .int .i64 0, .int .i64 0, .bool false, .bool false, .int .i64 0, .int .i64 0, .int .i64 0, .int .i64 0, .int .i64 0, .int .i64 0, .int .i64 0, .int .i64 0, .string ⟨#[]⟩, .slice none 0 0]
def aQ5 : Sig := { aV with mn := 5, md := 1 }
theorem build_v (W : World) : (Instr.build 29 #[(5, .int .i64 64), (8, .agg #[.int .i64 1, .int .i64 1]), (9, .agg #[.int .i64 0, .int .i64 1]), (10, .agg #[.int .i64 0, .int .i64 1]), (11, .agg #[.int .i64 0, .int .i64 1])]).run Tryd.prog W = .ok (.agg (csOf aV (.slice none 0 0))) W := by kernel_rfl
theorem build_b (W : World) : (Instr.build 29 #[(5, .int .i64 64), (7, .bool true), (8, .agg #[.int .i64 1, .int .i64 1]), (9, .agg #[.int .i64 0, .int .i64 1]), (10, .agg #[.int .i64 0, .int .i64 1]), (11, .agg #[.int .i64 0, .int .i64 1])]).run Tryd.prog W = .ok (.agg (csOf bT (.slice none 0 0))) W := by kernel_rfl
def rowsL : List RowD := [⟨0, ⟨#[111, 102, 102]⟩⟩, ⟨1, ⟨#[111, 110]⟩⟩, ⟨0, ⟨#[110, 111]⟩⟩]
def rowsM : List RowD := [⟨300, ⟨#[111, 110]⟩⟩, ⟨1, ⟨#[111, 110]⟩⟩]
theorem rowsL_ok : ∀ r ∈ rowsL, RowOk r := by intro r hr; simp only [rowsL, List.mem_cons, List.not_mem_nil, or_false] at hr; rcases hr with rfl | rfl | rfl <;> exact ⟨by decide, by decide⟩
theorem rowsM_ok : ∀ r ∈ rowsM, RowOk r := by intro r hr; simp only [rowsM, List.mem_cons, List.not_mem_nil, or_false] at hr; rcases hr with rfl | rfl <;> exact ⟨by decide, by decide⟩
theorem sl_l {W : World} {g : Nat} (h : Has W g 51 #[.int .i64 0, .string ⟨#[111, 102, 102]⟩, .int .i64 1, .string ⟨#[111, 110]⟩, .int .i64 0, .string ⟨#[110, 111]⟩]) : SlK 2 rowE W (Old W.heap.size) (.slice (some ⟨g, 0, none⟩) 3 3) rowsL := by
  refine SlK.whole (l := rowsL) (cs := rowsL.flatMap rowCells) (by exact h) rfl h.lt (by decide) (fun i x hi => ?_)
  match i, hi with
  | 0, hi => simp [rowsL] at hi; subst hi; rfl
  | 1, hi => simp [rowsL] at hi; subst hi; rfl
  | 2, hi => simp [rowsL] at hi; subst hi; rfl
  | k + 3, hi => simp [rowsL] at hi
theorem sl_m {W : World} {g : Nat} (h : Has W g 51 #[.int .i64 300, .string ⟨#[111, 110]⟩, .int .i64 1, .string ⟨#[111, 110]⟩]) : SlK 2 rowE W (Old W.heap.size) (.slice (some ⟨g, 0, none⟩) 2 2) rowsM := by
  refine SlK.whole (l := rowsM) (cs := rowsM.flatMap rowCells) (by exact h) rfl h.lt (by decide) (fun i x hi => ?_)
  match i, hi with
  | 0, hi => simp [rowsM] at hi; subst hi; rfl
  | 1, hi => simp [rowsM] at hi; subst hi; rfl
  | k + 2, hi => simp [rowsM] at hi
theorem tx0 (W : World) (L : Value) (h : SlK 2 rowE W (Old W.heap.size) L rowsL) : Cl1 18 #[L, .agg (csOf aT (.slice none 0 0)), .int .u64 0] (.tuple #[.string ⟨#[111, 102, 102]⟩, .bool true]) W := by
  have := text_val rowsL L aT none 0 0 0 W (by decide) (by decide) h rowsL_ok
  rw [show textV rowsL aT 0 = .tuple #[.string ⟨#[111, 102, 102]⟩, .bool true] from by kernel_rfl] at this
  exact this
theorem tx1 (W : World) (L : Value) (h : SlK 2 rowE W (Old W.heap.size) L rowsL) : Cl1 18 #[L, .agg (csOf aT (.slice none 0 0)), .int .u64 1] (.tuple #[.string ⟨#[111, 110]⟩, .bool true]) W := by
  have := text_val rowsL L aT none 0 0 1 W (by decide) (by decide) h rowsL_ok
  rw [show textV rowsL aT 1 = .tuple #[.string ⟨#[111, 110]⟩, .bool true] from by kernel_rfl] at this
  exact this
theorem tx2 (W : World) (L : Value) (h : SlK 2 rowE W (Old W.heap.size) L rowsL) : Cl1 18 #[L, .agg (csOf aT (.slice none 0 0)), .int .u64 2] (.tuple #[.string ⟨#[]⟩, .bool false]) W := by
  have := text_val rowsL L aT none 0 0 2 W (by decide) (by decide) h rowsL_ok
  rw [show textV rowsL aT 2 = .tuple #[.string ⟨#[]⟩, .bool false] from by kernel_rfl] at this
  exact this
theorem va0 (W : World) (L : Value) (h : SlK 2 rowE W (Old W.heap.size) L rowsM) : Cl1 19 #[L, .agg (csOf aT (.slice none 0 0)), .string ⟨#[111, 110]⟩] (.tuple #[.int .u64 1, .bool true]) W := by
  have := val_val rowsM L aT none 0 0 ⟨#[111, 110]⟩ W h rowsM_ok
  rw [show valV rowsM aT ⟨#[111, 110]⟩ = .tuple #[.int .u64 1, .bool true] from by kernel_rfl] at this
  exact this
theorem va1 (W : World) (L : Value) (h : SlK 2 rowE W (Old W.heap.size) L rowsM) : Cl1 19 #[L, .agg (csOf aT (.slice none 0 0)), .string ⟨#[110, 111]⟩] (.tuple #[.int .u64 0, .bool false]) W := by
  have := val_val rowsM L aT none 0 0 ⟨#[110, 111]⟩ W h rowsM_ok
  rw [show valV rowsM aT ⟨#[110, 111]⟩ = .tuple #[.int .u64 0, .bool false] from by kernel_rfl] at this
  exact this
theorem half_f (W : World) : Cl1 13 #[.bool false] (.agg (csOf aT (.slice none 0 0))) W := by have := half_val false W; rw [sigV_cs] at this; exact this
theorem half_t (W : World) : Cl1 13 #[.bool true] (.agg (csOf aU (.slice none 0 0))) W := by have := half_val true W; rw [sigV_cs] at this; exact this
set_option maxRecDepth 100000 in
set_option maxHeartbeats 8000000 in
theorem ends_any (w : World) (hE : ErrT w) : Cl1 20 #[] (.bool true) w := by
  have HB : Hid (Below w.heap.size w w) := Lib.hid (Below.refl _ _)
  have HE : Hid (ErrT w) := Lib.hid hE
  clear hE
  have IT := cs_info bT (.slice none 0 0)
  have ZT : Hid ((#[.int .i64 0, .int .i64 0, .string ⟨#[]⟩, .int .i64 0, .int .u64 0, .int .i64 0, .int .i64 0, .bool false, .bool false, .int .i64 0, .int .i64 0, .int .i64 0, .int .i64 0, .int .i64 0, .int .i64 0, .int .i64 0, .int .i64 0, .string ⟨#[]⟩, .slice none 0 0] : Array Value).size = (csOf bT (.slice none 0 0)).size) := Lib.hid rfl
  have OT := cs_one bT none 0 0
  have IX := cs_info bX (.slice none 0 0)
  have ZX : Hid ((#[.int .i64 0, .int .i64 0, .string ⟨#[]⟩, .int .i64 0, .int .u64 0, .int .i64 0, .int .i64 0, .bool false, .bool false, .int .i64 0, .int .i64 0, .int .i64 0, .int .i64 0, .int .i64 0, .int .i64 0, .int .i64 0, .int .i64 0, .string ⟨#[]⟩, .slice none 0 0] : Array Value).size = (csOf bX (.slice none 0 0)).size) := Lib.hid rfl
  have OX := cs_one bX none 0 0
  have IY := cs_info bY (.slice none 0 0)
  have ZY : Hid ((#[.int .i64 0, .int .i64 0, .string ⟨#[]⟩, .int .i64 0, .int .u64 0, .int .i64 0, .int .i64 0, .bool false, .bool false, .int .i64 0, .int .i64 0, .int .i64 0, .int .i64 0, .int .i64 0, .int .i64 0, .int .i64 0, .int .i64 0, .string ⟨#[]⟩, .slice none 0 0] : Array Value).size = (csOf bY (.slice none 0 0)).size) := Lib.hid rfl
  have OY := cs_one bY none 0 0
  have IV := cs_info bV (.slice none 0 0)
  have ZV : Hid ((#[.int .i64 0, .int .i64 0, .string ⟨#[]⟩, .int .i64 0, .int .u64 0, .int .i64 0, .int .i64 0, .bool false, .bool false, .int .i64 0, .int .i64 0, .int .i64 0, .int .i64 0, .int .i64 0, .int .i64 0, .int .i64 0, .int .i64 0, .string ⟨#[]⟩, .slice none 0 0] : Array Value).size = (csOf bV (.slice none 0 0)).size) := Lib.hid rfl
  have OV := cs_one bV none 0 0
  have IH := cs_info bH (.slice none 0 0)
  have ZH : Hid ((#[.int .i64 0, .int .i64 0, .string ⟨#[]⟩, .int .i64 0, .int .u64 0, .int .i64 0, .int .i64 0, .bool false, .bool false, .int .i64 0, .int .i64 0, .int .i64 0, .int .i64 0, .int .i64 0, .int .i64 0, .int .i64 0, .int .i64 0, .string ⟨#[]⟩, .slice none 0 0] : Array Value).size = (csOf bH (.slice none 0 0)).size) := Lib.hid rfl
  have OH := cs_one bH none 0 0
  go_enter Tryd.func20, Tryd.ntmps20
  go_upto_region 2 with fail
  have HZero : Hid (Has (w.alloc (Obj.cells #[.int .i64 0, .int .i64 1] 26)) w.heap.size 26 #[.int .i64 0, .int .i64 1]) := Lib.hid (Has.new w _ _)
  have HB0 := Lib.hid HB.out
  replace HB : Hid (Below w.heap.size w (w.alloc (Obj.cells #[.int .i64 0, .int .i64 1] 26))) := Lib.hid (HB.out.alloc HB.out.size _)
  obtain ⟨qZero, hqZero⟩ : ∃ b, b = w.heap.size := ⟨_, rfl⟩
  have lZero : Hid (w.heap.size ≤ qZero) := Lib.hid (by rw [hqZero]; exact HB0.out.size)
  rw [← hqZero] at HZero ⊢
  clear hqZero HB0
  generalize w.alloc (Obj.cells #[.int .i64 0, .int .i64 1] 26) = w1 at *
  have y0 : w1.cell? ⟨qZero, 0, none⟩ = some (.int .i64 0) := HZero.out.cell 0
  have y1 : w1.cell? ⟨qZero, 1, none⟩ = some (.int .i64 1) := HZero.out.cell 1
  go_upto_region 3 with (first | simp only [build_b] | (refine wpList_store_last rfl 29 _ _ rfl 29 _ rfl rfl IT.out ZT.out OT.out ?_))
  clear y0 y1
  have HT : Hid (Has (w1.alloc (Obj.cells (csOf bT (.slice none 0 0)) 29)) w1.heap.size 29 (csOf bT (.slice none 0 0))) := Lib.hid (Has.new w1 _ _)
  have LZero := Lib.hid HZero.out.lt
  have HB0 := Lib.hid HB.out
  replace HZero := Lib.hid (HZero.out.alloc (Obj.cells (csOf bT (.slice none 0 0)) 29))
  replace HB : Hid (Below w.heap.size w (w1.alloc (Obj.cells (csOf bT (.slice none 0 0)) 29))) := Lib.hid (HB.out.alloc HB.out.size _)
  obtain ⟨qT, hqT⟩ : ∃ b, b = w1.heap.size := ⟨_, rfl⟩
  have lT : Hid (w.heap.size ≤ qT) := Lib.hid (by rw [hqT]; exact HB0.out.size)
  have nZeroT : Hid (qZero ≠ qT) := Lib.hid (by rw [hqT]; exact Nat.ne_of_lt LZero.out)
  rw [← hqT] at HT ⊢
  clear hqT HB0 LZero
  generalize w1.alloc (Obj.cells (csOf bT (.slice none 0 0)) 29) = w2 at *
  go_upto_region 4 with (first | (refine wpList_load_if (by rfl) 29 _ rfl qT rfl (by exact HT.out) Tryd.underlying29 rfl IT.out ?_) | (refine wpList_store_last rfl 29 _ _ rfl 29 _ rfl rfl IT.out ZT.out OT.out ?_))
  have HX : Hid (Has (w2.alloc (Obj.cells (csOf bT (.slice none 0 0)) 29)) w2.heap.size 29 (csOf bT (.slice none 0 0))) := Lib.hid (Has.new w2 _ _)
  have LZero := Lib.hid HZero.out.lt
  have LT := Lib.hid HT.out.lt
  have HB0 := Lib.hid HB.out
  replace HZero := Lib.hid (HZero.out.alloc (Obj.cells (csOf bT (.slice none 0 0)) 29))
  replace HT := Lib.hid (HT.out.alloc (Obj.cells (csOf bT (.slice none 0 0)) 29))
  replace HB : Hid (Below w.heap.size w (w2.alloc (Obj.cells (csOf bT (.slice none 0 0)) 29))) := Lib.hid (HB.out.alloc HB.out.size _)
  obtain ⟨qX, hqX⟩ : ∃ b, b = w2.heap.size := ⟨_, rfl⟩
  have lX : Hid (w.heap.size ≤ qX) := Lib.hid (by rw [hqX]; exact HB0.out.size)
  have nZeroX : Hid (qZero ≠ qX) := Lib.hid (by rw [hqX]; exact Nat.ne_of_lt LZero.out)
  have nTX : Hid (qT ≠ qX) := Lib.hid (by rw [hqX]; exact Nat.ne_of_lt LT.out)
  rw [← hqX] at HX ⊢
  clear hqX HB0 LZero LT
  generalize w2.alloc (Obj.cells (csOf bT (.slice none 0 0)) 29) = w3 at *
  have f0 : w3.cell? ⟨qX, 9, none⟩ = some (.int .i64 (1)) := HX.out.cell 9
  have f1 : w3.cell? ⟨qX, 10, none⟩ = some (.int .i64 (1)) := HX.out.cell 10
  have f2 := HX.out.frozen 9
  have f3 := HX.out.frozen 10
  have f4 := HX.out.lt
  go_upto_region 5 with fail
  clear f0 f1 f2 f3 f4
  replace HX : Hid (Has ((w3.setCell ⟨qX, 9, none⟩ (.int .i64 (2))).setCell ⟨qX, 10, none⟩ (.int .i64 (1))) qX 29 (csOf bX (.slice none 0 0))) := Lib.hid (by exact (HX.out.set 9 _).set 10 _)
  replace HZero : Hid (Has ((w3.setCell ⟨qX, 9, none⟩ (.int .i64 (2))).setCell ⟨qX, 10, none⟩ (.int .i64 (1))) qZero 26 #[.int .i64 0, .int .i64 1]) := Lib.hid ((HZero.out.far nZeroX.out _).far nZeroX.out _)
  replace HT : Hid (Has ((w3.setCell ⟨qX, 9, none⟩ (.int .i64 (2))).setCell ⟨qX, 10, none⟩ (.int .i64 (1))) qT 29 (csOf bT (.slice none 0 0))) := Lib.hid ((HT.out.far nTX.out _).far nTX.out _)
  replace HB : Hid (Below w.heap.size w ((w3.setCell ⟨qX, 9, none⟩ (.int .i64 (2))).setCell ⟨qX, 10, none⟩ (.int .i64 (1)))) := Lib.hid ((HB.out.setCell lX.out _).setCell lX.out _)
  generalize ((w3.setCell ⟨qX, 9, none⟩ (.int .i64 (2))).setCell ⟨qX, 10, none⟩ (.int .i64 (1))) = w4 at *
  go_upto_region 6 with (first | (refine wpList_load_if (by rfl) 29 _ rfl qT rfl (by exact HT.out) Tryd.underlying29 rfl IT.out ?_) | (refine wpList_store_last rfl 29 _ _ rfl 29 _ rfl rfl IT.out ZT.out OT.out ?_))
  have HY : Hid (Has (w4.alloc (Obj.cells (csOf bT (.slice none 0 0)) 29)) w4.heap.size 29 (csOf bT (.slice none 0 0))) := Lib.hid (Has.new w4 _ _)
  have LZero := Lib.hid HZero.out.lt
  have LT := Lib.hid HT.out.lt
  have LX := Lib.hid HX.out.lt
  have HB0 := Lib.hid HB.out
  replace HZero := Lib.hid (HZero.out.alloc (Obj.cells (csOf bT (.slice none 0 0)) 29))
  replace HT := Lib.hid (HT.out.alloc (Obj.cells (csOf bT (.slice none 0 0)) 29))
  replace HX := Lib.hid (HX.out.alloc (Obj.cells (csOf bT (.slice none 0 0)) 29))
  replace HB : Hid (Below w.heap.size w (w4.alloc (Obj.cells (csOf bT (.slice none 0 0)) 29))) := Lib.hid (HB.out.alloc HB.out.size _)
  obtain ⟨qY, hqY⟩ : ∃ b, b = w4.heap.size := ⟨_, rfl⟩
  have lY : Hid (w.heap.size ≤ qY) := Lib.hid (by rw [hqY]; exact HB0.out.size)
  have nZeroY : Hid (qZero ≠ qY) := Lib.hid (by rw [hqY]; exact Nat.ne_of_lt LZero.out)
  have nTY : Hid (qT ≠ qY) := Lib.hid (by rw [hqY]; exact Nat.ne_of_lt LT.out)
  have nXY : Hid (qX ≠ qY) := Lib.hid (by rw [hqY]; exact Nat.ne_of_lt LX.out)
  rw [← hqY] at HY ⊢
  clear hqY HB0 LZero LT LX
  generalize w4.alloc (Obj.cells (csOf bT (.slice none 0 0)) 29) = w5 at *
  have f0 : w5.cell? ⟨qY, 11, none⟩ = some (.int .i64 (0)) := HY.out.cell 11
  have f1 : w5.cell? ⟨qY, 12, none⟩ = some (.int .i64 (1)) := HY.out.cell 12
  have f2 := HY.out.frozen 11
  have f3 := HY.out.frozen 12
  have f4 := HY.out.lt
  go_upto_region 7 with fail
  clear f0 f1 f2 f3 f4
  replace HY : Hid (Has ((w5.setCell ⟨qY, 11, none⟩ (.int .i64 (1))).setCell ⟨qY, 12, none⟩ (.int .i64 (1))) qY 29 (csOf bY (.slice none 0 0))) := Lib.hid (by exact (HY.out.set 11 _).set 12 _)
  replace HZero : Hid (Has ((w5.setCell ⟨qY, 11, none⟩ (.int .i64 (1))).setCell ⟨qY, 12, none⟩ (.int .i64 (1))) qZero 26 #[.int .i64 0, .int .i64 1]) := Lib.hid ((HZero.out.far nZeroY.out _).far nZeroY.out _)
  replace HT : Hid (Has ((w5.setCell ⟨qY, 11, none⟩ (.int .i64 (1))).setCell ⟨qY, 12, none⟩ (.int .i64 (1))) qT 29 (csOf bT (.slice none 0 0))) := Lib.hid ((HT.out.far nTY.out _).far nTY.out _)
  replace HX : Hid (Has ((w5.setCell ⟨qY, 11, none⟩ (.int .i64 (1))).setCell ⟨qY, 12, none⟩ (.int .i64 (1))) qX 29 (csOf bX (.slice none 0 0))) := Lib.hid ((HX.out.far nXY.out _).far nXY.out _)
  replace HB : Hid (Below w.heap.size w ((w5.setCell ⟨qY, 11, none⟩ (.int .i64 (1))).setCell ⟨qY, 12, none⟩ (.int .i64 (1)))) := Lib.hid ((HB.out.setCell lY.out _).setCell lY.out _)
  generalize ((w5.setCell ⟨qY, 11, none⟩ (.int .i64 (1))).setCell ⟨qY, 12, none⟩ (.int .i64 (1))) = w6 at *
  go_upto_region 8 with (first | (refine wpList_load_if (by rfl) 29 _ rfl qT rfl (by exact HT.out) Tryd.underlying29 rfl IT.out ?_) | (refine wpList_store_last rfl 29 _ _ rfl 29 _ rfl rfl IT.out ZT.out OT.out ?_))
  have HV : Hid (Has (w6.alloc (Obj.cells (csOf bT (.slice none 0 0)) 29)) w6.heap.size 29 (csOf bT (.slice none 0 0))) := Lib.hid (Has.new w6 _ _)
  have LZero := Lib.hid HZero.out.lt
  have LT := Lib.hid HT.out.lt
  have LX := Lib.hid HX.out.lt
  have LY := Lib.hid HY.out.lt
  have HB0 := Lib.hid HB.out
  replace HZero := Lib.hid (HZero.out.alloc (Obj.cells (csOf bT (.slice none 0 0)) 29))
  replace HT := Lib.hid (HT.out.alloc (Obj.cells (csOf bT (.slice none 0 0)) 29))
  replace HX := Lib.hid (HX.out.alloc (Obj.cells (csOf bT (.slice none 0 0)) 29))
  replace HY := Lib.hid (HY.out.alloc (Obj.cells (csOf bT (.slice none 0 0)) 29))
  replace HB : Hid (Below w.heap.size w (w6.alloc (Obj.cells (csOf bT (.slice none 0 0)) 29))) := Lib.hid (HB.out.alloc HB.out.size _)
  obtain ⟨qV, hqV⟩ : ∃ b, b = w6.heap.size := ⟨_, rfl⟩
  have lV : Hid (w.heap.size ≤ qV) := Lib.hid (by rw [hqV]; exact HB0.out.size)
  have nZeroV : Hid (qZero ≠ qV) := Lib.hid (by rw [hqV]; exact Nat.ne_of_lt LZero.out)
  have nTV : Hid (qT ≠ qV) := Lib.hid (by rw [hqV]; exact Nat.ne_of_lt LT.out)
  have nXV : Hid (qX ≠ qV) := Lib.hid (by rw [hqV]; exact Nat.ne_of_lt LX.out)
  have nYV : Hid (qY ≠ qV) := Lib.hid (by rw [hqV]; exact Nat.ne_of_lt LY.out)
  rw [← hqV] at HV ⊢
  clear hqV HB0 LZero LT LX LY
  generalize w6.alloc (Obj.cells (csOf bT (.slice none 0 0)) 29) = w7 at *
  have f0 : w7.cell? ⟨qV, 9, none⟩ = some (.int .i64 (1)) := HV.out.cell 9
  have f1 : w7.cell? ⟨qV, 10, none⟩ = some (.int .i64 (1)) := HV.out.cell 10
  have f2 := HV.out.frozen 9
  have f3 := HV.out.frozen 10
  have f4 := HV.out.lt
  go_upto_region 9 with fail
  clear f0 f1 f2 f3 f4
  replace HV : Hid (Has ((w7.setCell ⟨qV, 9, none⟩ (.int .i64 (-1))).setCell ⟨qV, 10, none⟩ (.int .i64 (1))) qV 29 (csOf bV (.slice none 0 0))) := Lib.hid (by exact (HV.out.set 9 _).set 10 _)
  replace HZero : Hid (Has ((w7.setCell ⟨qV, 9, none⟩ (.int .i64 (-1))).setCell ⟨qV, 10, none⟩ (.int .i64 (1))) qZero 26 #[.int .i64 0, .int .i64 1]) := Lib.hid ((HZero.out.far nZeroV.out _).far nZeroV.out _)
  replace HT : Hid (Has ((w7.setCell ⟨qV, 9, none⟩ (.int .i64 (-1))).setCell ⟨qV, 10, none⟩ (.int .i64 (1))) qT 29 (csOf bT (.slice none 0 0))) := Lib.hid ((HT.out.far nTV.out _).far nTV.out _)
  replace HX : Hid (Has ((w7.setCell ⟨qV, 9, none⟩ (.int .i64 (-1))).setCell ⟨qV, 10, none⟩ (.int .i64 (1))) qX 29 (csOf bX (.slice none 0 0))) := Lib.hid ((HX.out.far nXV.out _).far nXV.out _)
  replace HY : Hid (Has ((w7.setCell ⟨qV, 9, none⟩ (.int .i64 (-1))).setCell ⟨qV, 10, none⟩ (.int .i64 (1))) qY 29 (csOf bY (.slice none 0 0))) := Lib.hid ((HY.out.far nYV.out _).far nYV.out _)
  replace HB : Hid (Below w.heap.size w ((w7.setCell ⟨qV, 9, none⟩ (.int .i64 (-1))).setCell ⟨qV, 10, none⟩ (.int .i64 (1)))) := Lib.hid ((HB.out.setCell lV.out _).setCell lV.out _)
  generalize ((w7.setCell ⟨qV, 9, none⟩ (.int .i64 (-1))).setCell ⟨qV, 10, none⟩ (.int .i64 (1))) = w8 at *
  go_upto_region 10 with (first | (refine wpList_load_if (by rfl) 29 _ rfl qT rfl (by exact HT.out) Tryd.underlying29 rfl IT.out ?_) | (refine wpList_store_last rfl 29 _ _ rfl 29 _ rfl rfl IT.out ZT.out OT.out ?_))
  have HH : Hid (Has (w8.alloc (Obj.cells (csOf bT (.slice none 0 0)) 29)) w8.heap.size 29 (csOf bT (.slice none 0 0))) := Lib.hid (Has.new w8 _ _)
  have LZero := Lib.hid HZero.out.lt
  have LT := Lib.hid HT.out.lt
  have LX := Lib.hid HX.out.lt
  have LY := Lib.hid HY.out.lt
  have LV := Lib.hid HV.out.lt
  have HB0 := Lib.hid HB.out
  replace HZero := Lib.hid (HZero.out.alloc (Obj.cells (csOf bT (.slice none 0 0)) 29))
  replace HT := Lib.hid (HT.out.alloc (Obj.cells (csOf bT (.slice none 0 0)) 29))
  replace HX := Lib.hid (HX.out.alloc (Obj.cells (csOf bT (.slice none 0 0)) 29))
  replace HY := Lib.hid (HY.out.alloc (Obj.cells (csOf bT (.slice none 0 0)) 29))
  replace HV := Lib.hid (HV.out.alloc (Obj.cells (csOf bT (.slice none 0 0)) 29))
  replace HB : Hid (Below w.heap.size w (w8.alloc (Obj.cells (csOf bT (.slice none 0 0)) 29))) := Lib.hid (HB.out.alloc HB.out.size _)
  obtain ⟨qH, hqH⟩ : ∃ b, b = w8.heap.size := ⟨_, rfl⟩
  have lH : Hid (w.heap.size ≤ qH) := Lib.hid (by rw [hqH]; exact HB0.out.size)
  have nZeroH : Hid (qZero ≠ qH) := Lib.hid (by rw [hqH]; exact Nat.ne_of_lt LZero.out)
  have nTH : Hid (qT ≠ qH) := Lib.hid (by rw [hqH]; exact Nat.ne_of_lt LT.out)
  have nXH : Hid (qX ≠ qH) := Lib.hid (by rw [hqH]; exact Nat.ne_of_lt LX.out)
  have nYH : Hid (qY ≠ qH) := Lib.hid (by rw [hqH]; exact Nat.ne_of_lt LY.out)
  have nVH : Hid (qV ≠ qH) := Lib.hid (by rw [hqH]; exact Nat.ne_of_lt LV.out)
  rw [← hqH] at HH ⊢
  clear hqH HB0 LZero LT LX LY LV
  generalize w8.alloc (Obj.cells (csOf bT (.slice none 0 0)) 29) = w9 at *
  have f0 : w9.cell? ⟨qH, 9, none⟩ = some (.int .i64 (1)) := HH.out.cell 9
  have f1 : w9.cell? ⟨qH, 10, none⟩ = some (.int .i64 (1)) := HH.out.cell 10
  have f2 := HH.out.frozen 9
  have f3 := HH.out.frozen 10
  have f4 := HH.out.lt
  go_upto_region 11 with fail
  clear f0 f1 f2 f3 f4
  replace HH : Hid (Has ((w9.setCell ⟨qH, 9, none⟩ (.int .i64 (1))).setCell ⟨qH, 10, none⟩ (.int .i64 (9223372036854775807))) qH 29 (csOf bH (.slice none 0 0))) := Lib.hid (by exact (HH.out.set 9 _).set 10 _)
  replace HZero : Hid (Has ((w9.setCell ⟨qH, 9, none⟩ (.int .i64 (1))).setCell ⟨qH, 10, none⟩ (.int .i64 (9223372036854775807))) qZero 26 #[.int .i64 0, .int .i64 1]) := Lib.hid ((HZero.out.far nZeroH.out _).far nZeroH.out _)
  replace HT : Hid (Has ((w9.setCell ⟨qH, 9, none⟩ (.int .i64 (1))).setCell ⟨qH, 10, none⟩ (.int .i64 (9223372036854775807))) qT 29 (csOf bT (.slice none 0 0))) := Lib.hid ((HT.out.far nTH.out _).far nTH.out _)
  replace HX : Hid (Has ((w9.setCell ⟨qH, 9, none⟩ (.int .i64 (1))).setCell ⟨qH, 10, none⟩ (.int .i64 (9223372036854775807))) qX 29 (csOf bX (.slice none 0 0))) := Lib.hid ((HX.out.far nXH.out _).far nXH.out _)
  replace HY : Hid (Has ((w9.setCell ⟨qH, 9, none⟩ (.int .i64 (1))).setCell ⟨qH, 10, none⟩ (.int .i64 (9223372036854775807))) qY 29 (csOf bY (.slice none 0 0))) := Lib.hid ((HY.out.far nYH.out _).far nYH.out _)
  replace HV : Hid (Has ((w9.setCell ⟨qH, 9, none⟩ (.int .i64 (1))).setCell ⟨qH, 10, none⟩ (.int .i64 (9223372036854775807))) qV 29 (csOf bV (.slice none 0 0))) := Lib.hid ((HV.out.far nVH.out _).far nVH.out _)
  replace HB : Hid (Below w.heap.size w ((w9.setCell ⟨qH, 9, none⟩ (.int .i64 (1))).setCell ⟨qH, 10, none⟩ (.int .i64 (9223372036854775807)))) := Lib.hid ((HB.out.setCell lH.out _).setCell lH.out _)
  generalize ((w9.setCell ⟨qH, 9, none⟩ (.int .i64 (1))).setCell ⟨qH, 10, none⟩ (.int .i64 (9223372036854775807))) = w10 at *
  go_wp2_with (refine wpList_load_if (by rfl) 29 _ rfl qT rfl (by exact HT.out) Tryd.underlying29 rfl IT.out ?_)
  refine (bk0 w10 (HE.out.at_below HB.out)).mono ?_
  rintro e w11 ⟨rfl, hb⟩
  replace HZero := Lib.hid (HZero.out.below hb HZero.out.lt)
  replace HT := Lib.hid (HT.out.below hb HT.out.lt)
  replace HX := Lib.hid (HX.out.below hb HX.out.lt)
  replace HY := Lib.hid (HY.out.below hb HY.out.lt)
  replace HV := Lib.hid (HV.out.below hb HV.out.lt)
  replace HH := Lib.hid (HH.out.below hb HH.out.lt)
  replace HB := Lib.hid (HB.out.trans (hb.mono HB.out.size))
  clear hb
  go_wp2_with (refine wpList_load_if (by rfl) 29 _ rfl qT rfl (by exact HT.out) Tryd.underlying29 rfl IT.out ?_)
  refine (bk1 w11 (HE.out.at_below HB.out)).mono ?_
  rintro e w12 ⟨rfl, hb⟩
  replace HZero := Lib.hid (HZero.out.below hb HZero.out.lt)
  replace HT := Lib.hid (HT.out.below hb HT.out.lt)
  replace HX := Lib.hid (HX.out.below hb HX.out.lt)
  replace HY := Lib.hid (HY.out.below hb HY.out.lt)
  replace HV := Lib.hid (HV.out.below hb HV.out.lt)
  replace HH := Lib.hid (HH.out.below hb HH.out.lt)
  replace HB := Lib.hid (HB.out.trans (hb.mono HB.out.size))
  clear hb
  go_wp2_with (refine wpList_load_if (by rfl) 29 _ rfl qX rfl (by exact HX.out) Tryd.underlying29 rfl IX.out ?_)
  refine (bk2 w12 (HE.out.at_below HB.out)).mono ?_
  rintro e w13 ⟨rfl, hb⟩
  replace HZero := Lib.hid (HZero.out.below hb HZero.out.lt)
  replace HT := Lib.hid (HT.out.below hb HT.out.lt)
  replace HX := Lib.hid (HX.out.below hb HX.out.lt)
  replace HY := Lib.hid (HY.out.below hb HY.out.lt)
  replace HV := Lib.hid (HV.out.below hb HV.out.lt)
  replace HH := Lib.hid (HH.out.below hb HH.out.lt)
  replace HB := Lib.hid (HB.out.trans (hb.mono HB.out.size))
  clear hb
  go_wp2_with (refine wpList_load_if (by rfl) 29 _ rfl qX rfl (by exact HX.out) Tryd.underlying29 rfl IX.out ?_)
  refine (bk3 w13 (HE.out.at_below HB.out)).mono ?_
  rintro e w14 ⟨rfl, hb⟩
  replace HZero := Lib.hid (HZero.out.below hb HZero.out.lt)
  replace HT := Lib.hid (HT.out.below hb HT.out.lt)
  replace HX := Lib.hid (HX.out.below hb HX.out.lt)
  replace HY := Lib.hid (HY.out.below hb HY.out.lt)
  replace HV := Lib.hid (HV.out.below hb HV.out.lt)
  replace HH := Lib.hid (HH.out.below hb HH.out.lt)
  replace HB := Lib.hid (HB.out.trans (hb.mono HB.out.size))
  clear hb
  go_wp2_with (refine wpList_load_if (by rfl) 29 _ rfl qY rfl (by exact HY.out) Tryd.underlying29 rfl IY.out ?_)
  refine (bk4 w14 (HE.out.at_below HB.out)).mono ?_
  rintro e w15 ⟨rfl, hb⟩
  replace HZero := Lib.hid (HZero.out.below hb HZero.out.lt)
  replace HT := Lib.hid (HT.out.below hb HT.out.lt)
  replace HX := Lib.hid (HX.out.below hb HX.out.lt)
  replace HY := Lib.hid (HY.out.below hb HY.out.lt)
  replace HV := Lib.hid (HV.out.below hb HV.out.lt)
  replace HH := Lib.hid (HH.out.below hb HH.out.lt)
  replace HB := Lib.hid (HB.out.trans (hb.mono HB.out.size))
  clear hb
  go_wp2_with (refine wpList_load_if (by rfl) 29 _ rfl qV rfl (by exact HV.out) Tryd.underlying29 rfl IV.out ?_)
  refine (bk5 w15 (HE.out.at_below HB.out)).mono ?_
  rintro e w16 ⟨rfl, hb⟩
  replace HZero := Lib.hid (HZero.out.below hb HZero.out.lt)
  replace HT := Lib.hid (HT.out.below hb HT.out.lt)
  replace HX := Lib.hid (HX.out.below hb HX.out.lt)
  replace HY := Lib.hid (HY.out.below hb HY.out.lt)
  replace HV := Lib.hid (HV.out.below hb HV.out.lt)
  replace HH := Lib.hid (HH.out.below hb HH.out.lt)
  replace HB := Lib.hid (HB.out.trans (hb.mono HB.out.size))
  clear hb
  go_wp2_with (refine wpList_load_if (by rfl) 29 _ rfl qV rfl (by exact HV.out) Tryd.underlying29 rfl IV.out ?_)
  refine (bk6 w16 (HE.out.at_below HB.out)).mono ?_
  rintro e w17 ⟨rfl, hb⟩
  replace HZero := Lib.hid (HZero.out.below hb HZero.out.lt)
  replace HT := Lib.hid (HT.out.below hb HT.out.lt)
  replace HX := Lib.hid (HX.out.below hb HX.out.lt)
  replace HY := Lib.hid (HY.out.below hb HY.out.lt)
  replace HV := Lib.hid (HV.out.below hb HV.out.lt)
  replace HH := Lib.hid (HH.out.below hb HH.out.lt)
  replace HB := Lib.hid (HB.out.trans (hb.mono HB.out.size))
  clear hb
  go_wp2_with (refine wpList_load_if (by rfl) 29 _ rfl qY rfl (by exact HY.out) Tryd.underlying29 rfl IY.out ?_)
  refine (bk7 w17 (HE.out.at_below HB.out)).mono ?_
  rintro e w18 ⟨rfl, hb⟩
  replace HZero := Lib.hid (HZero.out.below hb HZero.out.lt)
  replace HT := Lib.hid (HT.out.below hb HT.out.lt)
  replace HX := Lib.hid (HX.out.below hb HX.out.lt)
  replace HY := Lib.hid (HY.out.below hb HY.out.lt)
  replace HV := Lib.hid (HV.out.below hb HV.out.lt)
  replace HH := Lib.hid (HH.out.below hb HH.out.lt)
  replace HB := Lib.hid (HB.out.trans (hb.mono HB.out.size))
  clear hb
  go_wp2_with (refine wpList_load_if (by rfl) 29 _ rfl qH rfl (by exact HH.out) Tryd.underlying29 rfl IH.out ?_)
  refine (bk8 w18 (HE.out.at_below HB.out)).mono ?_
  rintro e w19 ⟨rfl, hb⟩
  replace HZero := Lib.hid (HZero.out.below hb HZero.out.lt)
  replace HT := Lib.hid (HT.out.below hb HT.out.lt)
  replace HX := Lib.hid (HX.out.below hb HX.out.lt)
  replace HY := Lib.hid (HY.out.below hb HY.out.lt)
  replace HV := Lib.hid (HV.out.below hb HV.out.lt)
  replace HH := Lib.hid (HH.out.below hb HH.out.lt)
  replace HB := Lib.hid (HB.out.trans (hb.mono HB.out.size))
  clear hb
  go_wp2_with (refine wpList_load_if (by rfl) 29 _ rfl qH rfl (by exact HH.out) Tryd.underlying29 rfl IH.out ?_)
  refine (bk9 w19 (HE.out.at_below HB.out)).mono ?_
  rintro e w20 ⟨rfl, hb⟩
  replace HZero := Lib.hid (HZero.out.below hb HZero.out.lt)
  replace HT := Lib.hid (HT.out.below hb HT.out.lt)
  replace HX := Lib.hid (HX.out.below hb HX.out.lt)
  replace HY := Lib.hid (HY.out.below hb HY.out.lt)
  replace HV := Lib.hid (HV.out.below hb HV.out.lt)
  replace HH := Lib.hid (HH.out.below hb HH.out.lt)
  replace HB := Lib.hid (HB.out.trans (hb.mono HB.out.size))
  clear hb
  go_wp2
  go_ret
  exact ⟨rfl, HB.out⟩
end physK
end Go.Proofs.YtllbpanfhlbbgaaDoor
