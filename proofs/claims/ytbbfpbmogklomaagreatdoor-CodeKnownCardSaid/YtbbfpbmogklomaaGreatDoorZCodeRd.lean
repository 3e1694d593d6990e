/- The third closure of any field: it is read. No condition. -/
import Derived.Test.YtbbfpbmogklomaaGreatDoorZCodeRs
import Derived.Test.YtbbfpbmogklomaaGreatDoorZCodeK
import Derived.Deep.RegionWith
namespace Go.Proofs.YtbbfpbmogklomaaGreatDoor
open Go.RowKit Go.Bus Go.Bus.cellK Go.Bus.codeK
set_option linter.unusedVariables false
set_option linter.unusedSimpArgs false
namespace codeW
/-- What reading a field comes to. -/
def RdPost (w : World) (g : Nat) (v : Value) (bs : List Int) (p : Nat) (x : Ins) (f : Fk) (e : Ending) (w' : World) : Prop :=
  (∃ u, e = .returned u) ∧ Only g w w' ∧ match rdF f (bs.drop p) x with
  | .got r y => RdH w' g v (bs.length - r.length) y .nilIface
  | .short => ∃ q y, RdH w' g v q y (faultV 2 bs.length)
  | .form => ∃ q y, RdH w' g v q y (faultV 4 p)
theorem rdNum_post {w w' : World} {g p : Nat} {v : Value} {bs : List Int} {x : Ins} {h : Wh} {fn : Nat → Int} {f : Fk} {m : Nat} (hf : rdF f = rdNum h fn) (hO : Only g w w') {s : Value}
    (hS : match sevGo (bs.drop p) 0 0 with
      | .ok m r => RdH w' g v (bs.length - r.length) (x.put h (fn m)) .nilIface
      | .short => ∃ q, RdH w' g v q (x.put h 0) (faultV 2 bs.length)
      | .form => ∃ q, RdH w' g v q (x.put h 0) (faultV 4 p)) : RdPost w g v bs p x f (.returned s) w' := by
  refine ⟨⟨_, rfl⟩, hO, ?_⟩
  rw [hf]
  unfold rdNum
  cases hE : sevGo (bs.drop p) 0 0 <;> rw [hE] at hS <;> simp only [] at hS ⊢
  · obtain ⟨q, h⟩ := hS; exact ⟨q, _, h⟩
  · obtain ⟨q, h⟩ := hS; exact ⟨q, _, h⟩
  · exact hS
theorem RdH.imm {w : World} {g p : Nat} {v ev : Value} {x : Ins} (h : RdH w g v p x ev) (c : Int) : RdH (w.setCell ⟨g, 6, none⟩ (.int .u64 c)) g v p (x.put .I c) ev := Has.set h 6 _
theorem RdH.n {w : World} {g p : Nat} {v ev : Value} {x : Ins} (h : RdH w g v p x ev) (c : Int) : RdH (w.setCell ⟨g, 5, none⟩ (.int .i64 c)) g v p (x.put .N c) ev := Has.set h 5 _
theorem RdH.b {w : World} {g p : Nat} {v ev : Value} {x : Ins} (h : RdH w g v p x ev) (c : Int) : RdH (w.setCell ⟨g, 4, none⟩ (.int .i64 c)) g v p (x.put .B c) ev := Has.set h 4 _
theorem RdH.a {w : World} {g p : Nat} {v ev : Value} {x : Ins} (h : RdH w g v p x ev) (c : Int) : RdH (w.setCell ⟨g, 3, none⟩ (.int .i64 c)) g v p (x.put .A c) ev := Has.set h 3 _
/-- reader.sevens' answer in one form. -/
theorem SvPost.one {w w' : World} {g p : Nat} {v : Value} {bs : List Int} {x : Ins} {e : Ending} (h : SvPost w g v bs p x e w') : ∃ (m q : Nat) (ev : Value), e = .returned (.int .u64 (m : Nat)) ∧ Only g w w' ∧ RdH w' g v q x ev ∧
    (match sevGo (bs.drop p) 0 0 with
      | .ok m' r => m = m' ∧ q = bs.length - r.length ∧ ev = .nilIface
      | .short => m = 0 ∧ ev = faultV 2 bs.length
      | .form => m = 0 ∧ ev = faultV 4 p) := by
  obtain ⟨hO, h⟩ := h
  cases hE : sevGo (bs.drop p) 0 0 <;> rw [hE] at h <;> simp only [] at h ⊢
  · obtain ⟨rfl, q, h⟩ := h; exact ⟨0, q, _, rfl, hO, h, rfl, rfl⟩
  · obtain ⟨rfl, q, h⟩ := h; exact ⟨0, q, _, rfl, hO, h, rfl, rfl⟩
  · exact ⟨_, _, _, h.1, hO, h.2, rfl, rfl, rfl⟩
set_option maxRecDepth 100000 in
set_option maxHeartbeats 1000000 in
theorem rdImm_any {g p : Nat} {v : Value} {bs : List Int} {x : Ins} {w : World} (f : Fk) (hf : rdF f = rdNum .I fun v => v) (hR : RdH w g v p x .nilIface) (hs : Sl w g byteV v bs) (hp : p ≤ bs.length) (hb : ∀ c ∈ bs, Byte c) :
    Calls Tryz.prog 95 #[ptr g] w (RdPost w g v bs p x f) := by
  go_enter Tryz.func95, Tryz.ntmps95
  go_wp2_with fail
  refine (rsevens_any hR hs hp hb).mono ?_
  intro e w1 h
  obtain ⟨m, q, ev, rfl, hO, hR1, hM⟩ := h.one
  clear h
  have e6 : w1.cell? ⟨g, 6, none⟩ = some (.int .u64 x.imm) := Has.cell hR1 6
  have f6 : w1.frozen? ⟨g, 6, none⟩ = false := Has.frozen hR1 6
  have z1 : g < w1.heap.size := Has.lt hR1
  have HR1 := Lib.hid hR1
  have HO := Lib.hid hO
  have HM := Lib.hid hM
  clear hR1 hO hM hR hs
  go_wp2
  refine bodyPost_end (results_none rfl _ _ _) rfl ?_
  refine rdNum_post (m := m) hf (HO.out.set 6 _) ?_
  have hM := HM.out
  have h1 := HR1.out.imm (m : Int)
  cases hE : sevGo (bs.drop p) 0 0 <;> rw [hE] at hM <;> simp only [] at hM ⊢
  · obtain ⟨rfl, rfl⟩ := hM; exact ⟨q, h1⟩
  · obtain ⟨rfl, rfl⟩ := hM; exact ⟨q, h1⟩
  · obtain ⟨rfl, rfl, rfl⟩ := hM; exact h1
set_option maxRecDepth 100000 in
set_option maxHeartbeats 1000000 in
theorem rdSkip_any {g p : Nat} {v : Value} {bs : List Int} {x : Ins} {w : World} (hR : RdH w g v p x .nilIface) (hs : Sl w g byteV v bs) (hp : p ≤ bs.length) (hb : ∀ c ∈ bs, Byte c) :
    Calls Tryz.prog 129 #[ptr g] w (RdPost w g v bs p x .skip) := by
  go_enter Tryz.func129, Tryz.ntmps129
  go_wp2_with fail
  refine (rsevens_any hR hs hp hb).mono ?_
  intro e w1 h
  obtain ⟨m, q, ev, rfl, hO, hR1, hM⟩ := h.one
  clear h
  have e5 : w1.cell? ⟨g, 5, none⟩ = some (.int .i64 x.n) := Has.cell hR1 5
  have f5 : w1.frozen? ⟨g, 5, none⟩ = false := Has.frozen hR1 5
  have z1 : g < w1.heap.size := Has.lt hR1
  have HR1 := Lib.hid hR1
  have HO := Lib.hid hO
  have HM := Lib.hid hM
  clear hR1 hO hM hR hs
  have key : ∀ (u : Int), u = (min m 16385 : Nat) → RdPost w g v bs p x .skip (.returned (.tuple #[])) (w1.setCell ⟨g, 5, none⟩ (.int .i64 u)) := by
    rintro u rfl
    refine rdNum_post (m := m) (h := .N) rfl (HO.out.set 5 _) ?_
    have hM := HM.out
    have h1 := HR1.out.n (min m 16385 : Nat)
    cases hE : sevGo (bs.drop p) 0 0 <;> rw [hE] at hM <;> simp only [] at hM ⊢
    · obtain ⟨rfl, rfl⟩ := hM; exact ⟨q, h1⟩
    · obtain ⟨rfl, rfl⟩ := hM; exact ⟨q, h1⟩
    · obtain ⟨rfl, rfl, rfl⟩ := hM; exact h1
  have KEY := Lib.hid key; clear key
  by_cases hm : m < 16385
  all_goals
    go_wp2
    refine bodyPost_end (results_none rfl _ _ _) rfl ?_
    exact KEY.out _ (by omega)
-- SMALL (by gen_code.py)
theorem Only.cell {g b o : Nat} {w w' : World} (h : Only g w w') (hb : b < w.heap.size) (hne : b ≠ g) : w'.cell? ⟨b, o, none⟩ = w.cell? ⟨b, o, none⟩ :=
  World.cell?_of_block (a := ⟨b, o, none⟩) (h.gr.block b hb (fun e => hne (by injection e)))
theorem rdByte_got {w w' : World} {g p : Nat} {v : Value} {bs : List Int} {x : Ins} {h : Wh} {f : Fk} {c : Int} {u : Value} (hf : rdF f = rdByte h) (hO : Only g w w') (hc : bs[p]? = some c) (hR : RdH w' g v (p + 1) (x.put h c) .nilIface) : RdPost w g v bs p x f (.returned u) w' := by
  refine ⟨⟨_, rfl⟩, hO, ?_⟩
  obtain ⟨h1, h2⟩ := List.getElem?_eq_some_iff.1 hc
  rw [hf, List.drop_eq_getElem_cons h1, h2]
  simp only [rdByte]
  rw [List.length_drop, show bs.length - (bs.length - (p + 1)) = p + 1 from by omega]
  exact hR
theorem rdByte_end {w w' : World} {g p q : Nat} {v : Value} {bs : List Int} {x y : Ins} {h : Wh} {f : Fk} {u : Value} (hf : rdF f = rdByte h) (hO : Only g w w') (hp : bs.length ≤ p) (hR : RdH w' g v q y (faultV 2 bs.length)) : RdPost w g v bs p x f (.returned u) w' := by
  refine ⟨⟨_, rfl⟩, hO, ?_⟩
  rw [hf, List.drop_eq_nil_of_le hp]
  exact ⟨q, y, hR⟩
set_option maxRecDepth 100000 in
set_option maxHeartbeats 1000000 in
theorem rdA_h {b0 g p : Nat} {v : Value} {bs : List Int} {x : Ins} {w : World} (f : Fk) (hf : rdF f = rdByte .A) (hR : RdH w g v p x .nilIface) (hs : Sl w g byteV v bs) (c0 : w.cell? ⟨b0, 0, none⟩ = some (.func (.func 47) #[] #[])) (z0 : b0 < w.heap.size) (hne : b0 ≠ g) {c : Int} (hc : bs[p]? = some c) (hb : Byte c) :
    Calls Tryz.prog 85 #[ptr g, ptr b0] w (RdPost w g v bs p x f) := by
  obtain ⟨op, a, b, n, imm⟩ := x
  have HR := Lib.hid hR
  have HS := Lib.hid hs
  obtain ⟨hb0, hb1⟩ := hb
  have HC := Lib.hid hc; clear hc
  clear hR hs
  go_enter Tryz.func85, Tryz.ntmps85
  go_wp2_with fail
  go_region_law (first
    | (go_simp; go_at_call 47; refine (fieldA_any _ _ _).mono ?_; rintro e w2 ⟨rfl, rfl⟩)
    | (go_simp; go_at_call 86; refine (one_hit (by exact HR.out) (by exact HS.out) HC.out ⟨hb0, hb1⟩).mono ?_; rintro e w1 ⟨rfl, hR1, hO1⟩; have k0 : w1.cell? ⟨b0, 0, none⟩ = some (.func (.func 47) #[] #[]) := (Only.cell hO1 (by simpa using z0) hne).trans c0; have e1 : w1.cell? ⟨g, 3, none⟩ = some (.int .i64 a) := Has.cell hR1 3; have f1 : w1.frozen? ⟨g, 3, none⟩ = false := Has.frozen hR1 3; have z1 : g < w1.heap.size := Has.lt hR1; have zb : b0 < w1.heap.size := Nat.lt_of_lt_of_le (by simpa using z0) hO1.size; have HR1 := Lib.hid hR1; have HO : Hid (Only g w w1) := Lib.hid ⟨hO1.le, hO1.gr.os, hO1.gr.tape, hO1.gr.output, hO1.gr.size, hO1.gr.block⟩; clear hR1 hO1))
  all_goals
    go_wp2
    refine bodyPost_end (results_none rfl _ _ _) rfl ?_
    exact rdByte_got hf (((HO.out)).set 3 _) HC.out (HR1.out.a _)
set_option maxRecDepth 100000 in
set_option maxHeartbeats 1000000 in
theorem rdA_e {b0 g p : Nat} {v : Value} {bs : List Int} {x : Ins} {w : World} (f : Fk) (hf : rdF f = rdByte .A) (hR : RdH w g v p x .nilIface) (hs : Sl w g byteV v bs) (c0 : w.cell? ⟨b0, 0, none⟩ = some (.func (.func 47) #[] #[])) (z0 : b0 < w.heap.size) (hne : b0 ≠ g) (hl : bs.length ≤ p) (hm : p ≤ 9223372036854775807) :
    Calls Tryz.prog 85 #[ptr g, ptr b0] w (RdPost w g v bs p x f) := by
  obtain ⟨op, a, b, n, imm⟩ := x
  have HR := Lib.hid hR
  have HS := Lib.hid hs
  skip
  clear hR hs
  go_enter Tryz.func85, Tryz.ntmps85
  go_wp2_with fail
  go_region_law (first
    | (go_simp; go_at_call 47; refine (fieldA_any _ _ _).mono ?_; rintro e w2 ⟨rfl, rfl⟩)
    | (go_simp; go_at_call 86; refine (one_end (by exact HR.out) (by exact HS.out) (by omega) (by omega)).mono ?_; rintro e w1 ⟨rfl, hR1, hO1⟩; have k0 : w1.cell? ⟨b0, 0, none⟩ = some (.func (.func 47) #[] #[]) := (Only.cell hO1 (by simpa using z0) hne).trans c0; have e1 : w1.cell? ⟨g, 3, none⟩ = some (.int .i64 a) := Has.cell hR1 3; have f1 : w1.frozen? ⟨g, 3, none⟩ = false := Has.frozen hR1 3; have z1 : g < w1.heap.size := Has.lt hR1; have zb : b0 < w1.heap.size := Nat.lt_of_lt_of_le (by simpa using z0) hO1.size; have HR1 := Lib.hid hR1; have HO : Hid (Only g w w1) := Lib.hid ⟨hO1.le, hO1.gr.os, hO1.gr.tape, hO1.gr.output, hO1.gr.size, hO1.gr.block⟩; clear hR1 hO1))
  all_goals
    go_wp2
    refine bodyPost_end (results_none rfl _ _ _) rfl ?_
    exact rdByte_end hf (((HO.out)).set 3 _) (by omega) (HR1.out.a _)
set_option maxRecDepth 100000 in
set_option maxHeartbeats 1000000 in
theorem rdB_h {b0 g p : Nat} {v : Value} {bs : List Int} {x : Ins} {w : World} (f : Fk) (hf : rdF f = rdByte .B) (hR : RdH w g v p x .nilIface) (hs : Sl w g byteV v bs) (c0 : w.cell? ⟨b0, 0, none⟩ = some (.func (.func 48) #[] #[])) (z0 : b0 < w.heap.size) (hne : b0 ≠ g) {c : Int} (hc : bs[p]? = some c) (hb : Byte c) :
    Calls Tryz.prog 85 #[ptr g, ptr b0] w (RdPost w g v bs p x f) := by
  obtain ⟨op, a, b, n, imm⟩ := x
  have HR := Lib.hid hR
  have HS := Lib.hid hs
  obtain ⟨hb0, hb1⟩ := hb
  have HC := Lib.hid hc; clear hc
  clear hR hs
  go_enter Tryz.func85, Tryz.ntmps85
  go_wp2_with fail
  go_region_law (first
    | (go_simp; go_at_call 48; refine (fieldB_any _ _ _).mono ?_; rintro e w2 ⟨rfl, rfl⟩)
    | (go_simp; go_at_call 86; refine (one_hit (by exact HR.out) (by exact HS.out) HC.out ⟨hb0, hb1⟩).mono ?_; rintro e w1 ⟨rfl, hR1, hO1⟩; have k0 : w1.cell? ⟨b0, 0, none⟩ = some (.func (.func 48) #[] #[]) := (Only.cell hO1 (by simpa using z0) hne).trans c0; have e1 : w1.cell? ⟨g, 4, none⟩ = some (.int .i64 b) := Has.cell hR1 4; have f1 : w1.frozen? ⟨g, 4, none⟩ = false := Has.frozen hR1 4; have z1 : g < w1.heap.size := Has.lt hR1; have zb : b0 < w1.heap.size := Nat.lt_of_lt_of_le (by simpa using z0) hO1.size; have HR1 := Lib.hid hR1; have HO : Hid (Only g w w1) := Lib.hid ⟨hO1.le, hO1.gr.os, hO1.gr.tape, hO1.gr.output, hO1.gr.size, hO1.gr.block⟩; clear hR1 hO1))
  all_goals
    go_wp2
    refine bodyPost_end (results_none rfl _ _ _) rfl ?_
    exact rdByte_got hf (((HO.out)).set 4 _) HC.out (HR1.out.b _)
set_option maxRecDepth 100000 in
set_option maxHeartbeats 1000000 in
theorem rdB_e {b0 g p : Nat} {v : Value} {bs : List Int} {x : Ins} {w : World} (f : Fk) (hf : rdF f = rdByte .B) (hR : RdH w g v p x .nilIface) (hs : Sl w g byteV v bs) (c0 : w.cell? ⟨b0, 0, none⟩ = some (.func (.func 48) #[] #[])) (z0 : b0 < w.heap.size) (hne : b0 ≠ g) (hl : bs.length ≤ p) (hm : p ≤ 9223372036854775807) :
    Calls Tryz.prog 85 #[ptr g, ptr b0] w (RdPost w g v bs p x f) := by
  obtain ⟨op, a, b, n, imm⟩ := x
  have HR := Lib.hid hR
  have HS := Lib.hid hs
  skip
  clear hR hs
  go_enter Tryz.func85, Tryz.ntmps85
  go_wp2_with fail
  go_region_law (first
    | (go_simp; go_at_call 48; refine (fieldB_any _ _ _).mono ?_; rintro e w2 ⟨rfl, rfl⟩)
    | (go_simp; go_at_call 86; refine (one_end (by exact HR.out) (by exact HS.out) (by omega) (by omega)).mono ?_; rintro e w1 ⟨rfl, hR1, hO1⟩; have k0 : w1.cell? ⟨b0, 0, none⟩ = some (.func (.func 48) #[] #[]) := (Only.cell hO1 (by simpa using z0) hne).trans c0; have e1 : w1.cell? ⟨g, 4, none⟩ = some (.int .i64 b) := Has.cell hR1 4; have f1 : w1.frozen? ⟨g, 4, none⟩ = false := Has.frozen hR1 4; have z1 : g < w1.heap.size := Has.lt hR1; have zb : b0 < w1.heap.size := Nat.lt_of_lt_of_le (by simpa using z0) hO1.size; have HR1 := Lib.hid hR1; have HO : Hid (Only g w w1) := Lib.hid ⟨hO1.le, hO1.gr.os, hO1.gr.tape, hO1.gr.output, hO1.gr.size, hO1.gr.block⟩; clear hR1 hO1))
  all_goals
    go_wp2
    refine bodyPost_end (results_none rfl _ _ _) rfl ?_
    exact rdByte_end hf (((HO.out)).set 4 _) (by omega) (HR1.out.b _)
set_option maxRecDepth 100000 in
set_option maxHeartbeats 1000000 in
theorem rdN_h {b0 g p : Nat} {v : Value} {bs : List Int} {x : Ins} {w : World} (f : Fk) (hf : rdF f = rdByte .N) (hR : RdH w g v p x .nilIface) (hs : Sl w g byteV v bs) (c0 : w.cell? ⟨b0, 0, none⟩ = some (.func (.func 101) #[] #[])) (z0 : b0 < w.heap.size) (hne : b0 ≠ g) {c : Int} (hc : bs[p]? = some c) (hb : Byte c) :
    Calls Tryz.prog 85 #[ptr g, ptr b0] w (RdPost w g v bs p x f) := by
  obtain ⟨op, a, b, n, imm⟩ := x
  have HR := Lib.hid hR
  have HS := Lib.hid hs
  obtain ⟨hb0, hb1⟩ := hb
  have HC := Lib.hid hc; clear hc
  clear hR hs
  go_enter Tryz.func85, Tryz.ntmps85
  go_wp2_with fail
  go_region_law (first
    | (go_simp; go_at_call 101; refine (fieldN_any _ _ _).mono ?_; rintro e w2 ⟨rfl, rfl⟩)
    | (go_simp; go_at_call 86; refine (one_hit (by exact HR.out) (by exact HS.out) HC.out ⟨hb0, hb1⟩).mono ?_; rintro e w1 ⟨rfl, hR1, hO1⟩; have k0 : w1.cell? ⟨b0, 0, none⟩ = some (.func (.func 101) #[] #[]) := (Only.cell hO1 (by simpa using z0) hne).trans c0; have e1 : w1.cell? ⟨g, 5, none⟩ = some (.int .i64 n) := Has.cell hR1 5; have f1 : w1.frozen? ⟨g, 5, none⟩ = false := Has.frozen hR1 5; have z1 : g < w1.heap.size := Has.lt hR1; have zb : b0 < w1.heap.size := Nat.lt_of_lt_of_le (by simpa using z0) hO1.size; have HR1 := Lib.hid hR1; have HO : Hid (Only g w w1) := Lib.hid ⟨hO1.le, hO1.gr.os, hO1.gr.tape, hO1.gr.output, hO1.gr.size, hO1.gr.block⟩; clear hR1 hO1))
  all_goals
    go_wp2
    refine bodyPost_end (results_none rfl _ _ _) rfl ?_
    exact rdByte_got hf (((HO.out)).set 5 _) HC.out (HR1.out.n _)
set_option maxRecDepth 100000 in
set_option maxHeartbeats 1000000 in
theorem rdN_e {b0 g p : Nat} {v : Value} {bs : List Int} {x : Ins} {w : World} (f : Fk) (hf : rdF f = rdByte .N) (hR : RdH w g v p x .nilIface) (hs : Sl w g byteV v bs) (c0 : w.cell? ⟨b0, 0, none⟩ = some (.func (.func 101) #[] #[])) (z0 : b0 < w.heap.size) (hne : b0 ≠ g) (hl : bs.length ≤ p) (hm : p ≤ 9223372036854775807) :
    Calls Tryz.prog 85 #[ptr g, ptr b0] w (RdPost w g v bs p x f) := by
  obtain ⟨op, a, b, n, imm⟩ := x
  have HR := Lib.hid hR
  have HS := Lib.hid hs
  skip
  clear hR hs
  go_enter Tryz.func85, Tryz.ntmps85
  go_wp2_with fail
  go_region_law (first
    | (go_simp; go_at_call 101; refine (fieldN_any _ _ _).mono ?_; rintro e w2 ⟨rfl, rfl⟩)
    | (go_simp; go_at_call 86; refine (one_end (by exact HR.out) (by exact HS.out) (by omega) (by omega)).mono ?_; rintro e w1 ⟨rfl, hR1, hO1⟩; have k0 : w1.cell? ⟨b0, 0, none⟩ = some (.func (.func 101) #[] #[]) := (Only.cell hO1 (by simpa using z0) hne).trans c0; have e1 : w1.cell? ⟨g, 5, none⟩ = some (.int .i64 n) := Has.cell hR1 5; have f1 : w1.frozen? ⟨g, 5, none⟩ = false := Has.frozen hR1 5; have z1 : g < w1.heap.size := Has.lt hR1; have zb : b0 < w1.heap.size := Nat.lt_of_lt_of_le (by simpa using z0) hO1.size; have HR1 := Lib.hid hR1; have HO : Hid (Only g w w1) := Lib.hid ⟨hO1.le, hO1.gr.os, hO1.gr.tape, hO1.gr.output, hO1.gr.size, hO1.gr.block⟩; clear hR1 hO1))
  all_goals
    go_wp2
    refine bodyPost_end (results_none rfl _ _ _) rfl ?_
    exact rdByte_end hf (((HO.out)).set 5 _) (by omega) (HR1.out.n _)
theorem rdSmall_any (f : Fk) (h : Wh) (hh : h ≠ .I) (hf : rdF f = rdByte h) {b0 g p : Nat} {v : Value} {bs : List Int} {x : Ins} {w : World} (hR : RdH w g v p x .nilIface) (hs : Sl w g byteV v bs) (h0 : Has w b0 126 #[clos (whF h) #[]]) (hne : b0 ≠ g) (hp : p ≤ bs.length) (hb : ∀ c ∈ bs, Byte c) :
    Calls Tryz.prog 85 #[ptr g, ptr b0] w (RdPost w g v bs p x f) := by
  have c0 : w.cell? ⟨b0, 0, none⟩ = some (clos (whF h) #[]) := h0.cell 0
  have hlen : bs.length ≤ 9223372036854775807 := by
    obtain ⟨A, cap, rfl, n1, n2⟩ := hs.form
    unfold maxLen at n2; omega
  by_cases hlt : p < bs.length
  · have hc := List.getElem?_eq_getElem hlt
    have hby := hb _ (List.getElem_mem hlt)
    cases h with
    | A => exact rdA_h f hf hR hs c0 h0.lt hne hc hby
    | B => exact rdB_h f hf hR hs c0 h0.lt hne hc hby
    | N => exact rdN_h f hf hR hs c0 h0.lt hne hc hby
    | I => exact absurd rfl hh
  · cases h with
    | A => exact rdA_e f hf hR hs c0 h0.lt hne (by omega) (by omega)
    | B => exact rdB_e f hf hR hs c0 h0.lt hne (by omega) (by omega)
    | N => exact rdN_e f hf hR hs c0 h0.lt hne (by omega) (by omega)
    | I => exact absurd rfl hh
/-- The third closure of any field. -/
theorem rd_does (f : Fk) (hf : f.ok) (cs : List Value) (F : Foot) {g p : Nat} {v : Value} {bs : List Int} {x : Ins} {w : World} (hE : FieldE w F cs f) (hF : ¬ F g) (hR : RdH w g v p x .nilIface) (hs : Sl w g byteV v bs) (hp : p ≤ bs.length) (hb : ∀ c ∈ bs, Byte c) :
    ∃ c0 c1 c2 c3 c4, cs = [c0, c1, c2, c3, c4] ∧ Does Tryz.prog c2 #[ptr g] w (RdPost w g v bs p x f) := by
  obtain ⟨b0, b1, b2, b3, rfl, hB⟩ := hE
  refine ⟨_, _, _, _, _, rfl, ?_⟩
  cases f with
  | small h lo hi s => exact callFunc_of _ (fun _ _ => by kernel_rfl) _ _ _ _ (rdSmall_any (.small h lo hi s) h hf.1 rfl hR hs (hB _ _ _ _ rfl).h0 (fun e => hF (e ▸ (hB _ _ _ _ rfl).f0)) hp hb)
  | skip => exact callFunc_of _ (fun _ _ => by kernel_rfl) _ _ _ _ (rdSkip_any hR hs hp hb)
  | bytes => exact callFunc_of _ (fun _ _ => by kernel_rfl) _ _ _ _ (rdSmall_any .bytes .N (by decide) rfl hR hs (hB _ _ _ _ rfl).h0 (fun e => hF (e ▸ (hB _ _ _ _ rfl).f0)) hp hb)
  | number => exact callFunc_of _ (fun _ _ => by kernel_rfl) _ _ _ _ (rdImm_any .number rfl hR hs hp hb)
  | sign => exact callFunc_of _ (fun _ _ => by kernel_rfl) _ _ _ _ (rdImm_any .sign rfl hR hs hp hb)
end codeW
end Go.Proofs.YtbbfpbmogklomaaGreatDoor
