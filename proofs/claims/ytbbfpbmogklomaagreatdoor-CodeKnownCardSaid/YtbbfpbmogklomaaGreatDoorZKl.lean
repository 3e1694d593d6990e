/- Texts of this claim, one behind the other. No condition but those that each states. -/
import Derived.Test.YtbbfpbmogklomaaGreatDoorZKk
import Derived.Test.YtbbfpbmogklomaaGreatDoorZCodeWd
import Derived.Test.YtbbfpbmogklomaaGreatDoorZCodeRd
import Derived.Deep.QuietTactic
import Derived.BigQuiet
import Derived.Outline
import Derived.Deep.RegionLaw

namespace Go.Proofs.YtbbfpbmogklomaaGreatDoor
open Go.RowKit Go.Bus Go.Bus.cellK Go.Bus.codeK
set_option linter.unusedVariables false
set_option linter.unusedSimpArgs false
namespace codeW
/-- A function value without a receiver. -/
def Do (c : Value) (args : Array Value) (w : World) (R : Ending → World → Prop) : Prop :=
  ∃ fn cap, c = .func (.func fn) #[] cap ∧ (∀ xs w, (callFunc fn xs).run Tryz.prog w = .ok (.enter fn xs) w) ∧ Calls Tryz.prog fn (args ++ cap) w R
theorem do_of {c : Value} {fn : FuncId} {cap args : Array Value} {w : World} {R : Ending → World → Prop} (hc : c = clos fn cap) (h : Does Tryz.prog c args w R) : Do c args w R := by
  obtain ⟨f, first, cap', rfl, hf, hC⟩ := h
  have h2 : Fn.func f = Fn.func fn ∧ first = #[] ∧ cap' = cap := by simpa [clos] using hc
  obtain ⟨_, rfl, rfl⟩ := h2
  exact ⟨f, cap', rfl, hf, by simpa using hC⟩
theorem cOk_clos (f : Fk) (b0 b1 b2 : Nat) : ∃ fn cap, cOk f b0 b1 b2 = clos fn cap := by cases f <;> exact ⟨_, _, rfl⟩
theorem cWr_clos (f : Fk) (b0 : Nat) : ∃ fn cap, cWr f b0 = clos fn cap := by cases f <;> exact ⟨_, _, rfl⟩
theorem cRd_clos (f : Fk) (b0 : Nat) : ∃ fn cap, cRd f b0 = clos fn cap := by cases f <;> exact ⟨_, _, rfl⟩
theorem ok_do {f : Fk} {c0 c1 c2 c3 c4 : Value} {F : Foot} {x : Ins} {w : World} (hE : FieldE w F [c0, c1, c2, c3, c4] f) (hf : f.ok) (hb : f = .bytes → 0 ≤ x.b ∧ x.b ≤ 7) : Do c0 #[.agg (insC x).toArray] w (Okd x f w) := by
  obtain ⟨d0, d1, d2, d3, d4, hcs, hD⟩ := ok_does f hf _ F x w hE hb
  cases hcs
  obtain ⟨b0, b1, b2, b3, hc, _⟩ := hE
  obtain ⟨fn, cap, h⟩ := cOk_clos f b0 b1 b2
  have hc0 : c0 = cOk f b0 b1 b2 := by injection hc
  exact do_of (hc0.trans h) hD
theorem wr_do {f : Fk} {c0 c1 c2 c3 c4 : Value} {F : Foot} {x : Ins} {w : World} {g base : Nat} {v : Value} {bs : List Int} (hE : FieldE w F [c0, c1, c2, c3, c4] f) (hf : f.ok) (ho : okF f x = true) (hx : x.Ok) (hW : Wr w g base v bs x) (hg : g < base) (hb : base ≤ w.heap.size) (hl : (bs ++ wrF f x).length ≤ 1000000) : Do c1 #[ptr g] w (WrPost w g base v (bs ++ wrF f x) x) := by
  obtain ⟨d0, d1, d2, d3, d4, hcs, hD⟩ := wr_does f hf _ F hE ho hx hW hg hb hl
  cases hcs
  obtain ⟨b0, b1, b2, b3, hc, _⟩ := hE
  obtain ⟨fn, cap, h⟩ := cWr_clos f b0
  have hc1 : c1 = cWr f b0 := by injection hc with _ hc; injection hc
  exact do_of (hc1.trans h) hD
theorem rd_do {f : Fk} {c0 c1 c2 c3 c4 : Value} {F : Foot} {x : Ins} {w : World} {g p : Nat} {v : Value} {bs : List Int} (hE : FieldE w F [c0, c1, c2, c3, c4] f) (hf : f.ok) (hF : ¬ F g) (hR : RdH w g v p x .nilIface) (hs : Sl w g byteV v bs) (hp : p ≤ bs.length) (hb : ∀ c ∈ bs, Byte c) : Do c2 #[ptr g] w (RdPost w g v bs p x f) := by
  obtain ⟨d0, d1, d2, d3, d4, hcs, hD⟩ := rd_does f hf _ F hE hF hR hs hp hb
  cases hcs
  obtain ⟨b0, b1, b2, b3, hc, _⟩ := hE
  obtain ⟨fn, cap, h⟩ := cRd_clos f b0
  have hc2 : c2 = cRd f b0 := by injection hc with _ hc; injection hc with _ hc; injection hc
  exact do_of (hc2.trans h) hD
/-- Field i of a slice of fields: its five cells, where they lie. -/
theorem slk_get {w : World} {F : Foot} {A : Option Addr} {n cap i : Nat} {fs : List Fk} (h : SlK 5 FieldE w F (.slice A n cap) fs) (hi : i < fs.length) :
    ∃ b off c0 c1 c2 c3 c4, A = some ⟨b, off, none⟩ ∧ F b ∧ FieldE w F [c0, c1, c2, c3, c4] fs[i] ∧ w.cell? ⟨b, off + i * 5, none⟩ = some c0 ∧ w.cell? ⟨b, off + i * 5 + 1, none⟩ = some c1 ∧ w.cell? ⟨b, off + i * 5 + 2, none⟩ = some c2 ∧ w.cell? ⟨b, off + i * 5 + 3, none⟩ = some c3 ∧ w.cell? ⟨b, off + i * 5 + 4, none⟩ = some c4 := by
  obtain ⟨b, off, cs, hA, hb, hl, hr, hE⟩ := h.at_ hi
  match cs, hl with
  | [c0, c1, c2, c3, c4], _ => exact ⟨b, off, c0, c1, c2, c3, c4, hA, hb, hE, hr 0 _ rfl, hr 1 _ rfl, hr 2 _ rfl, hr 3 _ rfl, hr 4 _ rfl⟩
/-- Instructions compared. -/
theorem eql_ins (x y : Ins) (w : World) : (binOp .eql 25 (.agg (insC x).toArray) (.agg (insC y).toArray)).run Tryz.prog w = .ok (.bool (decide (x = y))) w := by
  obtain ⟨a, b, c, d, e⟩ := x
  obtain ⟨a', b', c', d', e'⟩ := y
  by_cases h1 : a = a' <;> by_cases h2 : b = b' <;> by_cases h3 : c = c' <;> by_cases h4 : d = d' <;> by_cases h5 : e = e' <;> simp [insC, go_sem, h1, h2, h3, h4, h5]
end codeW
end Go.Proofs.YtbbfpbmogklomaaGreatDoor

namespace Go.Proofs.YtbbfpbmogklomaaGreatDoor
open Go.RowKit Go.Bus Go.Bus.cellK Go.Bus.codeK
set_option linter.unusedVariables false
set_option linter.unusedSimpArgs false
namespace codeW
theorem Do.calls {fn : FuncId} {cap args : Array Value} {w : World} {R : Ending → World → Prop} (h : Do (.func (.func fn) #[] cap) args w R) : Calls Tryz.prog fn (args ++ cap) w R := by
  obtain ⟨f, cap', hc, _, hC⟩ := h
  obtain ⟨rfl, rfl⟩ : fn = f ∧ cap = cap' := by simpa using hc
  exact hC
theorem field_shape {f : Fk} {c0 c1 c2 c3 c4 : Value} {F : Foot} {w : World} (hE : FieldE w F [c0, c1, c2, c3, c4] f) : ∃ fn0 cap0 fn1 cap1 fn2 cap2 fn3 cap3 fn4 cap4, c0 = .func (.func fn0) #[] cap0 ∧ c1 = .func (.func fn1) #[] cap1 ∧ c2 = .func (.func fn2) #[] cap2 ∧ c3 = .func (.func fn3) #[] cap3 ∧ c4 = .func (.func fn4) #[] cap4 ∧
    (∀ xs w, (callFunc fn0 xs).run Tryz.prog w = .ok (.enter fn0 xs) w) ∧ (∀ xs w, (callFunc fn1 xs).run Tryz.prog w = .ok (.enter fn1 xs) w) ∧ (∀ xs w, (callFunc fn2 xs).run Tryz.prog w = .ok (.enter fn2 xs) w) := by
  obtain ⟨b0, b1, b2, b3, hc, _⟩ := hE
  injection hc with h0 hc
  injection hc with h1 hc
  injection hc with h2 hc
  injection hc with h3 hc
  injection hc with h4 hc
  subst h0 h1 h2 h3 h4
  cases f <;> exact ⟨_, _, _, _, _, _, _, _, _, _, rfl, rfl, rfl, rfl, rfl, fun _ _ => by kernel_rfl, fun _ _ => by kernel_rfl, fun _ _ => by kernel_rfl⟩
theorem FieldE.below {w w' : World} {B : Nat} {cs : List Value} {f : Fk} (h : FieldE w (Old B) cs f) (hb : Below B w w') : FieldE w' (Old B) cs f := FieldE.later h (fun _ h => h) (fun _ h => h) hb
theorem own_slice {w : World} {base : Nat} {e : TypeId} {size : Nat} {v : Value} {n : Nat} {xs : List Value} (h : w.ownsRow base e size v n xs) : ∃ A c, v = .slice A n c := by
  rcases h.2 with ⟨rfl, rfl⟩ | ⟨g, cap, cur, rfl, _⟩
  · exact ⟨_, _, rfl⟩
  · exact ⟨_, _, rfl⟩
theorem Wr.below {w w' : World} {g base : Nat} {v : Value} {bs : List Int} {x : Ins} (h : Wr w g base v bs x) (hb : Below w.heap.size w w') : Wr w' g base v bs x := ⟨h.1.below hb h.1.lt, own_kept h.2 hb⟩
theorem MadeE.old {w w' : World} {v : Value} (h : MadeE w (Old w.heap.size) v) (hb : Below w.heap.size w w') : MadeE w' (Old w'.heap.size) v := h.keep (fun b hb' => Nat.lt_of_lt_of_le hb' hb.size) (fun b hb' => hb.block b hb')
theorem take_flat (fs : List Fk) (x : Ins) {k : Nat} (h : k < fs.length) : (fs.take (k + 1)).flatMap (wrF · x) = (fs.take k).flatMap (wrF · x) ++ wrF fs[k] x := by
  rw [List.take_succ_eq_append_getElem h, List.flatMap_append]; simp
theorem flat_split (fs : List Fk) (x : Ins) {k : Nat} (h : k < fs.length) : fs.flatMap (wrF · x) = (fs.take k).flatMap (wrF · x) ++ (wrF fs[k] x ++ (fs.drop (k + 1)).flatMap (wrF · x)) := by
  have h1 : fs = fs.take k ++ (fs[k] :: fs.drop (k + 1)) := by rw [← List.drop_eq_getElem_cons h, List.take_append_drop]
  have h2 : fs.flatMap (wrF · x) = (fs.take k ++ (fs[k] :: fs.drop (k + 1))).flatMap (wrF · x) := by rw [← h1]
  rw [h2, List.flatMap_append, List.flatMap_cons]
theorem drop_flat (fs : List Fk) (x : Ins) {k : Nat} (h : k < fs.length) : (fs.flatMap (wrF · x)).drop ((fs.take k).flatMap (wrF · x)).length = wrF fs[k] x ++ (fs.drop (k + 1)).flatMap (wrF · x) := by
  rw [flat_split fs x h, List.drop_left]
theorem flat_take_le (fs : List Fk) (x : Ins) (k : Nat) : ((fs.take k).flatMap (wrF · x)).length ≤ (fs.flatMap (wrF · x)).length := by
  have h2 : fs.flatMap (wrF · x) = (fs.take k ++ fs.drop k).flatMap (wrF · x) := by rw [List.take_append_drop]
  rw [h2, List.flatMap_append, List.length_append]; omega
theorem flat_rest (fs : List Fk) (x : Ins) {k : Nat} (h : k < fs.length) : (fs.flatMap (wrF · x)).length - ((fs.drop (k + 1)).flatMap (wrF · x)).length = ((fs.take (k + 1)).flatMap (wrF · x)).length := by
  have h2 : fs.flatMap (wrF · x) = (fs.take (k + 1) ++ fs.drop (k + 1)).flatMap (wrF · x) := by rw [List.take_append_drop]
  rw [h2, List.flatMap_append, List.length_append]; omega
theorem setAll_take (fs : List Fk) (x y : Ins) {k : Nat} (h : k < fs.length) : setAll (fs.take (k + 1)) x y = (setAll (fs.take k) x y).put fs[k].wh (x.at_ fs[k].wh) := by
  rw [List.take_succ_eq_append_getElem h]
  unfold setAll
  rw [List.foldl_append]; rfl
theorem wr_len (f : Fk) (x : Ins) (hx : x.Ok) (ho : okF f x = true) : (wrF f x).length ≤ 10 := by
  have key : ∀ (j : Nat) (v : Nat), v < 128 ^ j → (sev v).length ≤ max j 1 := by
    intro j
    induction j with
    | zero => intro v hv; rw [sev_lt (by simp at hv; omega)]; simp
    | succ j ih =>
      intro v hv
      by_cases h : v < 128
      · rw [sev_lt h]; simp
      · rw [sev_ge h, List.length_cons]
        have := ih (v / 128) (by rw [Nat.pow_succ, Nat.mul_comm] at hv; exact Nat.div_lt_of_lt_mul hv)
        have hj : j ≠ 0 := by intro h0; subst h0; simp at hv; omega
        omega
  cases f with
  | small h lo hi s => simp [wrF]
  | bytes => simp [wrF]
  | skip => have := key 10 x.n.toNat (by simp only [okF, Bool.and_eq_true, decide_eq_true_eq] at ho; exact Nat.lt_of_le_of_lt (show x.n.toNat ≤ 16384 by omega) (by decide)); simpa [wrF] using this
  | number => have := key 10 x.imm.toNat (by have := hx.imm; exact Nat.lt_of_lt_of_le (show x.imm.toNat < 18446744073709551616 by omega) (by decide)); simpa [wrF] using this
  | sign => have := key 10 x.imm.toNat (by have := hx.imm; exact Nat.lt_of_lt_of_le (show x.imm.toNat < 18446744073709551616 by omega) (by decide)); simpa [wrF] using this
theorem flat_len (x : Ins) (hx : x.Ok) : ∀ (fs : List Fk), (∀ f ∈ fs, okF f x = true) → (fs.flatMap (wrF · x)).length ≤ 10 * fs.length
  | [], _ => by simp
  | f :: fs, h => by
    rw [List.flatMap_cons, List.length_append, List.length_cons]
    have h1 := wr_len f x hx (h f (List.mem_cons_self ..))
    have h2 := flat_len x hx fs fun g hg => h g (List.mem_cons_of_mem _ hg)
    omega
set_option maxRecDepth 100000 in
set_option maxHeartbeats 1000000 in
theorem right_no {x : Ins} {mv : Value} (w : World) (hM : MadeE w (Old w.heap.size) mv) (hf : fieldsOf x.op = none) : Calls Tryz.prog 26 #[mv, .agg (insC x).toArray] w fun e w' => e = .returned (.bool false) ∧ Below w.heap.size w w' := by
  obtain ⟨op, a, b, n, imm⟩ := x
  have HM := Lib.hid hM; clear hM
  have HF : Hid (fieldsOf op = none) := Lib.hid hf
  clear hf
  unfold insC
  go_enter Tryz.func26, Tryz.ntmps26
  go_wp2_with (go_at_call 27; refine (of_no _ (HM.out.old (by repeat' (first | (with_reducible assumption) | (with_reducible refine Below.setCell ?_ ?_ _) | (with_reducible refine Below.alloc ?_ ?_ _) | (with_reducible refine Below.drew ?_) | (with_reducible refine below_drewN ?_ _) | (with_reducible exact Below.refl _ _) | (show _ ≤ _; (try simp); (try omega); done) | exact Below.refl _ _ | assumption))) HF.out).mono ?_; rintro e w1 ⟨rfl, rfl⟩)
  go_ret
  exact ⟨rfl, (by repeat' (first | (with_reducible assumption) | (with_reducible refine Below.setCell ?_ ?_ _) | (with_reducible refine Below.alloc ?_ ?_ _) | (with_reducible refine Below.drew ?_) | (with_reducible refine below_drewN ?_ _) | (with_reducible exact Below.refl _ _) | (show _ ≤ _; (try simp); (try omega); done) | exact Below.refl _ _ | assumption))⟩
end codeW
end Go.Proofs.YtbbfpbmogklomaaGreatDoor

namespace Go.Proofs.YtbbfpbmogklomaaGreatDoor
open Go.RowKit Go.Bus Go.Bus.cellK Go.Bus.codeK
set_option linter.unusedVariables false
set_option linter.unusedSimpArgs false
namespace codeW
set_option maxRecDepth 100000 in
set_option maxHeartbeats 3000000 in
theorem right_yes {x : Ins} {fs : List Fk} {mv : Value} (w : World) (hM : MadeE w (Old w.heap.size) mv) (hf : fieldsOf x.op = some fs) (hx : x.Ok) : Calls Tryz.prog 26 #[mv, .agg (insC x).toArray] w fun e w' => e = .returned (.bool (rightB x)) ∧ Below w.heap.size w w' := by
  have HRB : Hid (rightB x = (fs.all (okF · x) && decide (setAll fs x (zero x.op) = x))) := Lib.hid (by unfold rightB; rw [hf])
  have HX := Lib.hid hx; clear hx
  have HFO := Lib.hid (fields_ok hf)
  have hfl := fields_len hf
  have HBY := Lib.hid (fun i (hi : fs[i]? = some Fk.bytes) => bytes_at hf hi)
  obtain ⟨X, hX⟩ : ∃ X, X = x := ⟨_, rfl⟩
  have HXX := Lib.hid hX
  obtain ⟨op, a, b, n, imm⟩ := x
  have HF := Lib.hid hf; clear hf
  have HM := Lib.hid hM; clear hM
  clear hX
  unfold insC
  go_enter Tryz.func26, Tryz.ntmps26
  go_wp2_with (go_at_call 27; refine (of_yes _ (HM.out.old (by repeat' (first | (with_reducible assumption) | (with_reducible refine Below.setCell ?_ ?_ _) | (with_reducible refine Below.alloc ?_ ?_ _) | (with_reducible refine Below.drew ?_) | (with_reducible refine below_drewN ?_ _) | (with_reducible exact Below.refl _ _) | (show _ ≤ _; (try simp); (try omega); done) | exact Below.refl _ _ | assumption))) HF.out).mono ?_; rintro e w1 ⟨v, rfl, hS, hB, _⟩; obtain ⟨A, cap, rfl, hcap, hmax⟩ := hS.form; have hH : Has w1 w.heap.size 25 #[.int .i64 op, .int .i64 a, .int .i64 b, .int .i64 n, .int .u64 imm] := (Has.new w _ _).below hB (by simp); have k0 : w1.cell? ⟨w.heap.size, 0, none⟩ = some (.int .i64 op) := hH.cell 0; have k1 : w1.cell? ⟨w.heap.size, 1, none⟩ = some (.int .i64 a) := hH.cell 1; have k2 : w1.cell? ⟨w.heap.size, 2, none⟩ = some (.int .i64 b) := hH.cell 2; have k3 : w1.cell? ⟨w.heap.size, 3, none⟩ = some (.int .i64 n) := hH.cell 3; have k4 : w1.cell? ⟨w.heap.size, 4, none⟩ = some (.int .u64 imm) := hH.cell 4; have zz : w.heap.size < w1.heap.size := hH.lt; have HB00 : Hid (Below w.heap.size w w1) := Lib.hid (Below.trans (by repeat' (first | (with_reducible assumption) | (with_reducible refine Below.setCell ?_ ?_ _) | (with_reducible refine Below.alloc ?_ ?_ _) | (with_reducible refine Below.drew ?_) | (with_reducible refine below_drewN ?_ _) | (with_reducible exact Below.refl _ _) | (show _ ≤ _; (try simp); (try omega); done) | exact Below.refl _ _ | assumption)) (hB.mono (by (try simp); (try omega)))); have HS := Lib.hid hS; have HB := Lib.hid hB; have HH := Lib.hid hH; clear hS hB hH hmax)
  obtain ⟨G, hG⟩ : ∃ G, G = w1.heap.size := ⟨_, rfl⟩
  have HG := Lib.hid hG
  have hW0 : Wr (w1.alloc (.cells #[.slice none 0 0, .int .i64 op, .int .i64 a, .int .i64 b, .int .i64 n, .int .u64 imm] 63)) w1.heap.size (w1.heap.size + 1) (.slice none 0 0) [] ⟨op, a, b, n, imm⟩ := ⟨Has.new w1 _ _, World.ownsRow_nil _ _ _ _⟩
  have HW0 := Lib.hid hW0
  have HB0 : Hid (Below w1.heap.size w1 (w1.alloc (.cells #[.slice none 0 0, .int .i64 op, .int .i64 a, .int .i64 b, .int .i64 n, .int .u64 imm] 63))) := Lib.hid ((Below.refl _ _).alloc (Nat.le_refl _) _)
  clear hW0 hG
  go_loopw [27] (fun i wr => ∃ (k : Nat) (bv : Value), k ≤ fs.length ∧ i = .int .i64 (k : Nat) ∧ Hid (Wr wr w1.heap.size (w1.heap.size + 1) bv ((fs.take k).flatMap (wrF · ⟨op, a, b, n, imm⟩)) ⟨op, a, b, n, imm⟩) ∧ Hid (∀ f ∈ fs.take k, okF f ⟨op, a, b, n, imm⟩ = true) ∧ Hid (Below w1.heap.size w1 wr)) (fun i _ => fs.length - (intOf i).toNat)
  case atStart => exact ⟨0, _, Nat.zero_le _, rfl, HW0, Lib.hid (by simp), HB0⟩
  case round =>
    obtain ⟨k, bv, hk, rfl, HW, HOK, HBr⟩ := hrel
    clear HW0 HB0
    have hz1 : w1.heap.size < wr.heap.size := HW.out.1.lt
    have z0 : w.heap.size < wr.heap.size := by omega
    have hHr := HH.out.below HBr.out zz
    have HHr := Lib.hid hHr
    have q0 : wr.cell? ⟨w.heap.size, 0, none⟩ = some (.int .i64 op) := hHr.cell 0
    have q1 : wr.cell? ⟨w.heap.size, 1, none⟩ = some (.int .i64 a) := hHr.cell 1
    have q2 : wr.cell? ⟨w.heap.size, 2, none⟩ = some (.int .i64 b) := hHr.cell 2
    have q3 : wr.cell? ⟨w.heap.size, 3, none⟩ = some (.int .i64 n) := hHr.cell 3
    have q4 : wr.cell? ⟨w.heap.size, 4, none⟩ = some (.int .u64 imm) := hHr.cell 4
    clear hHr k0 k1 k2 k3 k4
    have HSr := Lib.hid (HS.out.belowF FieldE_mono (fun b hb => hb) HBr.out)
    by_cases hlt : k < fs.length
    · obtain ⟨fb, off, c0, c1, c2, c3, c4, rfl, hbG, hE, e0, e1, e2, e3, e4⟩ := slk_get HSr.out hlt
      obtain ⟨f, hfk⟩ : ∃ f, f = fs[k] := ⟨_, rfl⟩
      rw [← hfk] at hE
      have hfm : f ∈ fs := by rw [hfk]; exact List.getElem_mem hlt
      have hfok := HFO.out f hfm
      obtain ⟨fn0, cap0, fn1, cap1, fn2, cap2, fn3, cap3, fn4, cap4, rfl, rfl, rfl, rfl, rfl, hcf0, hcf1, hcf2⟩ := field_shape hE
      have hby : f = .bytes → 0 ≤ b ∧ b ≤ 7 := by
        intro hfb
        obtain ⟨rfl, h1⟩ := HBY.out k (by rw [List.getElem?_eq_getElem hlt, ← hfk, hfb])
        have h2 : codeK.start ∈ fs.take 2 := by
          obtain ⟨hl1, hv⟩ := List.getElem?_eq_some_iff.1 h1
          rw [← hv]
          exact List.mem_iff_getElem.2 ⟨1, by simp; omega, by rw [List.getElem_take]⟩
        have h3 := HOK.out _ h2
        simp only [okF, codeK.start, Bool.and_eq_true, decide_eq_true_eq] at h3
        exact h3
      have HE := Lib.hid hE
      have HFK := Lib.hid hfk
      have HFM := Lib.hid hfm
      have HFOK := Lib.hid hfok
      have HBYT := Lib.hid hby
      have zb : fb < wr.heap.size := Nat.lt_trans hbG hz1
      have HbG : Hid (fb < w1.heap.size) := Lib.hid hbG
      have hbl : Below w1.heap.size wr (wr.alloc (.cells #[.func (.func fn0) #[] cap0, .func (.func fn1) #[] cap1, .func (.func fn2) #[] cap2, .func (.func fn3) #[] cap3, .func (.func fn4) #[] cap4] 60)) := (Below.refl _ _).alloc (Nat.le_of_lt hz1) _
      have HC0 := Lib.hid (Do.calls (ok_do (x := ⟨op, a, b, n, imm⟩) (HE.out.below hbl) hfok hby))
      have HBL := Lib.hid hbl
      have HOKB : Hid True := Lib.hid trivial
      clear hE hfk hfm hfok hby hbl hbG HOKB
      unfold Okd insC at HC0
      cases hok : okF f ⟨op, a, b, n, imm⟩ with
      | false =>
        rw [hok] at HC0
        have HNO : Hid (rightB ⟨op, a, b, n, imm⟩ = false) := Lib.hid (by rw [HRB.out]; rw [show fs.all (okF · ⟨op, a, b, n, imm⟩) = false from by rw [List.all_eq_false]; exact ⟨f, HFM.out, by rw [hok]; decide⟩]; rfl)
        clear hok
        go_wp2_with (refine HC0.out.mono ?_; rintro e w2 ⟨rfl, hB2⟩; have HB2 := Lib.hid hB2; clear hB2)
        go_ret
        exact ⟨by rw [HNO.out]; rfl, HB00.out.trans ((HBr.out.trans (HBL.out.trans (HB2.out.mono (by simp; omega)))).mono (Nat.le_of_lt zz))⟩
      | true =>
        rw [hok] at HC0
        have HOKF := Lib.hid hok; clear hok
        have HLEN : Hid (((fs.take k).flatMap (wrF · ⟨op, a, b, n, imm⟩) ++ wrF f ⟨op, a, b, n, imm⟩).length ≤ 1000000) := Lib.hid (by
          have h1 := flat_len _ HX.out (fs.take k) HOK.out
          have h2 := wr_len f _ HX.out HOKF.out
          rw [List.length_take] at h1
          rw [List.length_append]
          omega)
        go_wp2_with (first
          | (refine HC0.out.mono ?_; rintro e w2 ⟨rfl, hB2⟩; have hb2 : Below wr.heap.size wr w2 := Below.trans ((Below.refl _ _).alloc (Nat.le_refl _) _) (hB2.mono (by simp)); have hj : Has w2 wr.heap.size 60 #[.func (.func fn0) #[] cap0, .func (.func fn1) #[] cap1, .func (.func fn2) #[] cap2, .func (.func fn3) #[] cap3, .func (.func fn4) #[] cap4] := (Has.new wr _ _).below hB2 (by simp); have j1 : w2.cell? ⟨wr.heap.size, 1, none⟩ = some (.func (.func fn1) #[] cap1) := hj.cell 1; have zr : wr.heap.size < w2.heap.size := hj.lt; have hW2 := HW.out.below hb2; have HC1 := Lib.hid (Do.calls (wr_do (HE.out.below (hb2.mono (Nat.le_of_lt hz1))) HFOK.out HOKF.out HX.out hW2 (Nat.lt_succ_self _) (by omega) HLEN.out)); have HB2 := Lib.hid hb2; clear hB2 hb2 hj hW2)
          | (refine HC1.out.mono ?_; rintro e w3 ⟨⟨u, rfl⟩, bv', hW3, hR3⟩; have HW3 := Lib.hid hW3; have HR3 := Lib.hid hR3; clear hW3 hR3))
        go_roundw
        case rel =>
          refine ⟨k + 1, bv', by omega, by go_num, Lib.hid ?_, Lib.hid ?_, Lib.hid ?_⟩
          · rw [take_flat fs _ hlt, ← HFK.out]; exact HW3.out
          · intro f' hf'
            rw [List.take_succ_eq_append_getElem hlt] at hf'
            rcases List.mem_append.1 hf' with h1 | h1
            · exact HOK.out _ h1
            · simp at h1; rw [h1, ← HFK.out]; exact HOKF.out
          · exact HBr.out.trans ((HB2.out.mono (Nat.le_of_lt hz1)).trans (HR3.out.below (Nat.le_refl _) (by omega) (fun j hj => by have := (HW.out.2.lt j hj).1; omega)))
        case measure => simp [intOf]; omega
    · obtain rfl : k = fs.length := by omega
      rw [List.take_length] at HW HOK
      obtain ⟨wo, rfl⟩ : ∃ wo : World, wo = wr := ⟨_, rfl⟩
      have HBYS : Hid (∀ c ∈ fs.flatMap (wrF · ⟨op, a, b, n, imm⟩), Byte c) := Lib.hid (fun c hc => by
        obtain ⟨f, hf, hc⟩ := List.mem_flatMap.1 hc
        exact wr_byte (HFO.out f hf) (HOK.out f hf) c hc)
      obtain ⟨bA, bn, bc, rfl⟩ : ∃ A n c, bv = .slice A n c := by obtain ⟨A, c, h⟩ := own_slice HW.out.2; exact ⟨A, _, c, h⟩
      have HSL := Lib.hid (Sl.of_own HW.out.2)
      have e0 : wo.cell? ⟨w1.heap.size, 0, none⟩ = some (.slice bA bn bc) := HW.out.1.cell 0
      have ef : wo.frozen? ⟨w1.heap.size, 0, none⟩ = false := HW.out.1.frozen 0
      go_wp2_with fail
      go_region_law (fail)
      all_goals
        have hRd0 : RdH (wo.drew.alloc (.cells #[.slice bA bn bc, .int .i64 0, .int .i64 op, .int .i64 0, .int .i64 0, .int .i64 0, .int .u64 0, .nilIface] 86)) wo.heap.size (.slice bA bn bc) 0 (zero op) .nilIface := Has.new wo.drew _ _
        have HRd0 := Lib.hid hRd0
        clear hRd0
        have HO0 : Hid (Only wo.heap.size wo (wo.drew.alloc (.cells #[.slice bA bn bc, .int .i64 0, .int .i64 op, .int .i64 0, .int .i64 0, .int .i64 0, .int .u64 0, .nilIface] 86))) := Lib.hid (Only.of_below ((Below.refl _ _).drew.alloc (Nat.le_refl _) _) (Nat.le_refl _))
        go_wp2
        go_loopw [52] (fun i wr => ∃ k : Nat, k ≤ fs.length ∧ i = .int .i64 (k : Nat) ∧ Hid (RdH wr wo.heap.size (.slice bA bn bc) ((fs.take k).flatMap (wrF · ⟨op, a, b, n, imm⟩)).length (setAll (fs.take k) ⟨op, a, b, n, imm⟩ (zero op)) .nilIface) ∧ Hid (Only wo.heap.size wo wr)) (fun i _ => fs.length - (intOf i).toNat)
        case atStart => exact ⟨0, Nat.zero_le _, rfl, HRd0, HO0⟩
        case round =>
          obtain ⟨k, hk2, rfl, HRq, HOq⟩ := hrel
          clear HRd0 HO0
          have zq : wo.heap.size < wr.heap.size := Has.lt HRq.out
          have hBq := HOq.out.below
          have hHq := HHr.out.below hBq z0
          have p0 : wr.cell? ⟨w.heap.size, 0, none⟩ = some (.int .i64 op) := hHq.cell 0
          have p1 : wr.cell? ⟨w.heap.size, 1, none⟩ = some (.int .i64 a) := hHq.cell 1
          have p2 : wr.cell? ⟨w.heap.size, 2, none⟩ = some (.int .i64 b) := hHq.cell 2
          have p3 : wr.cell? ⟨w.heap.size, 3, none⟩ = some (.int .i64 n) := hHq.cell 3
          have p4 : wr.cell? ⟨w.heap.size, 4, none⟩ = some (.int .u64 imm) := hHq.cell 4
          have zw : w.heap.size < wr.heap.size := by omega
          have HSq := Lib.hid (HSr.out.belowF FieldE_mono (fun b hb => hb) (hBq.mono (Nat.le_of_lt hz1)))
          have HBq := Lib.hid hBq
          clear hHq hBq q0 q1 q2 q3 q4 e0 ef
          by_cases hlt2 : k < fs.length
          · obtain ⟨fb, off, c0, c1, c2, c3, c4, rfl, hbG, hE, e0, e1, e2, e3, e4⟩ := slk_get HSq.out hlt2
            obtain ⟨f, hfk⟩ : ∃ f, f = fs[k] := ⟨_, rfl⟩
            rw [← hfk] at hE
            have hfm : f ∈ fs := by rw [hfk]; exact List.getElem_mem hlt2
            obtain ⟨fn0, cap0, fn1, cap1, fn2, cap2, fn3, cap3, fn4, cap4, rfl, rfl, rfl, rfl, rfl, hcf0, hcf1, hcf2⟩ := field_shape hE
            have zb : fb < wr.heap.size := by have : fb < w1.heap.size := hbG; omega
            have hbl : Below wr.heap.size wr (wr.alloc (.cells #[.func (.func fn0) #[] cap0, .func (.func fn1) #[] cap1, .func (.func fn2) #[] cap2, .func (.func fn3) #[] cap3, .func (.func fn4) #[] cap4] 60)) := (Below.refl _ _).alloc (Nat.le_refl _) _
            have hdr := drop_flat fs ⟨op, a, b, n, imm⟩ hlt2
            have hpl : ((fs.take k).flatMap (wrF · ⟨op, a, b, n, imm⟩)).length ≤ (fs.flatMap (wrF · ⟨op, a, b, n, imm⟩)).length := flat_take_le _ _ _
            have HC2 := Lib.hid (Do.calls (rd_do (hE.below (hbl.mono (by omega))) (HFO.out f hfm) (by show ¬ (wo.heap.size < w1.heap.size); omega) (by exact Has.alloc HRq.out _) ((HSL.out.below HBq.out).below (hbl.mono (Nat.le_of_lt zq))) hpl HBYS.out))
            have hrw := rd_wr (HOK.out f hfm) HX.out (setAll (fs.take k) ⟨op, a, b, n, imm⟩ (zero op)) ((fs.drop (k + 1)).flatMap (wrF · ⟨op, a, b, n, imm⟩))
            have HRW : Hid (rdF f ((fs.flatMap (wrF · ⟨op, a, b, n, imm⟩)).drop ((fs.take k).flatMap (wrF · ⟨op, a, b, n, imm⟩)).length) (setAll (fs.take k) ⟨op, a, b, n, imm⟩ (zero op)) = .got ((fs.drop (k + 1)).flatMap (wrF · ⟨op, a, b, n, imm⟩)) ((setAll (fs.take k) ⟨op, a, b, n, imm⟩ (zero op)).put f.wh (Ins.at_ ⟨op, a, b, n, imm⟩ f.wh))) := Lib.hid (by rw [hdr, ← hfk]; exact hrw)
            have HFK := Lib.hid hfk
            have HBL := Lib.hid hbl
            clear hE hfk hfm hbl hbG hdr hpl hrw
            go_wp2_with (refine HC2.out.mono ?_; intro e w3 h; obtain ⟨⟨u, rfl⟩, hO, hM⟩ := h; have HO3 := Lib.hid hO; have HM3 := Lib.hid hM; clear hO hM)
            go_roundw
            case rel =>
              refine ⟨k + 1, by omega, by go_num, Lib.hid ?_, Lib.hid ?_⟩
              · have hM := HM3.out
                rw [HRW.out] at hM
                simp only [] at hM
                rw [flat_rest fs _ hlt2] at hM
                rw [setAll_take fs _ _ hlt2, ← HFK.out]
                exact hM
              · exact HOq.out.trans ((Only.of_below HBL.out (Nat.le_of_lt zq)).trans HO3.out)
            case measure => simp [intOf]; omega
          · obtain rfl : k = fs.length := by omega
            rw [List.take_length] at HRq
            obtain ⟨Y, hY⟩ : ∃ Y, Y = setAll fs ⟨op, a, b, n, imm⟩ (zero op) := ⟨_, rfl⟩
            rw [← hY] at HRq
            have HY : Hid (rightB ⟨op, a, b, n, imm⟩ = decide (Y = ⟨op, a, b, n, imm⟩)) := Lib.hid (by rw [HRB.out, hY, List.all_eq_true.2 HOK.out]; rfl)
            obtain ⟨y0, y1, y2, y3, y4⟩ := Y
            clear hY
            obtain ⟨D, hD⟩ : ∃ D, D = decide ((⟨y0, y1, y2, y3, y4⟩ : Ins) = ⟨op, a, b, n, imm⟩) := ⟨_, rfl⟩
            have heq : ∀ W, (binOp .eql 25 (.agg #[.int .i64 y0, .int .i64 y1, .int .i64 y2, .int .i64 y3, .int .u64 y4]) (.agg #[.int .i64 op, .int .i64 a, .int .i64 b, .int .i64 n, .int .u64 imm])).run Tryz.prog W = .ok (.bool D) W := fun W => by rw [hD]; exact eql_ins ⟨y0, y1, y2, y3, y4⟩ ⟨op, a, b, n, imm⟩ W
            have HD := Lib.hid hD; clear hD
            have r2 : wr.cell? ⟨wo.heap.size, 2, none⟩ = some (.int .i64 y0) := Has.cell HRq.out 2
            have r3 : wr.cell? ⟨wo.heap.size, 3, none⟩ = some (.int .i64 y1) := Has.cell HRq.out 3
            have r4 : wr.cell? ⟨wo.heap.size, 4, none⟩ = some (.int .i64 y2) := Has.cell HRq.out 4
            have r5 : wr.cell? ⟨wo.heap.size, 5, none⟩ = some (.int .i64 y3) := Has.cell HRq.out 5
            have r6 : wr.cell? ⟨wo.heap.size, 6, none⟩ = some (.int .u64 y4) := Has.cell HRq.out 6
            go_wp2
            go_quiet (fail)
            go_wp2
            go_ret
            exact ⟨by rw [HY.out, ← HD.out]; rfl, HB00.out.trans (Go.Bus.below_drewN ((HBr.out.trans (HBq.out.mono (Nat.le_of_lt hz1))).mono (Nat.le_of_lt zz)) _)⟩
end codeW
end Go.Proofs.YtbbfpbmogklomaaGreatDoor

namespace Go.Proofs.YtbbfpbmogklomaaGreatDoor
open Go.RowKit Go.Bus Go.Bus.cellK Go.Bus.codeK
set_option linter.unusedVariables false
set_option linter.unusedSimpArgs false
namespace codeW
theorem right_any {x : Ins} {mv : Value} (w : World) (hM : MadeE w (Old w.heap.size) mv) (hx : x.Ok) : Calls Tryz.prog 26 #[mv, .agg (insC x).toArray] w fun e w' => e = .returned (.bool (rightB x)) ∧ Below w.heap.size w w' := by
  cases hf : fieldsOf x.op with
  | none =>
    refine (right_no w hM hf).mono ?_
    rintro e w' ⟨rfl, hb⟩
    exact ⟨by unfold rightB; rw [hf], hb⟩
  | some fs => exact right_yes w hM hf hx
theorem Boxes.avoid {w : World} {F : Foot} {h : Wh} {lo hi : Int} {s : ByteArray} {b0 b1 b2 b3 g T : Nat} {cs : Array Value} (k : Boxes w F h lo hi s b0 b1 b2 b3) (hg : Has w g T cs) (h1 : T ≠ 126) (h2 : T ≠ 3) (h3 : T ≠ 9) : Boxes w (fun b => F b ∧ b ≠ g) h lo hi s b0 b1 b2 b3 := by
  have key : ∀ {b T' : Nat} {cs' : Array Value}, Has w b T' cs' → T ≠ T' → b ≠ g := by
    intro b T' cs' hb hne e
    subst e
    unfold Has at hb hg
    rw [hb] at hg
    cases hg
    exact hne rfl
  exact ⟨⟨k.f0, key k.h0 h1⟩, ⟨k.f1, key k.h1 h2⟩, ⟨k.f2, key k.h2 h2⟩, ⟨k.f3, key k.h3 h3⟩, k.h0, k.h1, k.h2, k.h3⟩
theorem FieldE.avoid {w : World} {F : Foot} {cs : List Value} {f : Fk} {g T : Nat} {cg : Array Value} (h : FieldE w F cs f) (hg : Has w g T cg) (h1 : T ≠ 126) (h2 : T ≠ 3) (h3 : T ≠ 9) : FieldE w (fun b => F b ∧ b ≠ g) cs f := by
  obtain ⟨b0, b1, b2, b3, hc, hB⟩ := h
  exact ⟨b0, b1, b2, b3, hc, fun h' lo hi s e => (hB h' lo hi s e).avoid hg h1 h2 h3⟩
theorem slk_avoid {w : World} {F : Foot} {v : Value} {fs : List Fk} {g T : Nat} {cg : Array Value} (h : SlK 5 FieldE w F v fs) (ho : ∀ k, v.ownBlock = some k → k ≠ g) (hg : Has w g T cg) (h1 : T ≠ 126) (h2 : T ≠ 3) (h3 : T ≠ 9) : SlK 5 FieldE w (fun b => F b ∧ b ≠ g) v fs := by
  obtain ⟨xs, ⟨A, cap, rfl, hl, hc, hx, h0⟩, hR⟩ := h
  refine ⟨xs, ⟨A, cap, rfl, hl, hc, hx, fun hn => ?_⟩, fun i x hi => (hR i x hi).avoid hg h1 h2 h3⟩
  obtain ⟨b, off, rfl, hb, hr⟩ := h0 hn
  exact ⟨b, off, rfl, ⟨hb, ho b rfl⟩, hr⟩
/-- Fields that a writer's turns leave as they are. -/
def Far (w : World) (G : Nat) (bv : Value) : Foot := fun b => b < w.heap.size ∧ b ≠ G ∧ bv.ownBlock ≠ some b
theorem slk_far {w : World} {v : Value} {fs : List Fk} {G base H : Nat} {bv : Value} {bs : List Int} {x : Ins} (h : SlK 5 FieldE w (Old w.heap.size) v fs) (ho : ∀ k, v.ownBlock = some k → H ≤ k) (hW : Wr w G base bv bs x) (hG : G < H) (hb : ∀ k, bv.ownBlock = some k → k < H) : SlK 5 FieldE w (Far w G bv) v fs := by
  have h1 := slk_avoid h (g := G) (fun k hk => by have := ho k hk; omega) hW.1 (by decide) (by decide) (by decide)
  rcases hW.2.2 with ⟨rfl, _⟩ | ⟨g, cap, cur, rfl, _, hg, _⟩
  · exact h1.more FieldE_mono fun b hb' => ⟨hb'.1, hb'.2, by simp [Value.ownBlock]⟩
  · have h2 := slk_avoid h1 (g := g) (fun k hk => by have := ho k hk; have := hb g rfl; omega) (show Has w g _ _ from hg) (by decide) (by decide) (by decide)
    exact h2.more FieldE_mono fun b hb' => ⟨hb'.1.1, hb'.1.2, by simp [Value.ownBlock]; exact fun e => hb'.2 e.symm⟩
theorem far_keep {w w' : World} {G : Nat} {bv bv' : Value} (h : Wro w w' G bv bv') : ∀ b, Far w G bv b → w'.heap[b]? = w.heap[b]? := fun b hb => h.block b hb.1 hb.2.1 hb.2.2
/-- The writer's instruction, stored anew. -/
theorem Wr.setx {w : World} {G base : Nat} {v : Value} {bs : List Int} {y x : Ins} (h : Wr w G base v bs y) (hG : G < base) :
    Wr (((((w.setCell ⟨G, 1, none⟩ (.int .i64 x.op)).setCell ⟨G, 2, none⟩ (.int .i64 x.a)).setCell ⟨G, 3, none⟩ (.int .i64 x.b)).setCell ⟨G, 4, none⟩ (.int .i64 x.n)).setCell ⟨G, 5, none⟩ (.int .u64 x.imm)) G base v bs x := by
  refine ⟨((((h.1.set 1 _).set 2 _).set 3 _).set 4 _).set 5 _, ?_⟩
  exact ownsRow_setCell_below (ownsRow_setCell_below (ownsRow_setCell_below (ownsRow_setCell_below (ownsRow_setCell_below h.2 (by exact hG) _) (by exact hG) _) (by exact hG) _) (by exact hG) _) (by exact hG) _
theorem Wro.set {w w' : World} {G : Nat} {v v' : Value} (h : Wro w w' G v v') (i : Nat) (u : Value) : Wro w (w'.setCell ⟨G, i, none⟩ u) G v v' :=
  ⟨h.os, h.tape, h.output, by simpa using h.size, fun k hk hg hv => (heap_setCell_other _ _ _ _ (by exact hg)).trans (h.block k hk hg hv), h.own⟩
def firstBad (p : List Ins) : Option Nat := p.findIdx? (fun x => !rightB x)
theorem encP_take (p : List Ins) {k : Nat} (h : k < p.length) : encP (p.take (k + 1)) = encP (p.take k) ++ encI p[k] := by
  rw [List.take_succ_eq_append_getElem h, encP_append]
  unfold encP; simp
theorem encI_len {x : Ins} (hx : x.Ok) (h : rightB x = true) : (encI x).length ≤ 41 := by
  obtain ⟨fs, h1, h2, _⟩ := right_some h
  unfold encI bodyI
  rw [h1, List.length_cons]
  have h3 := flat_len x hx fs h2
  have h4 := fields_len h1
  show (fs.flatMap (wrF · x)).length + 1 ≤ 41
  omega
theorem encP_len : ∀ (p : List Ins), (∀ x ∈ p, x.Ok ∧ rightB x = true) → (encP p).length ≤ 41 * p.length
  | [], _ => by simp [encP]
  | x :: p, h => by
    have h1 := encI_len (h x (List.mem_cons_self ..)).1 (h x (List.mem_cons_self ..)).2
    have h2 := encP_len p fun y hy => h y (List.mem_cons_of_mem _ hy)
    unfold encP at h2 ⊢
    rw [List.flatMap_cons, List.length_append, List.length_cons]
    omega
end codeW
end Go.Proofs.YtbbfpbmogklomaaGreatDoor
