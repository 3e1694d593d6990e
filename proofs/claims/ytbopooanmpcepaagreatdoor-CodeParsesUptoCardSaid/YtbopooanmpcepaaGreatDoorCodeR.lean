/- right: whether an instruction is right. No condition. -/
import Derived.Test.YtbopooanmpcepaaGreatDoorCodeDo
import Derived.Deep.QuietTactic
import Derived.BigQuiet
import Derived.Outline
namespace Go.Proofs.YtbopooanmpcepaaGreatDoor
open Go.RowKit Go.Bus Go.Bus.cellK Go.Bus.codeK
set_option linter.unusedVariables false
set_option linter.unusedSimpArgs false
namespace codeW
theorem Do.calls {fn : FuncId} {cap args : Array Value} {w : World} {R : Ending → World → Prop} (h : Do (.func (.func fn) #[] cap) args w R) : Calls Tryz.prog fn (args ++ cap) w R := by
  obtain ⟨f, cap', hc, _, hC⟩ := h
  obtain ⟨rfl, rfl⟩ : fn = f ∧ cap = cap' := by simpa using hc
  exact hC
theorem field_shape {f : Fk} {c0 c1 c2 c3 c4 : Value} {F : Foot} {w : World} (hE : FieldE w F [c0, c1, c2, c3, c4] f) : ∃ fn0 cap0 fn1 cap1 fn2 cap2 fn3 cap3 fn4 cap4, c0 = .func (.func fn0) #[] cap0 ∧ c1 = .func (.func fn1) #[] cap1 ∧ c2 = .func (.func fn2) #[] cap2 ∧ c3 = .func (.func fn3) #[] cap3 ∧ c4 = .func (.func fn4) #[] cap4 ∧
    (∀ xs w, (callFunc fn0 xs).run Tryz.prog w = .ok (.enter fn0 xs) w) ∧ (∀ xs w, (callFunc fn1 xs).run Tryz.prog w = .ok (.enter fn1 xs) w) ∧ (∀ xs w, (callFunc fn2 xs).run Tryz.prog w = .ok (.enter fn2 xs) w) := by
  obtain ⟨b0, b1, b2, b3, hc, _⟩ := hE
  injection hc with h0 hc
  injection hc with h1 hc
  injection hc with h2 hc
  injection hc with h3 hc
  injection hc with h4 hc
  subst h0 h1 h2 h3 h4
  cases f <;> exact ⟨_, _, _, _, _, _, _, _, _, _, rfl, rfl, rfl, rfl, rfl, fun _ _ => by kernel_rfl, fun _ _ => by kernel_rfl, fun _ _ => by kernel_rfl⟩
theorem FieldE.below {w w' : World} {B : Nat} {cs : List Value} {f : Fk} (h : FieldE w (Old B) cs f) (hb : Below B w w') : FieldE w' (Old B) cs f := FieldE.later h (fun _ h => h) (fun _ h => h) hb
theorem own_slice {w : World} {base : Nat} {e : TypeId} {size : Nat} {v : Value} {n : Nat} {xs : List Value} (h : w.ownsRow base e size v n xs) : ∃ A c, v = .slice A n c := by
  rcases h.2 with ⟨rfl, rfl⟩ | ⟨g, cap, cur, rfl, _⟩
  · exact ⟨_, _, rfl⟩
  · exact ⟨_, _, rfl⟩
theorem Wr.below {w w' : World} {g base : Nat} {v : Value} {bs : List Int} {x : Ins} (h : Wr w g base v bs x) (hb : Below w.heap.size w w') : Wr w' g base v bs x := ⟨h.1.below hb h.1.lt, own_kept h.2 hb⟩
theorem MadeE.old {w w' : World} {v : Value} (h : MadeE w (Old w.heap.size) v) (hb : Below w.heap.size w w') : MadeE w' (Old w'.heap.size) v := h.keep (fun b hb' => Nat.lt_of_lt_of_le hb' hb.size) (fun b hb' => hb.block b hb')
theorem take_flat (fs : List Fk) (x : Ins) {k : Nat} (h : k < fs.length) : (fs.take (k + 1)).flatMap (wrF · x) = (fs.take k).flatMap (wrF · x) ++ wrF fs[k] x := by
  rw [List.take_succ_eq_append_getElem h, List.flatMap_append]; simp
theorem flat_split (fs : List Fk) (x : Ins) {k : Nat} (h : k < fs.length) : fs.flatMap (wrF · x) = (fs.take k).flatMap (wrF · x) ++ (wrF fs[k] x ++ (fs.drop (k + 1)).flatMap (wrF · x)) := by
  have h1 : fs = fs.take k ++ (fs[k] :: fs.drop (k + 1)) := by rw [← List.drop_eq_getElem_cons h, List.take_append_drop]
  have h2 : fs.flatMap (wrF · x) = (fs.take k ++ (fs[k] :: fs.drop (k + 1))).flatMap (wrF · x) := by rw [← h1]
  rw [h2, List.flatMap_append, List.flatMap_cons]
theorem drop_flat (fs : List Fk) (x : Ins) {k : Nat} (h : k < fs.length) : (fs.flatMap (wrF · x)).drop ((fs.take k).flatMap (wrF · x)).length = wrF fs[k] x ++ (fs.drop (k + 1)).flatMap (wrF · x) := by
  rw [flat_split fs x h, List.drop_left]
theorem flat_take_le (fs : List Fk) (x : Ins) (k : Nat) : ((fs.take k).flatMap (wrF · x)).length ≤ (fs.flatMap (wrF · x)).length := by
  have h2 : fs.flatMap (wrF · x) = (fs.take k ++ fs.drop k).flatMap (wrF · x) := by rw [List.take_append_drop]
  rw [h2, List.flatMap_append, List.length_append]; omega
theorem flat_rest (fs : List Fk) (x : Ins) {k : Nat} (h : k < fs.length) : (fs.flatMap (wrF · x)).length - ((fs.drop (k + 1)).flatMap (wrF · x)).length = ((fs.take (k + 1)).flatMap (wrF · x)).length := by
  have h2 : fs.flatMap (wrF · x) = (fs.take (k + 1) ++ fs.drop (k + 1)).flatMap (wrF · x) := by rw [List.take_append_drop]
  rw [h2, List.flatMap_append, List.length_append]; omega
theorem setAll_take (fs : List Fk) (x y : Ins) {k : Nat} (h : k < fs.length) : setAll (fs.take (k + 1)) x y = (setAll (fs.take k) x y).put fs[k].wh (x.at_ fs[k].wh) := by
  rw [List.take_succ_eq_append_getElem h]
  unfold setAll
  rw [List.foldl_append]; rfl
theorem wr_len (f : Fk) (x : Ins) (hx : x.Ok) (ho : okF f x = true) : (wrF f x).length ≤ 10 := by
  have key : ∀ (j : Nat) (v : Nat), v < 128 ^ j → (sev v).length ≤ max j 1 := by
    intro j
    induction j with
    | zero => intro v hv; rw [sev_lt (by simp at hv; omega)]; simp
    | succ j ih =>
      intro v hv
      by_cases h : v < 128
      · rw [sev_lt h]; simp
      · rw [sev_ge h, List.length_cons]
        have := ih (v / 128) (by rw [Nat.pow_succ, Nat.mul_comm] at hv; exact Nat.div_lt_of_lt_mul hv)
        have hj : j ≠ 0 := by intro h0; subst h0; simp at hv; omega
        omega
  cases f with
  | small h lo hi s => simp [wrF]
  | bytes => simp [wrF]
  | skip => have := key 10 x.n.toNat (by simp only [okF, Bool.and_eq_true, decide_eq_true_eq] at ho; exact Nat.lt_of_le_of_lt (show x.n.toNat ≤ 16384 by omega) (by decide)); simpa [wrF] using this
  | number => have := key 10 x.imm.toNat (by have := hx.imm; exact Nat.lt_of_lt_of_le (show x.imm.toNat < 18446744073709551616 by omega) (by decide)); simpa [wrF] using this
  | sign => have := key 10 x.imm.toNat (by have := hx.imm; exact Nat.lt_of_lt_of_le (show x.imm.toNat < 18446744073709551616 by omega) (by decide)); simpa [wrF] using this
theorem flat_len (x : Ins) (hx : x.Ok) : ∀ (fs : List Fk), (∀ f ∈ fs, okF f x = true) → (fs.flatMap (wrF · x)).length ≤ 10 * fs.length
  | [], _ => by simp
  | f :: fs, h => by
    rw [List.flatMap_cons, List.length_append, List.length_cons]
    have h1 := wr_len f x hx (h f (List.mem_cons_self ..))
    have h2 := flat_len x hx fs fun g hg => h g (List.mem_cons_of_mem _ hg)
    omega
set_option maxRecDepth 100000 in
set_option maxHeartbeats 1000000 in
theorem right_no {x : Ins} {mv : Value} (w : World) (hM : MadeE w (Old w.heap.size) mv) (hf : fieldsOf x.op = none) : Calls Tryz.prog 15 #[mv, .agg (insC x).toArray] w fun e w' => e = .returned (.bool false) ∧ Below w.heap.size w w' := by
  obtain ⟨op, a, b, n, imm⟩ := x
  have HM := Lib.hid hM; clear hM
  have HF : Hid (fieldsOf op = none) := Lib.hid hf
  clear hf
  unfold insC
  go_enter Tryz.func15, Tryz.ntmps15
  go_wp2_with (go_at_call 16; refine (of_no _ (HM.out.old (by repeat' (first | (with_reducible assumption) | (with_reducible refine Below.setCell ?_ ?_ _) | (with_reducible refine Below.alloc ?_ ?_ _) | (with_reducible refine Below.drew ?_) | (with_reducible refine below_drewN ?_ _) | (with_reducible exact Below.refl _ _) | (show _ ≤ _; (try simp); (try omega); done) | exact Below.refl _ _ | assumption))) HF.out).mono ?_; rintro e w1 ⟨rfl, rfl⟩)
  go_ret
  exact ⟨rfl, (by repeat' (first | (with_reducible assumption) | (with_reducible refine Below.setCell ?_ ?_ _) | (with_reducible refine Below.alloc ?_ ?_ _) | (with_reducible refine Below.drew ?_) | (with_reducible refine below_drewN ?_ _) | (with_reducible exact Below.refl _ _) | (show _ ≤ _; (try simp); (try omega); done) | exact Below.refl _ _ | assumption))⟩
end codeW
end Go.Proofs.YtbopooanmpcepaaGreatDoor
