/- busbarlaw12.knownFields. Conditions: the library's tables and some of its errors are laid, variables of the library's hold some ints. -/
import Derived.Test.YtbbfpbmogklomaaGreatDoorZKy
import Derived.Test.YtbbfpbmogklomaaGreatDoorZKv
import Derived.Test.YtbbfpbmogklomaaGreatDoorZKr
import Derived.Test.YtbbfpbmogklomaaGreatDoorZKn
import Derived.StillTailTactics
import Derived.Deep.DeepCutAuto
namespace Go.Proofs.YtbbfpbmogklomaaGreatDoor
open Go.RowKit Go.Bus Go.Bus.cellK Go.Bus.codeK
set_option linter.unusedVariables false
set_option linter.unusedSimpArgs false
namespace codeW
def endsK : List Int := [-9223372036854775808, -1, 0, 1, 2, 6, 7, 8, 9, 15, 16, 63, 64, 65, 255, 256, 16384, 16385, 9223372036854775807]
def immsK : List Int := [0, 1, 2, 127, 128, 16383, 16384, 9223372036854775808, 18446744073709551615]
theorem endsK_in : ∀ x ∈ endsK, -9223372036854775808 ≤ x ∧ x ≤ 9223372036854775807 := by decide
theorem immsK_in : ∀ x ∈ immsK, 0 ≤ x ∧ x < 18446744073709551616 := by decide
theorem endsK_cell : ∀ j (h : j < endsK.length), (#[.int .i64 (-9223372036854775808), .int .i64 (-1), .int .i64 0, .int .i64 1, .int .i64 2, .int .i64 6, .int .i64 7, .int .i64 8, .int .i64 9, .int .i64 15, .int .i64 16, .int .i64 63, .int .i64 64, .int .i64 65, .int .i64 255, .int .i64 256, .int .i64 16384, .int .i64 16385, .int .i64 9223372036854775807] : Array Value)[j]? = some (.int .i64 endsK[j]) := by
  intro j h
  have hn : j < 19 := h
  match j, hn with
  | 0, _ => rfl
  | 1, _ => rfl
  | 2, _ => rfl
  | 3, _ => rfl
  | 4, _ => rfl
  | 5, _ => rfl
  | 6, _ => rfl
  | 7, _ => rfl
  | 8, _ => rfl
  | 9, _ => rfl
  | 10, _ => rfl
  | 11, _ => rfl
  | 12, _ => rfl
  | 13, _ => rfl
  | 14, _ => rfl
  | 15, _ => rfl
  | 16, _ => rfl
  | 17, _ => rfl
  | 18, _ => rfl
  | m + 19, h => omega
theorem immsK_cell : ∀ j (h : j < immsK.length), (#[.int .u64 0, .int .u64 1, .int .u64 2, .int .u64 127, .int .u64 128, .int .u64 16383, .int .u64 16384, .int .u64 9223372036854775808, .int .u64 18446744073709551615] : Array Value)[j]? = some (.int .u64 immsK[j]) := by
  intro j h
  have hn : j < 9 := h
  match j, hn with
  | 0, _ => rfl
  | 1, _ => rfl
  | 2, _ => rfl
  | 3, _ => rfl
  | 4, _ => rfl
  | 5, _ => rfl
  | 6, _ => rfl
  | 7, _ => rfl
  | 8, _ => rfl
  | m + 9, h => omega
def fieldsL (op E Q M : Int) : List Ins := [⟨op, E, 0, 0, 0⟩, ⟨op, 0, E, 0, 0⟩, ⟨op, 0, 0, E, 0⟩, ⟨op, 0, 7, E, 0⟩, ⟨op, 0, E, 1, 0⟩, ⟨op, 0, Q, 8 - Q, 0⟩, ⟨op, 15, E, 3, 1⟩, ⟨op, E, 5, 3, M⟩, ⟨op, 0, 0, 0, M⟩, ⟨op, 0, 0, E, M⟩]
theorem fieldsL_ok {op E Q M : Int} (ho : -1 ≤ op ∧ op ≤ 20) (hE : -9223372036854775808 ≤ E ∧ E ≤ 9223372036854775807) (hQ : -8 ≤ Q ∧ Q ≤ 8) (hM : 0 ≤ M ∧ M < 18446744073709551616) : ∀ x ∈ fieldsL op E Q M, x.Ok := by
  intro x hx
  unfold fieldsL at hx
  simp only [List.mem_cons, List.not_mem_nil, or_false] at hx
  rcases hx with rfl | rfl | rfl | rfl | rfl | rfl | rfl | rfl | rfl | rfl <;> (constructor <;> simp only <;> omega)
theorem szIns : (sizeOf (Tryz.prog.elem 26)).run Tryz.prog = fun W => .ok 5 W := by kernel_rfl
theorem slice_kk (g n k : Nat) (h : k < n) (z : Int) (hz : z = (k : Int) + 1) (W : World) : (Instr.slice 26 (.slice (some ⟨g, 0, none⟩) n n) (some (.int .i64 (k : Nat))) (some (.int .i64 z)) none).run Tryz.prog W = .ok (.slice (some ⟨g, 0 + k * 5, none⟩) 1 (n - k)) W := by
  subst hz
  rw [run_slice_lh W _ _ _ _ (by kernel_rfl) _ _ _ _ (by omega) (by omega) (by omega), szIns]
  have e : ((⟨g, 0, none⟩ : Addr).add (k * 5)) = ⟨g, 0 + k * 5, none⟩ := Addr.add_mid _ _ _
  simp only [Result.andThen, sliced, Int.toNat_natCast, Option.map_some, e, show ((k : Int) + 1).toNat = k + 1 from by omega]
  rw [if_neg (by omega), show k + 1 - k = 1 from by omega]
theorem slk_part {w : World} {g n : Nat} {l : List Ins} (h : Has w g 25 (l.flatMap insC).toArray) (hn : l.length = n) (hm : n ≤ 1000) {k : Nat} (hk : k < l.length) : SlK 5 insE w (Old w.heap.size) (.slice (some ⟨g, 0 + k * 5, none⟩) 1 (n - k)) [l[k]] := by
  refine ⟨insC l[k], ⟨_, _, rfl, by simp; omega, by unfold maxLen; omega, rfl, fun _ => ⟨g, _, rfl, h.lt, fun j u hj => ?_⟩⟩, fun i x hi => ?_⟩
  · rw [Nat.zero_add, h.cell]
    have h1 := Go.Bus.lentC.flat_elt (k := 5) (cells := insC) (fun _ => rfl) l k hk
    rw [← h1] at hj
    have := (eltOf_get hj).1
    simpa using this
  · match i, hi with
    | 0, hi => simp at hi; subst hi; rfl
    | m + 1, hi => simp at hi
theorem slk_all {w : World} {g n : Nat} {l : List Ins} (h : Has w g 25 (l.flatMap insC).toArray) (hn : l.length = n) (hm : n ≤ 1000) : SlK 5 insE w (Old w.heap.size) (.slice (some ⟨g, 0, none⟩) n n) l := by
  subst hn
  refine SlK.whole h (by rw [Go.Bus.lentC.flat_len (k := 5) (cells := insC) (fun _ => rfl)]) h.lt (by unfold maxLen; omega) (fun i x hi => ?_)
  obtain ⟨hl, rfl⟩ := List.getElem?_eq_some_iff.1 hi
  exact Go.Bus.lentC.flat_elt (k := 5) (cells := insC) (fun _ => rfl) l i hl
theorem slice_kk2 (g n k : Nat) (h : k < n) (W : World) : (Instr.slice 26 (.slice (some ⟨g, 0, none⟩) n n) (some (.int .i64 (k : Nat))) (some (.int .i64 ((k : Int) + 1))) none).run Tryz.prog W = .ok (.slice (some ⟨g, k * 5, none⟩) 1 (n - k)) W := by
  rw [slice_kk g n k h _ rfl W, Nat.zero_add]
theorem slk_part2 {w : World} {g n : Nat} {l : List Ins} (h : Has w g 25 (l.flatMap insC).toArray) (hn : l.length = n) (hm : n ≤ 1000) {k : Nat} (hk : k < l.length) : SlK 5 insE w (Old w.heap.size) (.slice (some ⟨g, k * 5, none⟩) 1 (n - k)) [l[k]] := by
  have h1 := slk_part h hn hm hk
  rw [Nat.zero_add] at h1
  exact h1
theorem rng_field {w : World} {g : Nat} {l : List Ins} (h : Has w g 25 (l.flatMap insC).toArray) {k : Nat} (hk : k < l.length) : w.rangeAt g (k * 5) (insC l[k]) := by
  intro j u hj
  rw [h.cell]
  have h1 := Go.Bus.lentC.flat_elt (k := 5) (cells := insC) (fun _ => rfl) l k hk
  rw [← h1] at hj
  have := (eltOf_get hj).1
  simpa using this
theorem load_mid_if {P : Program} {ops : Array Oper} {rest : List Oper} {o : Oper} {a : Act} {w : World} {Q : Exit → Act → World → Prop} (hw : Region.wanted o (yielded ops a.tmps) = true) (ty : TypeId) (x : Operand) (ho : o.op = .load ty x)
    (b off : Nat) (hx : a.eval x = .pointer (some ⟨b, off, none⟩)) (cs : List Value) (d : TypeDesc) (hc : w.rangeAt b off cs)
    (hu : P.underlying ty = some d) (hd : d.isRow = true) (hi : (P.info? ty).map (·.size) = some cs.length)
    (h : wpList P ops Q rest (a.put o.dst (.agg cs.toArray)) w) : wpList P ops Q (o :: rest) a w :=
  wpList_step fun K hK => by
    rw [if_pos hw]
    exact wp_load_mid ty x ho b off hx cs d hc hu hd hi (hK _ _ h)
theorem wpStill_go {P : Program} {ops : Array Oper} {Q : Act → Prop} {w : World} {a : Act} {o : Oper} {rest : List Oper} (hg : o.guard = none) (s : Sem Value) (hs : execOp a.eval o = (do let v ← s; pure (.value v)))
    (h : ∀ K : Act → World → Prop, (∀ a' w', w' = w → wpStill P ops w Q rest a' → K a' w') → o.wp P a w K (fun _ _ _ => False)) : wpStill P ops w Q (o :: rest) a := by
  have hw : Region.wanted o (yielded ops a.tmps) = true := by unfold Region.wanted; rw [hg]
  unfold wpStill
  rw [if_pos hw]
  have h1 := h (fun a' w' => w' = w ∧ wpStill P ops w Q rest a') (fun a' w' e hr => ⟨e, hr⟩)
  unfold Oper.wp at h1
  unfold Oper.still
  have e : (do let v ← s; pure (Next.value v) : Sem Next).run P w = (s.run P w).andThen (fun v w' => .ok (.value v) w') := by
    simp [go_sem]
  rw [hs, e] at h1 ⊢
  generalize s.run P w = r at h1 ⊢
  cases r with
  | ok v w' => exact h1
  | halt x w' => cases x <;> exact False.elim h1
theorem tmod9 (E : Int) : -8 ≤ E.tmod 9 ∧ E.tmod 9 ≤ 8 := by
  rcases Int.le_total 0 E with h | h
  · rw [Int.tmod_eq_emod_of_nonneg h]; omega
  · obtain ⟨F, rfl⟩ : ∃ F, E = -F := ⟨-E, by omega⟩
    rw [Int.neg_tmod, Int.tmod_eq_emod_of_nonneg (by omega)]; omega
set_option maxRecDepth 100000 in
set_option maxHeartbeats 16000000 in
theorem knownfields_any (w : World) (hG : asK.ErrT w) (hT : Tabs w) (hS : Sp w) (hM : Mx w) : Calls Tryz.prog 5 #[] w fun e w' => e = .returned (.bool true) ∧ Below w.heap.size w w' := by
  have HP : Hid (∀ W, Below w.heap.size w W → ∀ x : Ins, x.Ok → Calls Tryz.prog 13 #[.agg #[.int .i64 x.op, .int .i64 x.a, .int .i64 x.b, .int .i64 x.n, .int .u64 x.imm]] W fun e w' => e = .returned (.bool true) ∧ Below W.heap.size W w') := Lib.hid (fun W hw x h => prints_any W h (hG.at_below hw) (hT.at_below hw) (hS.at_below hw))
  have HL : Hid (∀ W, Below w.heap.size w W → ∀ x : Ins, x.Ok → Calls Tryz.prog 14 #[.agg #[.int .i64 x.op, .int .i64 x.a, .int .i64 x.b, .int .i64 x.n, .int .u64 x.imm]] W fun e w' => e = .returned (.bool true) ∧ Below W.heap.size W w') := Lib.hid (fun W hw x h => lines_any W h (hT.at_below hw) (hS.at_below hw) (hM.at_below hw))
  have HEN : Hid (∀ W, Below w.heap.size w W → ∀ (p : List Ins) v, SlK 5 insE W (Old W.heap.size) v p → (∀ x ∈ p, x.Ok) → p.length ≤ 1000 → Calls Tryz.prog 15 #[v] W fun e w' => e = .returned (.bool true) ∧ Below W.heap.size W w') := Lib.hid (fun W hw p v h hp hl => encodes_any W h hp (by omega) (hG.at_below hw))
  have HTH : Hid (∀ W, Below w.heap.size w W → ∀ (p : List Ins) v, SlK 5 insE W (Old W.heap.size) v p → (∀ x ∈ p, x.Ok) → Calls Tryz.prog 16 #[v] W fun e w' => e = .returned (.bool true) ∧ Below W.heap.size W w') := Lib.hid (fun W hw p v h hp => there_any W h hp (hG.at_below hw))
  have hi1 : (Tryz.prog.info? 25).map (·.size) = some 5 := by kernel_rfl
  have HI1 := Lib.hid hi1
  clear hG hT hS hM hi1
  go_enter Tryz.func5, Tryz.ntmps5
  go_wp2
  go_loopw [3] (fun ov wr => ∃ op : Int, ov = .int .i64 op ∧ -1 ≤ op ∧ op ≤ 21 ∧ Hid (Below w.heap.size w wr) ∧ Hid (Has wr w.heap.size 3 #[.int .i64 (-9223372036854775808), .int .i64 (-1), .int .i64 0, .int .i64 1, .int .i64 2, .int .i64 6, .int .i64 7, .int .i64 8, .int .i64 9, .int .i64 15, .int .i64 16, .int .i64 63, .int .i64 64, .int .i64 65, .int .i64 255, .int .i64 256, .int .i64 16384, .int .i64 16385, .int .i64 9223372036854775807]) ∧ Hid (Has wr (w.heap.size + 1) 23 #[.int .u64 0, .int .u64 1, .int .u64 2, .int .u64 127, .int .u64 128, .int .u64 16383, .int .u64 16384, .int .u64 9223372036854775808, .int .u64 18446744073709551615])) (fun ov _ => (21 - intOf ov).toNat)
  case atStart => exact ⟨-1, rfl, by decide, by decide, Lib.hid (by repeat' (first | (with_reducible assumption) | (with_reducible refine Below.setCell ?_ ?_ _) | (with_reducible refine Below.alloc ?_ ?_ _) | (with_reducible refine Below.drew ?_) | (with_reducible refine below_drewN ?_ _) | (with_reducible exact Below.refl _ _) | (show _ ≤ _; (try simp); (try omega); done) | exact Below.refl _ _ | assumption)), Lib.hid (by exact (Has.new w _ _).alloc _), Lib.hid (by have h := Has.new (w.alloc (.cells #[.int .i64 (-9223372036854775808), .int .i64 (-1), .int .i64 0, .int .i64 1, .int .i64 2, .int .i64 6, .int .i64 7, .int .i64 8, .int .i64 9, .int .i64 15, .int .i64 16, .int .i64 63, .int .i64 64, .int .i64 65, .int .i64 255, .int .i64 256, .int .i64 16384, .int .i64 16385, .int .i64 9223372036854775807] 3)) 23 #[.int .u64 0, .int .u64 1, .int .u64 2, .int .u64 127, .int .u64 128, .int .u64 16383, .int .u64 16384, .int .u64 9223372036854775808, .int .u64 18446744073709551615]; simpa using h)⟩
  case round =>
    obtain ⟨op, rfl, ho1, ho2, HBo, HEo, HMo⟩ := hrel
    by_cases hop : op ≤ 20
    · have dop : decide (op ≤ 20) = true := by simp; omega
      go_wp2
      go_loopw [4] (fun iv wr => ∃ i : Nat, iv = .int .i64 (i : Nat) ∧ i ≤ 19 ∧ Hid (Below w.heap.size w wr) ∧ Hid (Has wr w.heap.size 3 #[.int .i64 (-9223372036854775808), .int .i64 (-1), .int .i64 0, .int .i64 1, .int .i64 2, .int .i64 6, .int .i64 7, .int .i64 8, .int .i64 9, .int .i64 15, .int .i64 16, .int .i64 63, .int .i64 64, .int .i64 65, .int .i64 255, .int .i64 256, .int .i64 16384, .int .i64 16385, .int .i64 9223372036854775807]) ∧ Hid (Has wr (w.heap.size + 1) 23 #[.int .u64 0, .int .u64 1, .int .u64 2, .int .u64 127, .int .u64 128, .int .u64 16383, .int .u64 16384, .int .u64 9223372036854775808, .int .u64 18446744073709551615])) (fun iv _ => 19 - (intOf iv).toNat)
      case atStart => exact ⟨0, rfl, by decide, HBo, HEo, HMo⟩
      case round =>
        obtain ⟨i, rfl, hi, HBi, HEi, HMi⟩ := hrel
        by_cases hlt : i < 19
        · have hel : i < endsK.length := hlt
          obtain ⟨m, hm9, ht9⟩ : ∃ m : Nat, m < 9 ∧ (i : Int).tmod 9 = (m : Int) := ⟨i % 9, Nat.mod_lt _ (by decide), by rw [Int.tmod_eq_emod_of_nonneg (by omega)]; omega⟩
          have hml : m < immsK.length := hm9
          have hm90 : (0 : Int) ≤ (m : Int) := by omega
          have hm91 : (m : Int) < 9 := by omega
          have ce : wr.cell? ⟨w.heap.size, i, none⟩ = some (.int .i64 endsK[i]) := by rw [HEi.out.cell i]; exact endsK_cell i hel
          have cm : wr.cell? ⟨w.heap.size + 1, m, none⟩ = some (.int .u64 immsK[m]) := by rw [HMi.out.cell m]; exact immsK_cell _ hml
          have hEin := endsK_in _ (List.getElem_mem hel)
          have hMin := immsK_in _ (List.getElem_mem hml)
          generalize endsK[i] = E at *
          generalize immsK[m] = M at *
          have ze : w.heap.size < wr.heap.size := HEi.out.lt
          have zm : w.heap.size + 1 < wr.heap.size := HMi.out.lt
          obtain ⟨Q, hQ⟩ : ∃ Q : Int, E.tmod 9 = Q := ⟨_, rfl⟩
          have hQin : -8 ≤ Q ∧ Q ≤ 8 := by rw [← hQ]; exact tmod9 E
          have hQ1 := hQin.1
          have hQ2 := hQin.2
          have hw8 : IntKind.i64.wrap (8 - Q) = 8 - Q := by rw [IntKind.wrap_i64]; omega
          have HOK := Lib.hid (fieldsL_ok (op := op) (E := E) (Q := Q) (M := M) ⟨ho1, hop⟩ hEin hQin hMin)
          have di : decide ((i : Int) < 19) = true := by simp; omega
          have hI0 : (0 : Int) ≤ (i : Int) := by omega
          have hI1 : (i : Int) < 19 := by omega
          go_upto_region 9 with fail
          go_cut [5] (fun s5 wx => s5 = .slice (some ⟨wr.heap.size, 0, none⟩) 10 10 ∧ Hid (Below w.heap.size w wx) ∧ Hid (Has wx w.heap.size 3 #[.int .i64 (-9223372036854775808), .int .i64 (-1), .int .i64 0, .int .i64 1, .int .i64 2, .int .i64 6, .int .i64 7, .int .i64 8, .int .i64 9, .int .i64 15, .int .i64 16, .int .i64 63, .int .i64 64, .int .i64 65, .int .i64 255, .int .i64 256, .int .i64 16384, .int .i64 16385, .int .i64 9223372036854775807]) ∧ Hid (Has wx (w.heap.size + 1) 23 #[.int .u64 0, .int .u64 1, .int .u64 2, .int .u64 127, .int .u64 128, .int .u64 16383, .int .u64 16384, .int .u64 9223372036854775808, .int .u64 18446744073709551615]) ∧ Hid (Has wx wr.heap.size 25 ((fieldsL op E Q M).flatMap insC).toArray))
          case first =>
            refine wp_region_still_tail 84 (by kernel_rfl) (by decide +kernel) ?_
            simp only [List.append, List.take_succ_cons, List.take_zero, List.drop_succ_cons, List.drop_zero]
            iterate 84 (first | (refine wpStill_go rfl _ rfl (fun K hK => ?_); (first | go_big_move | go_big_op); refine hK _ _ rfl ?_; clear hK K) | still_step)
            refine wpStill_nil ?_
            change wpList _ _ _ _ _ wr.drew
            have HBd : Hid (Below w.heap.size w wr.drew) := Lib.hid ⟨HBi.out.os, HBi.out.tape, HBi.out.output, HBi.out.size, HBi.out.block⟩
            have HEd : Hid (Has wr.drew w.heap.size 3 #[.int .i64 (-9223372036854775808), .int .i64 (-1), .int .i64 0, .int .i64 1, .int .i64 2, .int .i64 6, .int .i64 7, .int .i64 8, .int .i64 9, .int .i64 15, .int .i64 16, .int .i64 63, .int .i64 64, .int .i64 65, .int .i64 255, .int .i64 256, .int .i64 16384, .int .i64 16385, .int .i64 9223372036854775807]) := Lib.hid HEi.out
            have HMd : Hid (Has wr.drew (w.heap.size + 1) 23 #[.int .u64 0, .int .u64 1, .int .u64 2, .int .u64 127, .int .u64 128, .int .u64 16383, .int .u64 16384, .int .u64 9223372036854775808, .int .u64 18446744073709551615]) := Lib.hid HMi.out
            have ZD : Hid (wr.heap.size = wr.drew.heap.size) := Lib.hid rfl
            generalize wr.drew = wd at *
            go_wp2_with fail
            go_meet
            have zd := ZD.out
            rw [zd]
            exact ⟨rfl, Lib.hid (HBd.out.alloc HBd.out.size _), Lib.hid (HEd.out.alloc _), Lib.hid (HMd.out.alloc _), Lib.hid (by exact Has.new wd _ _)⟩
          case rest =>
          obtain ⟨rfl, HB0, HE0, HM0, HF0⟩ := hcut
          obtain ⟨wd, rfl⟩ : ∃ wd : World, wd = wr := ⟨_, rfl⟩
          go_wp2
          go_loopw [6] (fun kv wr => ∃ k : Nat, kv = .int .i64 (k : Nat) ∧ k ≤ 10 ∧ Hid (Below w.heap.size w wr) ∧ Hid (Has wr w.heap.size 3 #[.int .i64 (-9223372036854775808), .int .i64 (-1), .int .i64 0, .int .i64 1, .int .i64 2, .int .i64 6, .int .i64 7, .int .i64 8, .int .i64 9, .int .i64 15, .int .i64 16, .int .i64 63, .int .i64 64, .int .i64 65, .int .i64 255, .int .i64 256, .int .i64 16384, .int .i64 16385, .int .i64 9223372036854775807]) ∧ Hid (Has wr (w.heap.size + 1) 23 #[.int .u64 0, .int .u64 1, .int .u64 2, .int .u64 127, .int .u64 128, .int .u64 16383, .int .u64 16384, .int .u64 9223372036854775808, .int .u64 18446744073709551615]) ∧ Hid (Has wr wd.heap.size 25 ((fieldsL op E Q M).flatMap insC).toArray)) (fun kv _ => 10 - (intOf kv).toNat)
          case atStart => exact ⟨0, rfl, by decide, HB0, HE0, HM0, HF0⟩
          case round =>
            obtain ⟨k, rfl, hk, HBk, HEk, HMk, HFk⟩ := hrel
            clear HB0 HE0 HM0 HF0
            by_cases hlk : k < 10
            · have dk : decide ((k : Int) < 10) = true := by simp; omega
              have hfl : k < (fieldsL op E Q M).length := hlk
              obtain ⟨x, hx⟩ : ∃ x, x = (fieldsL op E Q M)[k] := ⟨_, rfl⟩
              have hok : x.Ok := by rw [hx]; exact HOK.out _ (List.getElem_mem hfl)
              have HXO := Lib.hid hok
              have HX : Hid (∀ W, Has W wd.heap.size 25 ((fieldsL op E Q M).flatMap insC).toArray → W.rangeAt wd.heap.size (k * 5) [.int .i64 x.op, .int .i64 x.a, .int .i64 x.b, .int .i64 x.n, .int .u64 x.imm] ∧ SlK 5 insE W (Old W.heap.size) (.slice (some ⟨wd.heap.size, k * 5, none⟩) 1 (10 - k)) [x]) := Lib.hid (fun W h => by
                rw [hx]; exact ⟨rng_field h hfl, slk_part2 (n := 10) h rfl (Nat.le_of_ble_eq_true rfl) hfl⟩)
              have HRG := Lib.hid (HX.out wr HFk.out).1
              have hs1 : ∀ W, (Instr.slice 26 (.slice (some ⟨wd.heap.size, 0, none⟩) 10 10) (some (.int .i64 (k : Nat))) (some (.int .i64 ((k : Int) + 1))) none).run Tryz.prog W = .ok (.slice (some ⟨wd.heap.size, k * 5, none⟩) 1 (10 - k)) W := fun W => slice_kk2 _ 10 k hlk W
              clear hx hok hfl
              go_wp2_with (refine load_mid_if (by rfl) 25 _ rfl wd.heap.size (k * 5) rfl [.int .i64 x.op, .int .i64 x.a, .int .i64 x.b, .int .i64 x.n, .int .u64 x.imm] _ (by exact HRG.out) Tryz.underlying25 rfl (HI1.out) ?_)
              refine (HP.out wr HBk.out x HXO.out).mono ?_
              rintro e w1 ⟨rfl, hb⟩
              have HB1 := Lib.hid (HBk.out.trans (hb.mono HBk.out.size))
              have HE1 := Lib.hid (HEk.out.below hb HEk.out.lt)
              have HM1 := Lib.hid (HMk.out.below hb HMk.out.lt)
              have HF1 := Lib.hid (HFk.out.below hb HFk.out.lt)
              have HRG1 := Lib.hid (HX.out w1 HF1.out).1
              clear hb
              go_wp2_with (refine load_mid_if (by rfl) 25 _ rfl wd.heap.size (k * 5) rfl [.int .i64 x.op, .int .i64 x.a, .int .i64 x.b, .int .i64 x.n, .int .u64 x.imm] _ (by exact HRG1.out) Tryz.underlying25 rfl (HI1.out) ?_)
              refine (HL.out w1 HB1.out x HXO.out).mono ?_
              rintro e w2 ⟨rfl, hb⟩
              have HB2 := Lib.hid (HB1.out.trans (hb.mono HB1.out.size))
              have HE2 := Lib.hid (HE1.out.below hb HE1.out.lt)
              have HM2 := Lib.hid (HM1.out.below hb HM1.out.lt)
              have HF2 := Lib.hid (HF1.out.below hb HF1.out.lt)
              clear hb
              go_wp2_with fail
              refine (HEN.out w2 HB2.out [x] _ (HX.out w2 HF2.out).2 (fun y hy => by rw [List.mem_singleton.1 hy]; exact HXO.out) (Nat.le_of_ble_eq_true rfl)).mono ?_
              rintro e w3 ⟨rfl, hb⟩
              have HB3 := Lib.hid (HB2.out.trans (hb.mono HB2.out.size))
              have HE3 := Lib.hid (HE2.out.below hb HE2.out.lt)
              have HM3 := Lib.hid (HM2.out.below hb HM2.out.lt)
              have HF3 := Lib.hid (HF2.out.below hb HF2.out.lt)
              clear hb
              go_wp2
              go_roundw
              case rel => first | exact ⟨k + 1, by go_num, by omega, HB3, HE3, HM3, HF3⟩ | ((repeat apply Exists.intro); exact ⟨⟨k + 1, by go_num, by omega, HB3, HE3, HM3, HF3⟩, rfl⟩)
              case measure => simp [intOf]; omega
            · obtain rfl : k = 10 := by omega
              go_wp2_with fail
              refine (HEN.out wr HBk.out (fieldsL op E Q M) _ (slk_all (n := 10) HFk.out rfl (Nat.le_of_ble_eq_true rfl)) HOK.out (Nat.le_of_ble_eq_true rfl)).mono ?_
              rintro e w1 ⟨rfl, hb⟩
              have HB1 := Lib.hid (HBk.out.trans (hb.mono HBk.out.size))
              have HE1 := Lib.hid (HEk.out.below hb HEk.out.lt)
              have HM1 := Lib.hid (HMk.out.below hb HMk.out.lt)
              have HF1 := Lib.hid (HFk.out.below hb HFk.out.lt)
              clear hb
              go_wp2_with fail
              refine (HTH.out w1 HB1.out (fieldsL op E Q M) _ (slk_all (n := 10) HF1.out rfl (Nat.le_of_ble_eq_true rfl)) HOK.out).mono ?_
              rintro e w2 ⟨rfl, hb⟩
              have HB2 := Lib.hid (HB1.out.trans (hb.mono HB1.out.size))
              have HE2 := Lib.hid (HE1.out.below hb HE1.out.lt)
              have HM2 := Lib.hid (HM1.out.below hb HM1.out.lt)
              clear hb
              go_wp2
              go_roundw
              case rel => first | exact ⟨i + 1, by go_num, by omega, HB2, HE2, HM2⟩ | ((repeat apply Exists.intro); exact ⟨⟨i + 1, by go_num, by omega, HB2, HE2, HM2⟩, rfl⟩)
              case measure => simp [intOf]; omega
        · obtain rfl : i = 19 := by omega
          go_wp2
          go_roundw
          case rel => first | exact ⟨op + 1, by go_num, by omega, by omega, HBi, HEi, HMi⟩ | exact ⟨op + 1, rfl, by omega, by omega, HBi, HEi, HMi⟩ | ((repeat apply Exists.intro); exact ⟨⟨op + 1, by go_num, by omega, by omega, HBi, HEi, HMi⟩, rfl⟩)
          case measure => simp [intOf]; omega
    · obtain rfl : op = 21 := by omega
      go_wp2_with fail
      refine (HP.out wr HBo.out ⟨4611686018427387904, 0, 0, 0, 0⟩ (by constructor <;> decide)).mono ?_
      rintro e w1 ⟨rfl, hb⟩
      have HB1 := Lib.hid (HBo.out.trans (hb.mono HBo.out.size))
      clear hb
      go_wp2_with fail
      refine (HP.out w1 HB1.out ⟨-9223372036854775808, 0, 0, 0, 0⟩ (by constructor <;> decide)).mono ?_
      rintro e w2 ⟨rfl, hb⟩
      have HB2 := Lib.hid (HB1.out.trans (hb.mono HB1.out.size))
      clear hb
      go_wp2
      go_ret
      exact ⟨rfl, HB2.out⟩
end codeW
end Go.Proofs.YtbbfpbmogklomaaGreatDoor
