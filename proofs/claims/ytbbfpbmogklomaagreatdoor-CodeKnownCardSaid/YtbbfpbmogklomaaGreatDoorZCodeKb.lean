/- For busbarlaw12.knownBytes: busbarref0.CopyBytes; append beside; a part of a row. No condition but on lengths. -/
import Derived.Test.YtbbfpbmogklomaaGreatDoorZKe
import Derived.Test.YtbbfpbmogklomaaGreatDoorZK0
import Derived.Test.YtbbfpbmogklomaaGreatDoorZKh
import Derived.Test.YtbbfpbmogklomaaGreatDoorZKf
import Derived.ArgAppend
import Derived.OwnWalk
namespace Go.Proofs.YtbbfpbmogklomaaGreatDoor
open Go.RowKit Go.Bus Go.Bus.cellK Go.Bus.codeK
set_option linter.unusedVariables false
set_option linter.unusedSimpArgs false
namespace codeW
theorem own_part {w : World} {base g k m cap size : Nat} {e : TypeId} {xs ys : List Value} (h : w.ownsRow base e size (.slice (some ⟨g, 0, none⟩) (k + m) cap) (k + m) (xs ++ ys)) (hx : xs.length = k * size) : w.ownsRow base e size (.slice (some ⟨g, 0, none⟩) k cap) k xs := by
  obtain ⟨h1, h2⟩ := h
  refine ⟨hx, ?_⟩
  rcases h2 with ⟨h0, _⟩ | ⟨g', cap', cur, hv, hb, hg, hn, hm, hs, ht⟩
  · cases h0
  · simp only [Value.slice.injEq, Option.some.injEq, Addr.mk.injEq] at hv
    obtain ⟨⟨rfl, _⟩, _, rfl⟩ := hv
    refine .inr ⟨g, cap, cur, rfl, hb, hg, by omega, hm, hs, ?_⟩
    have h3 := congrArg (List.take (k * size)) ht
    rw [List.take_take, ← hx, List.take_left, Nat.min_eq_left (by rw [hx]; exact Nat.mul_le_mul_right _ (by omega))] at h3
    rw [← hx]; exact h3
theorem wpList_append_beside {P : Program} (w : World) {ops : Array Oper} {rest : List Oper} {o : Oper} {a : Act} {Q : Exit → Act → World → Prop}
    (hw : Region.wanted o (yielded ops a.tmps) = true) (s x : Operand) (t : TypeId) (hop : o.op = Op.call { callee := Callee.builtin Builtin.append, args := #[s, x], argTypes := #[t, t] })
    (base : Nat) (e : TypeId) (i : TypeInfo) (z : Value) (size bytes : Nat) (h1 : P.underlying t = some (.slice e)) (h2 : P.info? e = some i) (h3 : i.zero = some z) (h4 : i.size = size) (h5 : i.bytes = bytes) (h6 : z.cells.size = size) (h7 : 0 < size)
    (v : Value) (n : Nat) (xs : List Value) (hs : a.eval s = v) (hown : w.ownsRow base e size v n xs) (h0 : 0 < n)
    (ad : Addr) (m c : Nat) (news : List Value) (hx : a.eval x = .slice (some ad) m c) (hn : news.length = m * size) (hc : ∀ j u, news[j]? = some u → w.cell? (ad.add j) = some u) (h1c : ∀ u ∈ news, u.oneCell' = true)
    (b1 : n + m ≤ maxLen) (b2 : (n + m) * bytes ≤ 140737488355328) (hbase : base ≤ w.heap.size)
    (hK : ∀ v' w', w'.ownsRow base e size v' (n + m) (xs ++ news) → w'.ownsRow base e size v n xs → w.grownBy w' v.ownBlock → wpList P ops Q rest (a.put o.dst v') w') :
    wpList P ops Q (o :: rest) a w := by
  have hl := hown.1
  rcases hown.2 with ⟨_, hz⟩ | ⟨g, cap, cur, rfl, hb, hgg, hnc, hcm, hcs, ht⟩
  · omega
  · refine wpList_step fun K hK' => ?_
    rw [if_pos hw]
    by_cases hfit : n + m ≤ cap
    · obtain ⟨w', hrun, r1, r2⟩ := run_append_fits (P := P) w base t o.type e i size h1 h2 h4 g n cap xs hown ad m c news hn hc h1c hfit
      unfold Oper.wp
      simp [execOp, hop, resolve, invoke, builtin, hs, hx, hrun, Result.andThen]
      exact hK' _ _ (hK _ w' r1 (own_part r1 hl) r2)
    · obtain ⟨v', w', hrun, r1, r2⟩ := run_append_arg_grows (P := P) w t o.type e i z size bytes h1 h2 h3 h4 h5 h6 h7 ⟨g, 0, none⟩ n cap xs hl (fun j u hj => hown.cells (g := g) rfl j u hj) ad m c news hn hc (by omega) b1 b2
      unfold Oper.wp
      simp [execOp, hop, resolve, invoke, builtin, hs, hx, hrun, Result.andThen]
      exact hK' _ _ (hK v' w' (own_base r1 hbase) (hown.kept r2 (.inr (by simp [Value.ownBlock]))) ⟨r2.os, r2.tape, r2.output, r2.size, fun k hk _ => r2.block k hk (by simp)⟩)
theorem sl_pre {w : World} {g N n : Nat} {e : TypeId} {l : List Int} (h : Has w g e (l.map byteV).toArray) (hN : l.length = N) (hm : N ≤ 1000) (hn : n ≤ N) : Sl w w.heap.size byteV (.slice (some ⟨g, 0, none⟩) n N) (l.take n) := by
  have hl : (l.take n).length = n := by rw [List.length_take]; omega
  refine ⟨some ⟨g, 0, none⟩, N, by rw [hl], by omega, by unfold maxLen; omega, fun _ => ⟨g, 0, rfl, h.lt, fun i x hi => ?_⟩⟩
  have hi2 : i < n := by have := (List.getElem?_eq_some_iff.1 hi).1; omega
  rw [Nat.zero_add, h.cell]
  rw [List.getElem?_take, if_pos hi2] at hi
  simp [hi]
theorem szB : (sizeOf (Tryz.prog.elem 28)).run Tryz.prog = fun W => .ok 1 W := by kernel_rfl
theorem slice_toB (g N c n : Nat) (h : n ≤ c) (W : World) : (Instr.slice 28 (.slice (some ⟨g, 0, none⟩) N c) none (some (.int .i64 (n : Nat))) none).run Tryz.prog W = .ok (.slice (some ⟨g, 0, none⟩) n c) W := by
  rw [run_slice_h W _ _ _ _ (by kernel_rfl) _ _ (by omega) (by omega), szB]
  simp [Result.andThen, sliced, Addr.add]
theorem copybytes_any (v : Value) (l : List Int) (w : World) (h : Sl w w.heap.size byteV v l) (hlen : l.length ≤ 140737488351232) :
    Calls Tryz.prog 19 #[v] w fun e w' => ∃ u, e = .returned u ∧ w'.ownsRow w.heap.size 5 1 u l.length (l.map byteV) ∧ Below w.heap.size w w' := by
  have h : Sl w w.heap.size (Value.int .u8) v l := h
  obtain ⟨A, cap, rfl, hcap, hmax⟩ := h.form
  obtain ⟨i0, hi, hz0, hz1, hz2⟩ := info_parts Tryz.infoB
  have HL := Lib.hid h; clear h
  unfold maxLen at hmax
  go_enter Tryz.func19, Tryz.ntmps19
  go_wp2
  go_loopw [3, 4] (fun o i wr => ∃ k : Nat, k ≤ l.length ∧ i = .int .i64 k ∧ wr.ownsRow w.heap.size 5 1 o k ((l.map (Value.int .u8)).take k) ∧ Below w.heap.size w wr) (fun _ i _ => l.length - (intOf i).toNat)
  case atStart => exact ⟨0, Nat.zero_le _, rfl, World.ownsRow_nil _ _ _ _, Below.refl _ _⟩
  case round =>
    obtain ⟨k, hk, rfl, hown, hbel⟩ := hrel
    by_cases hlt : k < l.length
    · obtain ⟨b, off, rfl, hb, hc0⟩ := HL.out.at_ hlt
      have hc : wr.cell? ⟨b, off + k, none⟩ = some (.int .u8 l[k]) := (hbel.cell (p := ⟨b, off + k, none⟩) hb).trans hc0
      clear hc0
      go_wp2_with (at_builtin; refine wpList_append_own _ rfl _ _ 28 rfl w.heap.size 5 i0 (.int .u8 0) 1 1 Tryz.underlying28 hi hz0 hz1 hz2 rfl (by decide) _ _ _ rfl (hown.alloc _) ⟨wr.heap.size, 0, none⟩ 1 1 [.int .u8 l[k]] rfl rfl ?c1 ?c2 ?c3 ?c4 ?c5 ?_)
      case c1 => exact one_new wr _ _
      case c2 => intro u hu; simp at hu; subst hu; rfl
      case c3 => unfold maxLen; omega
      case c4 => omega
      case c5 => have := hbel.size; simp; omega
      intro v' w1 hown' hgrow _
      have hr := Round.step hbel hown hown' hgrow (hxs := take_map_snoc _ l k hlt)
      clear hown hown' hgrow hbel hc
      obtain ⟨hown1, hbel1⟩ := hr
      go_wp2
      go_roundw
      case rel => exact ⟨k + 1, by omega, by go_num, hown1, hbel1⟩
      case measure => simp [intOf]; omega
    · obtain rfl : k = l.length := by omega
      rw [List.take_of_length_le (by simp)] at hown
      go_wp2
      go_ret
      exact ⟨_, rfl, hown, hbel⟩
end codeW
end Go.Proofs.YtbbfpbmogklomaaGreatDoor
