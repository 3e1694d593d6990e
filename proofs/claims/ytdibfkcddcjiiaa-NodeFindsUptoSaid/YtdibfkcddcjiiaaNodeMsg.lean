/- node.Message: the message that a part is, a copy. Condition: no list of more than 2^47 bytes. -/
import Derived.Test.YtdibfkcddcjiiaaNodeKind
namespace Go.Bus
open Go.RowKit
theorem assert_hit1 {P : Program} {T xT : TypeId} {fs : Array Field} (h : P.underlying T = some (.struct fs)) (v : Value) (w : World) : (Instr.typeAssert (.iface T v) xT T false).run P w = .ok v w := by
  simp [Instr.typeAssert, run_underlying h, go_sem, Result.andThen]
end Go.Bus
namespace Go.Proofs.Ytdibfkcddcjiiaa
open Go.RowKit Go.Bus Go.Bus.cellK Go.Bus.dbK
set_option linter.unusedVariables false
set_option linter.unusedSimpArgs false
namespace nodeM
open nodeC nodeK
theorem as1_msg (v : Value) (w : World) : (Instr.typeAssert (.iface 62 v) 70 62 false).run Try.prog w = .ok v w := assert_hit1 Try.underlying62 v w
set_option maxRecDepth 100000 in
set_option maxHeartbeats 4000000 in
theorem Message_any (x : Msg) (v : Value) (F : Foot) (w : World) (h : SlK 19 sigE w F v x.sigs) (hF : ∀ b, F b → b < w.heap.size) (hby : x.sigs.length * 176 ≤ 140737488351232) (hto : ∀ s ∈ x.sigs, s.to.length * 16 ≤ 140737488351232) :
    Calls Try.prog 16 #[ndV (msgCells x v) (.msg x)] w (MsgP w x) := by
  obtain ⟨Ax, cx, rfl, _, _⟩ := h.form
  have HV := Lib.hid (fun (w1 : World) (hk : ∀ b, b < w.heap.size → w1.heap[b]? = w.heap[b]?) => h.keep (w' := w1) sigE_mono (fun _ h => h) fun b hb => hk b (hF b hb))
  have HF := Lib.hid hF; have HT := Lib.hid hto
  clear h hF hto
  have hA := as1_msg (.agg (msgCells x (.slice Ax x.sigs.length cx)).toArray)
  simp only [ndV, msgCells] at hA ⊢
  go_enter Try.func16, Try.ntmps16
  go_wp2_with fail
  refine (message_any x (.slice Ax x.sigs.length cx) F _ (by exact HV.out _ (fun b hb => by exact heap_alloc_old _ _ hb)) (fun b hb => by have := HF.out b hb; simp; omega) hby HT.out).mono ?_
  rintro e w2 ⟨d2, rfl, ⟨v2, rfl, ho2⟩, hb2⟩
  obtain ⟨A2, c2, rfl, _, _⟩ := (ho2.sl sigO_mono).form
  have HH2 := Lib.hid (Has.below (by exact Has.new w 62 msgZ) hb2 (by simp))
  have hs2 := hb2.size
  simp at hs2
  have HB2 := Lib.hid (show Below w.heap.size w w2 from ⟨hb2.os, hb2.tape, hb2.output, by omega, fun b hb => (hb2.block b (by simp; omega)).trans (heap_alloc_old _ _ hb)⟩)
  have HO2 := Lib.hid ho2
  clear hb2 ho2
  have c_w2_H_0 : w2.cell? ⟨w.heap.size, 0, none⟩ = some (.int .i64 0) := HH2.out.cell 0; have f_w2_H_0 : w2.frozen? ⟨w.heap.size, 0, none⟩ = false := HH2.out.frozen 0; have c_w2_H_1 : w2.cell? ⟨w.heap.size, 1, none⟩ = some (.int .i64 0) := HH2.out.cell 1; have f_w2_H_1 : w2.frozen? ⟨w.heap.size, 1, none⟩ = false := HH2.out.frozen 1; have c_w2_H_2 : w2.cell? ⟨w.heap.size, 2, none⟩ = some (.int .u32 0) := HH2.out.cell 2; have f_w2_H_2 : w2.frozen? ⟨w.heap.size, 2, none⟩ = false := HH2.out.frozen 2; have c_w2_H_3 : w2.cell? ⟨w.heap.size, 3, none⟩ = some (.bool false) := HH2.out.cell 3; have f_w2_H_3 : w2.frozen? ⟨w.heap.size, 3, none⟩ = false := HH2.out.frozen 3; have c_w2_H_4 : w2.cell? ⟨w.heap.size, 4, none⟩ = some (.string ⟨#[]⟩) := HH2.out.cell 4; have f_w2_H_4 : w2.frozen? ⟨w.heap.size, 4, none⟩ = false := HH2.out.frozen 4; have c_w2_H_5 : w2.cell? ⟨w.heap.size, 5, none⟩ = some (.int .i64 0) := HH2.out.cell 5; have f_w2_H_5 : w2.frozen? ⟨w.heap.size, 5, none⟩ = false := HH2.out.frozen 5; have c_w2_H_6 : w2.cell? ⟨w.heap.size, 6, none⟩ = some (.string ⟨#[]⟩) := HH2.out.cell 6; have f_w2_H_6 : w2.frozen? ⟨w.heap.size, 6, none⟩ = false := HH2.out.frozen 6; have c_w2_H_7 : w2.cell? ⟨w.heap.size, 7, none⟩ = some (.slice none 0 0) := HH2.out.cell 7; have f_w2_H_7 : w2.frozen? ⟨w.heap.size, 7, none⟩ = false := HH2.out.frozen 7
  have q2 : w.heap.size < w2.heap.size := by omega
  simp only [msgCells]
  go_wp2
  refine bodyPost_ret (results_block (g := w.heap.size) (T := 62) rfl rfl ((((((((HH2.out.set 0 _).set 1 _).set 2 _).set 3 _).set 4 _).set 5 _).set 6 _).set 7 _) (by rfl) Try.underlying62 rfl (by kernel_rfl)) rfl ?_
  have hB2 := HB2.out
  have ho : OwD 19 (sigO 9) w2 (Iv (w.heap.size + 1) w2.heap.size) 0 119 (.slice A2 x.sigs.length c2) x.sigs := by simpa using HO2.out
  exact ⟨_, rfl, ⟨_, rfl, ho.keep sigO_mono (fun b hb => ⟨by have := hb.1; omega, by simpa using hb.2⟩) (by intro b hb; have h1 := hb.1; (repeat (refine (heap_setCell_other _ _ _ _ (by (try simp); omega)).trans ?_)); rfl)⟩, (by repeat' (first | (with_reducible assumption) | (with_reducible refine Below.setCell ?_ ?_ _) | (with_reducible refine Below.alloc ?_ ?_ _) | (with_reducible refine Below.drew ?_) | (with_reducible refine below_drewN ?_ _) | (with_reducible exact Below.refl _ _) | (show _ ≤ _; (try simp); (try omega); done) | exact Below.refl _ _ | assumption))⟩
end nodeM
end Go.Proofs.Ytdibfkcddcjiiaa
