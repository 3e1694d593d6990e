/- busbarref05.Find: the first message of a name, itself; or none. No condition. -/
import Derived.Test.YtdibfkcddcjiiaaNodeFind
import Derived.Test.YtdibfkcddcjiiaaNodeTold
namespace Go.Proofs.Ytdibfkcddcjiiaa
open Go.RowKit Go.Bus Go.Bus.cellK Go.Bus.dbK
set_option linter.unusedVariables false
set_option linter.unusedSimpArgs false
namespace nodeT
open nodeC nodeK nodeL
def findD : List Msg → ByteArray → Option Msg
  | [], _ => none
  | m :: l, s => if m.name = s then some m else findD l s
theorem find_nodes (l : List Nd) (s : ByteArray) : nodeF.findN l s = findD (msgsOf l) s := by
  induction l with
  | nil => rfl
  | cons x t ih => cases x <;> simp [nodeF.findN, msgsOf, findD, ih]
theorem find_mem {l : List Msg} {s : ByteArray} {m : Msg} (h : findD l s = some m) : m ∈ l := by
  induction l with
  | nil => cases h
  | cons x t ih =>
    rw [findD] at h
    split at h
    · cases h; exact .head _
    · exact .tail _ (ih h)
def RfindP (w : World) (F : Foot) (r : Option Msg) (e : Ending) (w' : World) : Prop := Below w.heap.size w w' ∧
  match r with
  | some m => ∃ v, e = .returned (.tuple #[.agg (msgCells m v).toArray, .bool true]) ∧ SlK 19 sigE w F v m.sigs
  | none => e = .returned (.tuple #[.agg msgZ, .bool false])
set_option maxRecDepth 100000 in
set_option maxHeartbeats 4000000 in
theorem rfind_any (v : Value) (l : List Msg) (s : ByteArray) (F : Foot) (w : World) (h : SlK 8 msgE w F v l) (hF : ∀ b, F b → b < w.heap.size) :
    Calls Try.prog 11 #[v, .string s] w (RfindP w F (findD l s)) := by
  obtain ⟨A1, cap, rfl, n1, n2⟩ := h.form
  unfold maxLen at n2
  have HV := Lib.hid h
  have HF := Lib.hid hF
  clear h hF
  have hh0 : Has (w.alloc (.cells msgZ 62)) w.heap.size 62 msgZ := Has.new w _ _
  have HH0 := Lib.hid hh0; clear hh0
  go_enter Try.func11, Try.ntmps11
  go_wp2
  go_loopw [6] (fun i wr => ∃ k : Nat, i = .int .i64 k ∧ k ≤ l.length ∧ Hid (findD (l.drop k) s = findD l s) ∧ Hid (Has wr w.heap.size 62 msgZ) ∧ Hid (Below w.heap.size w wr)) (fun i wr => l.length - (intOf i).toNat)
  case atStart => exact ⟨0, rfl, Nat.zero_le _, Lib.hid rfl, HH0, Lib.hid (by repeat' (first | (with_reducible assumption) | (with_reducible refine Below.setCell ?_ ?_ _) | (with_reducible refine Below.alloc ?_ ?_ _) | (with_reducible refine Below.drew ?_) | (with_reducible refine below_drewN ?_ _) | (with_reducible exact Below.refl _ _) | (show _ ≤ _; (try simp); (try omega); done) | exact Below.refl _ _ | assumption))⟩
  case round =>
    clear HH0
    obtain ⟨k, rfl, hk, HFN, HH, HB⟩ := hrel
    by_cases hlt : k < l.length
    · obtain ⟨b, off, cs, h1, hFb, hl1, hr, he⟩ := HV.out.at_ hlt
      subst h1
      obtain ⟨u, rfl, he⟩ := he
      have hbl : b < w.heap.size := HF.out b hFb
      have hbw : b < wr.heap.size := Nat.lt_trans hbl HH.out.lt
      have hne2 : w.heap.size ≠ b := by omega
      obtain ⟨Au, cu, rfl, _, _⟩ := he.form
      have hdrop : l.drop k = l[k] :: l.drop (k + 1) := List.drop_eq_getElem_cons hlt
      rw [hdrop] at HFN
      have hc := fun (i : Nat) (y : Value) (hi : (msgCells l[k] (.slice Au l[k].sigs.length cu))[i]? = some y) => (HB.out.cell (p := ⟨b, off + k * 8 + i, none⟩) hbl).trans (hr i y hi)
      have HE := Lib.hid he
      generalize l[k] = x at *
      have c0 : wr.cell? ⟨b, off + k * 8, none⟩ = some (.int .i64 x.line) := hc 0 _ rfl
      have c1 : wr.cell? ⟨b, off + k * 8 + 1, none⟩ = some (.int .i64 x.col) := hc 1 _ rfl
      have c2 : wr.cell? ⟨b, off + k * 8 + 2, none⟩ = some (.int .u32 x.id) := hc 2 _ rfl
      have c3 : wr.cell? ⟨b, off + k * 8 + 3, none⟩ = some (.bool x.wide) := hc 3 _ rfl
      have c4 : wr.cell? ⟨b, off + k * 8 + 4, none⟩ = some (.string x.name) := hc 4 _ rfl
      have c5 : wr.cell? ⟨b, off + k * 8 + 5, none⟩ = some (.int .i64 x.size) := hc 5 _ rfl
      have c6 : wr.cell? ⟨b, off + k * 8 + 6, none⟩ = some (.string x.sender) := hc 6 _ rfl
      have c7 : wr.cell? ⟨b, off + k * 8 + 7, none⟩ = some (.slice Au x.sigs.length cu) := hc 7 _ rfl
      clear hr hl1 hFb hdrop hc he
      by_cases hnm : x.name = s
      · subst hnm
        have hfn : findD l x.name = some x := by rw [← HFN.out]; simp [findD]
        have HFD := Lib.hid hfn
        clear hfn HFN
        have c_wr_H_0 : wr.cell? ⟨w.heap.size, 0, none⟩ = some (.int .i64 0) := HH.out.cell 0; have f_wr_H_0 : wr.frozen? ⟨w.heap.size, 0, none⟩ = false := HH.out.frozen 0; have c_wr_H_1 : wr.cell? ⟨w.heap.size, 1, none⟩ = some (.int .i64 0) := HH.out.cell 1; have f_wr_H_1 : wr.frozen? ⟨w.heap.size, 1, none⟩ = false := HH.out.frozen 1; have c_wr_H_2 : wr.cell? ⟨w.heap.size, 2, none⟩ = some (.int .u32 0) := HH.out.cell 2; have f_wr_H_2 : wr.frozen? ⟨w.heap.size, 2, none⟩ = false := HH.out.frozen 2; have c_wr_H_3 : wr.cell? ⟨w.heap.size, 3, none⟩ = some (.bool false) := HH.out.cell 3; have f_wr_H_3 : wr.frozen? ⟨w.heap.size, 3, none⟩ = false := HH.out.frozen 3; have c_wr_H_4 : wr.cell? ⟨w.heap.size, 4, none⟩ = some (.string ⟨#[]⟩) := HH.out.cell 4; have f_wr_H_4 : wr.frozen? ⟨w.heap.size, 4, none⟩ = false := HH.out.frozen 4; have c_wr_H_5 : wr.cell? ⟨w.heap.size, 5, none⟩ = some (.int .i64 0) := HH.out.cell 5; have f_wr_H_5 : wr.frozen? ⟨w.heap.size, 5, none⟩ = false := HH.out.frozen 5; have c_wr_H_6 : wr.cell? ⟨w.heap.size, 6, none⟩ = some (.string ⟨#[]⟩) := HH.out.cell 6; have f_wr_H_6 : wr.frozen? ⟨w.heap.size, 6, none⟩ = false := HH.out.frozen 6; have c_wr_H_7 : wr.cell? ⟨w.heap.size, 7, none⟩ = some (.slice none 0 0) := HH.out.cell 7; have f_wr_H_7 : wr.frozen? ⟨w.heap.size, 7, none⟩ = false := HH.out.frozen 7
        have hbt : (x.name.toList == x.name.toList) = true := by simp
        go_wp2
        refine bodyPost_ret (results_block2 (g := w.heap.size) (T := 62) rfl rfl ((((((((HH.out.set 0 _).set 1 _).set 2 _).set 3 _).set 4 _).set 5 _).set 6 _).set 7 _) (by rfl) Try.underlying62 rfl (by kernel_rfl)) rfl ?_
        have hB := HB.out
        unfold RfindP
        rw [HFD.out]
        exact ⟨(by repeat' (first | (with_reducible assumption) | (with_reducible refine Below.setCell ?_ ?_ _) | (with_reducible refine Below.alloc ?_ ?_ _) | (with_reducible refine Below.drew ?_) | (with_reducible refine below_drewN ?_ _) | (with_reducible exact Below.refl _ _) | (show _ ≤ _; (try simp); (try omega); done) | exact Below.refl _ _ | assumption)), _, rfl, HE.out⟩
      · have HFN2 : Hid (findD (l.drop (k + 1)) s = findD l s) := by have := HFN.out; simp only [findD, hnm, if_false] at this; exact Lib.hid this
        clear HFN
        have hne : (x.name.toList == s.toList) = false := (Lib.bytes_beq_false_iff _ _).2 hnm
        go_wp2
        go_roundw
        case rel => exact ⟨k + 1, by go_num, by omega, HFN2, HH, HB⟩
        case measure => simp [intOf]; omega
    · obtain rfl : k = l.length := by omega
      have hnone : findD l s = none := by rw [← HFN.out, List.drop_length]; rfl
      have HNO := Lib.hid hnone
      clear hnone HFN
      have c_wr_H_0 : wr.cell? ⟨w.heap.size, 0, none⟩ = some (.int .i64 0) := HH.out.cell 0; have f_wr_H_0 : wr.frozen? ⟨w.heap.size, 0, none⟩ = false := HH.out.frozen 0; have c_wr_H_1 : wr.cell? ⟨w.heap.size, 1, none⟩ = some (.int .i64 0) := HH.out.cell 1; have f_wr_H_1 : wr.frozen? ⟨w.heap.size, 1, none⟩ = false := HH.out.frozen 1; have c_wr_H_2 : wr.cell? ⟨w.heap.size, 2, none⟩ = some (.int .u32 0) := HH.out.cell 2; have f_wr_H_2 : wr.frozen? ⟨w.heap.size, 2, none⟩ = false := HH.out.frozen 2; have c_wr_H_3 : wr.cell? ⟨w.heap.size, 3, none⟩ = some (.bool false) := HH.out.cell 3; have f_wr_H_3 : wr.frozen? ⟨w.heap.size, 3, none⟩ = false := HH.out.frozen 3; have c_wr_H_4 : wr.cell? ⟨w.heap.size, 4, none⟩ = some (.string ⟨#[]⟩) := HH.out.cell 4; have f_wr_H_4 : wr.frozen? ⟨w.heap.size, 4, none⟩ = false := HH.out.frozen 4; have c_wr_H_5 : wr.cell? ⟨w.heap.size, 5, none⟩ = some (.int .i64 0) := HH.out.cell 5; have f_wr_H_5 : wr.frozen? ⟨w.heap.size, 5, none⟩ = false := HH.out.frozen 5; have c_wr_H_6 : wr.cell? ⟨w.heap.size, 6, none⟩ = some (.string ⟨#[]⟩) := HH.out.cell 6; have f_wr_H_6 : wr.frozen? ⟨w.heap.size, 6, none⟩ = false := HH.out.frozen 6; have c_wr_H_7 : wr.cell? ⟨w.heap.size, 7, none⟩ = some (.slice none 0 0) := HH.out.cell 7; have f_wr_H_7 : wr.frozen? ⟨w.heap.size, 7, none⟩ = false := HH.out.frozen 7
      go_wp2
      refine bodyPost_ret (results_block2 (g := w.heap.size) (T := 62) rfl rfl ((((((((HH.out.set 0 _).set 1 _).set 2 _).set 3 _).set 4 _).set 5 _).set 6 _).set 7 _) (by rfl) Try.underlying62 rfl (by kernel_rfl)) rfl ?_
      have hB := HB.out
      unfold RfindP
      rw [HNO.out]
      exact ⟨(by repeat' (first | (with_reducible assumption) | (with_reducible refine Below.setCell ?_ ?_ _) | (with_reducible refine Below.alloc ?_ ?_ _) | (with_reducible refine Below.drew ?_) | (with_reducible refine below_drewN ?_ _) | (with_reducible exact Below.refl _ _) | (show _ ≤ _; (try simp); (try omega); done) | exact Below.refl _ _ | assumption)), rfl⟩
end nodeT
end Go.Proofs.Ytdibfkcddcjiiaa
