/- node.Find: the first message of a name among any parts, a copy; or none. Condition: no list of more than 2^47 bytes. -/
import Derived.Test.YtdibfkcddcjiiaaNodeList
import Derived.Lib.SlicesS
namespace Go.Proofs.Ytdibfkcddcjiiaa
open Go.RowKit Go.Bus Go.Bus.cellK Go.Bus.dbK
set_option linter.unusedVariables false
namespace nodeF
open nodeC nodeK nodeL
def findN : List Nd → ByteArray → Option Msg
  | [], _ => none
  | .msg m :: l, s => if m.name = s then some m else findN l s
  | .ver _ :: l, s => findN l s
  | .sta _ :: l, s => findN l s
  | .tab _ :: l, s => findN l s
def FindP (w : World) (r : Option Msg) (e : Ending) (w' : World) : Prop := Below w.heap.size w w' ∧
  match r with
  | some m => ∃ cs, e = .returned (.tuple #[.agg cs.toArray, .bool true]) ∧ msgO 9 119 w' (Iv w.heap.size w'.heap.size) cs m
  | none => e = .returned (.tuple #[.agg msgZ, .bool false])
set_option maxRecDepth 100000 in
set_option maxHeartbeats 4000000 in
theorem find_any (v : Value) (l : List Nd) (s : ByteArray) (F : Foot) (w : World) (h : SlK 1 ndE w F v l) (hF : ∀ b, F b → b < w.heap.size) (hok : ∀ m, Nd.msg m ∈ l → MsgOk m) :
    Calls Try.prog 12 #[v, .string s] w (FindP w (findN l s)) := by
  obtain ⟨A1, cap, rfl, n1, n2⟩ := h.form
  unfold maxLen at n2
  have HV := Lib.hid (fun (w1 : World) (hb : Below w.heap.size w w1) => h.belowF ndE_mono hF hb)
  have HF := Lib.hid hF
  have HO := Lib.hid hok
  clear h hF hok
  have hh0 : Has (w.alloc (.cells msgZ 62)) w.heap.size 62 msgZ := Has.new w _ _
  have HH0 := Lib.hid hh0; clear hh0
  go_enter Try.func12, Try.ntmps12
  go_wp2
  go_loopw [12] (fun i wr => ∃ k : Nat, i = .int .i64 k ∧ k ≤ l.length ∧ Hid (findN (l.drop k) s = findN l s) ∧ Hid (Has wr w.heap.size 62 msgZ) ∧ Hid (Below w.heap.size w wr) ∧ w.heap.size + 1 ≤ wr.heap.size) (fun i _ => l.length - (intOf i).toNat)
  case atStart => exact ⟨0, rfl, Nat.zero_le _, Lib.hid rfl, HH0, Lib.hid (by repeat' (first | (with_reducible assumption) | (with_reducible refine Below.setCell ?_ ?_ _) | (with_reducible refine Below.alloc ?_ ?_ _) | (with_reducible refine Below.drew ?_) | (with_reducible refine below_drewN ?_ _) | (with_reducible exact Below.refl _ _) | (show _ ≤ _; (try simp); (try omega); done) | exact Below.refl _ _ | assumption)), by simp⟩
  case round =>
    clear HH0
    obtain ⟨k, rfl, hk, HFN, HH, HB, hsz⟩ := hrel
    by_cases hlt : k < l.length
    · obtain ⟨b, off, cs, h1, hFb, hl1, hr, he⟩ := (HV.out _ HB.out).at_ hlt
      subst h1
      obtain ⟨c, rfl, he⟩ := he
      have hc0 : wr.cell? ⟨b, off + k, none⟩ = some (ndV c l[k]) := by have := hr 0 _ rfl; rwa [Nat.mul_one] at this
      have hmem : l[k] ∈ l := List.getElem_mem hlt
      have hdrop : l.drop k = l[k] :: l.drop (k + 1) := List.drop_eq_getElem_cons hlt
      rw [hdrop] at HFN
      generalize l[k] = x at *
      clear hr hl1 hFb hdrop
      cases x with
      | ver x =>
        have hA := as_ver_msg (.agg c.toArray)
        simp only [ndV] at hc0
        simp only [msgZ] at hA
        have HFN2 : Hid (findN (l.drop (k + 1)) s = findN l s) := HFN
        clear HFN he hmem
        go_wp2
        go_roundw
        case rel => exact ⟨k + 1, by go_num, by omega, HFN2, Lib.hid (by exact HH.out.alloc _), Lib.hid (by exact HB.out.alloc (by omega) _), by simp; omega⟩
        case measure => simp [intOf]; omega
      | sta x =>
        have hA := as_sta_msg (.agg c.toArray)
        simp only [ndV] at hc0
        simp only [msgZ] at hA
        have HFN2 : Hid (findN (l.drop (k + 1)) s = findN l s) := HFN
        clear HFN he hmem
        go_wp2
        go_roundw
        case rel => exact ⟨k + 1, by go_num, by omega, HFN2, Lib.hid (by exact HH.out.alloc _), Lib.hid (by exact HB.out.alloc (by omega) _), by simp; omega⟩
        case measure => simp [intOf]; omega
      | tab x =>
        have hA := as_tab_msg (.agg c.toArray)
        simp only [ndV] at hc0
        simp only [msgZ] at hA
        have HFN2 : Hid (findN (l.drop (k + 1)) s = findN l s) := HFN
        clear HFN he hmem
        go_wp2
        go_roundw
        case rel => exact ⟨k + 1, by go_num, by omega, HFN2, Lib.hid (by exact HH.out.alloc _), Lib.hid (by exact HB.out.alloc (by omega) _), by simp; omega⟩
        case measure => simp [intOf]; omega
      | msg x =>
        have hA := as_msg_msg (.agg c.toArray)
        simp only [ndV] at hc0
        have hxo := HO.out x hmem
        obtain ⟨u, rfl, hsl⟩ := he
        obtain ⟨Au, cu, rfl, _, _⟩ := hsl.form
        have HSL := Lib.hid hsl
        have HXO := Lib.hid hxo
        clear hmem hsl hxo
        simp only [msgCells] at hc0 hA
        by_cases hnm : x.name = s
        · subst hnm
          have hfn : findN l x.name = some x := by rw [← HFN.out]; simp [findN]
          have HFD := Lib.hid hfn
          clear hfn HFN
          go_wp2_with fail
          refine (message_any x (.slice Au x.sigs.length cu) F _ (by exact HSL.out.keep sigE_mono (fun _ h => h) (fun b hb => heap_alloc_old _ _ (by have := HF.out b hb; omega))) (fun b hb => by have := HF.out b hb; simp; omega) HXO.out.len (fun y hy => (HXO.out.sigs y hy).to)).mono ?_
          rintro e w2 ⟨d2, rfl, hq2, hb2⟩
          obtain ⟨v2, rfl, ho2⟩ := hq2
          obtain ⟨A2, c2, rfl, _, _⟩ := (ho2.sl sigO_mono).form
          have hh2 := Has.below (by exact HH.out.alloc _) hb2 (by simp; omega)
          have HH2 := Lib.hid hh2
          have hB2 : Below w.heap.size w w2 := HB.out.trans (Below.trans (by repeat' (first | (with_reducible assumption) | (with_reducible refine Below.setCell ?_ ?_ _) | (with_reducible refine Below.alloc ?_ ?_ _) | (with_reducible refine Below.drew ?_) | (with_reducible refine below_drewN ?_ _) | (with_reducible exact Below.refl _ _) | (show _ ≤ _; (try simp); (try omega); done) | exact Below.refl _ _ | assumption)) (hb2.mono (by simp; omega)))
          have HB2 := Lib.hid hB2
          have hs2 := hb2.size
          simp at hs2
          have HO2 := Lib.hid ho2
          clear hh2 hB2 hb2 ho2
          have c_w2_H_0 : w2.cell? ⟨w.heap.size, 0, none⟩ = some (.int .i64 0) := HH2.out.cell 0; have f_w2_H_0 : w2.frozen? ⟨w.heap.size, 0, none⟩ = false := HH2.out.frozen 0; have c_w2_H_1 : w2.cell? ⟨w.heap.size, 1, none⟩ = some (.int .i64 0) := HH2.out.cell 1; have f_w2_H_1 : w2.frozen? ⟨w.heap.size, 1, none⟩ = false := HH2.out.frozen 1; have c_w2_H_2 : w2.cell? ⟨w.heap.size, 2, none⟩ = some (.int .u32 0) := HH2.out.cell 2; have f_w2_H_2 : w2.frozen? ⟨w.heap.size, 2, none⟩ = false := HH2.out.frozen 2; have c_w2_H_3 : w2.cell? ⟨w.heap.size, 3, none⟩ = some (.bool false) := HH2.out.cell 3; have f_w2_H_3 : w2.frozen? ⟨w.heap.size, 3, none⟩ = false := HH2.out.frozen 3; have c_w2_H_4 : w2.cell? ⟨w.heap.size, 4, none⟩ = some (.string ⟨#[]⟩) := HH2.out.cell 4; have f_w2_H_4 : w2.frozen? ⟨w.heap.size, 4, none⟩ = false := HH2.out.frozen 4; have c_w2_H_5 : w2.cell? ⟨w.heap.size, 5, none⟩ = some (.int .i64 0) := HH2.out.cell 5; have f_w2_H_5 : w2.frozen? ⟨w.heap.size, 5, none⟩ = false := HH2.out.frozen 5; have c_w2_H_6 : w2.cell? ⟨w.heap.size, 6, none⟩ = some (.string ⟨#[]⟩) := HH2.out.cell 6; have f_w2_H_6 : w2.frozen? ⟨w.heap.size, 6, none⟩ = false := HH2.out.frozen 6; have c_w2_H_7 : w2.cell? ⟨w.heap.size, 7, none⟩ = some (.slice none 0 0) := HH2.out.cell 7; have f_w2_H_7 : w2.frozen? ⟨w.heap.size, 7, none⟩ = false := HH2.out.frozen 7
          simp only [msgCells]
          go_wp2
          refine bodyPost_ret (results_block2 (g := w.heap.size) (T := 62) rfl rfl ((((((((HH2.out.set 0 _).set 1 _).set 2 _).set 3 _).set 4 _).set 5 _).set 6 _).set 7 _) (by rfl) Try.underlying62 rfl (by kernel_rfl)) rfl ?_
          have hB2 := HB2.out
          rw [HFD.out]
          have ho : OwD 19 (sigO 9) w2 (Iv (wr.heap.size + 1) w2.heap.size) 0 119 (.slice A2 x.sigs.length c2) x.sigs := by simpa using HO2.out
          exact ⟨(by repeat' (first | (with_reducible assumption) | (with_reducible refine Below.setCell ?_ ?_ _) | (with_reducible refine Below.alloc ?_ ?_ _) | (with_reducible refine Below.drew ?_) | (with_reducible refine below_drewN ?_ _) | (with_reducible exact Below.refl _ _) | (show _ ≤ _; (try simp); (try omega); done) | exact Below.refl _ _ | assumption)), _, rfl, _, rfl, ho.keep sigO_mono (fun b hb => ⟨by have := hb.1; omega, by simpa using hb.2⟩) (by intro b hb; have h1 := hb.1; (repeat (refine (heap_setCell_other _ _ _ _ (by (try simp); omega)).trans ?_)); rfl)⟩
        · have HFN2 : Hid (findN (l.drop (k + 1)) s = findN l s) := by have := HFN.out; simp only [findN, hnm, if_false] at this; exact Lib.hid this
          clear HFN
          have hne : (x.name.toList == s.toList) = false := (Lib.bytes_beq_false_iff _ _).2 hnm
          go_wp2
          go_roundw
          case rel => exact ⟨k + 1, by go_num, by omega, HFN2, Lib.hid (by exact HH.out.alloc _), Lib.hid (by exact HB.out.alloc (by omega) _), by simp; omega⟩
          case measure => simp [intOf]; omega
    · obtain rfl : k = l.length := by omega
      have hnone : findN l s = none := by rw [← HFN.out, List.drop_length]; rfl
      have HNO := Lib.hid hnone
      clear hnone HFN
      have c_wr_H_0 : wr.cell? ⟨w.heap.size, 0, none⟩ = some (.int .i64 0) := HH.out.cell 0; have f_wr_H_0 : wr.frozen? ⟨w.heap.size, 0, none⟩ = false := HH.out.frozen 0; have c_wr_H_1 : wr.cell? ⟨w.heap.size, 1, none⟩ = some (.int .i64 0) := HH.out.cell 1; have f_wr_H_1 : wr.frozen? ⟨w.heap.size, 1, none⟩ = false := HH.out.frozen 1; have c_wr_H_2 : wr.cell? ⟨w.heap.size, 2, none⟩ = some (.int .u32 0) := HH.out.cell 2; have f_wr_H_2 : wr.frozen? ⟨w.heap.size, 2, none⟩ = false := HH.out.frozen 2; have c_wr_H_3 : wr.cell? ⟨w.heap.size, 3, none⟩ = some (.bool false) := HH.out.cell 3; have f_wr_H_3 : wr.frozen? ⟨w.heap.size, 3, none⟩ = false := HH.out.frozen 3; have c_wr_H_4 : wr.cell? ⟨w.heap.size, 4, none⟩ = some (.string ⟨#[]⟩) := HH.out.cell 4; have f_wr_H_4 : wr.frozen? ⟨w.heap.size, 4, none⟩ = false := HH.out.frozen 4; have c_wr_H_5 : wr.cell? ⟨w.heap.size, 5, none⟩ = some (.int .i64 0) := HH.out.cell 5; have f_wr_H_5 : wr.frozen? ⟨w.heap.size, 5, none⟩ = false := HH.out.frozen 5; have c_wr_H_6 : wr.cell? ⟨w.heap.size, 6, none⟩ = some (.string ⟨#[]⟩) := HH.out.cell 6; have f_wr_H_6 : wr.frozen? ⟨w.heap.size, 6, none⟩ = false := HH.out.frozen 6; have c_wr_H_7 : wr.cell? ⟨w.heap.size, 7, none⟩ = some (.slice none 0 0) := HH.out.cell 7; have f_wr_H_7 : wr.frozen? ⟨w.heap.size, 7, none⟩ = false := HH.out.frozen 7
      go_wp2
      refine bodyPost_ret (results_block2 (g := w.heap.size) (T := 62) rfl rfl ((((((((HH.out.set 0 _).set 1 _).set 2 _).set 3 _).set 4 _).set 5 _).set 6 _).set 7 _) (by rfl) Try.underlying62 rfl (by kernel_rfl)) rfl ?_
      have hB := HB.out
      rw [HNO.out]
      exact ⟨(by repeat' (first | (with_reducible assumption) | (with_reducible refine Below.setCell ?_ ?_ _) | (with_reducible refine Below.alloc ?_ ?_ _) | (with_reducible refine Below.drew ?_) | (with_reducible refine below_drewN ?_ _) | (with_reducible exact Below.refl _ _) | (show _ ≤ _; (try simp); (try omega); done) | exact Below.refl _ _ | assumption)), rfl⟩
end nodeF
end Go.Proofs.Ytdibfkcddcjiiaa
