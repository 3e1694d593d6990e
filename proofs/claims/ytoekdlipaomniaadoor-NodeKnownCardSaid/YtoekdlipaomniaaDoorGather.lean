/- node.Gather of any parts: the database, all lists in new memory, or the error and its place. Condition: no list of more than 2^47 bytes. -/
import Derived.Test.YtoekdlipaomniaaDoorGatherLaw
import Derived.RegionTactic
import Derived.Deep.AppendLies
import Derived.Deep.RegionLaw
namespace Go.Proofs.YtoekdlipaomniaaDoor
open Go.RowKit Go.Bus Go.Bus.cellK Go.Bus.dbK
set_option linter.unusedVariables false
set_option linter.unusedSimpArgs false
namespace gatherL
open nodeC nodeK
theorem foldM (l : List (Option Nd)) (d : Db) : (l.foldl put d).msgs = d.msgs ++ l.filterMap getM := by
  induction l generalizing d with
  | nil => simp
  | cons n l ih =>
    rw [List.foldl_cons, ih]
    cases n with
    | none => simp [put, getM, List.filterMap_cons]
    | some x => cases x <;> simp [put, getM, List.filterMap_cons]
theorem foldT (l : List (Option Nd)) (d : Db) : (l.foldl put d).tabs = d.tabs ++ l.filterMap getT := by
  induction l generalizing d with
  | nil => simp
  | cons n l ih =>
    rw [List.foldl_cons, ih]
    cases n with
    | none => simp [put, getT, List.filterMap_cons]
    | some x => cases x <;> simp [put, getT, List.filterMap_cons]
theorem lenM {l : List (Option Nd)} {k : Nat} {m : Msg} (h : l[k]? = some (some (.msg m))) : ((l.take k).foldl put d0).msgs.length + 1 ≤ (l.filterMap getM).length := by
  rw [foldM]
  obtain ⟨hk, he⟩ := List.getElem?_eq_some_iff.1 h
  have h2 : l.filterMap getM = (l.take k).filterMap getM ++ (l.drop k).filterMap getM := by rw [← List.filterMap_append, List.take_append_drop]
  rw [h2, List.drop_eq_getElem_cons hk, he]
  simp [d0, getM]
theorem lenT {l : List (Option Nd)} {k : Nat} {m : Tab} (h : l[k]? = some (some (.tab m))) : ((l.take k).foldl put d0).tabs.length + 1 ≤ (l.filterMap getT).length := by
  rw [foldT]
  obtain ⟨hk, he⟩ := List.getElem?_eq_some_iff.1 h
  have h2 : l.filterMap getT = (l.take k).filterMap getT ++ (l.drop k).filterMap getT := by rw [← List.filterMap_append, List.take_append_drop]
  rw [h2, List.drop_eq_getElem_cons hk, he]
  simp [d0, getT]
theorem wrong_sta {last : Int} {k : Nat} (h : last < 2) : wrong 2 last k = false := by
  unfold wrong
  rw [decide_eq_false (show ¬ (2 : Int) < last by omega), decide_eq_false (show ¬ (2 : Int) ≤ last by omega)]
  rfl
theorem wrong_msg {last : Int} {k : Nat} (h : 2 ≤ last) (h' : last ≤ 3) : wrong 3 last k = false := by
  unfold wrong
  rw [decide_eq_false (show ¬ (3 : Int) < last by omega), decide_eq_true (show (2 : Int) ≤ last by omega)]
  rfl
theorem wrong_msg' {last : Int} {k : Nat} (h : ¬ (2 ≤ last ∧ last ≤ 3)) : wrong 3 last k = true := by
  unfold wrong
  simp
  omega
theorem wrong_tab' {last : Int} {k : Nat} (h : ¬ 2 ≤ last) : wrong 4 last k = true := by
  unfold wrong
  simp
  omega
theorem wrong_tab {last : Int} {k : Nat} (h : 2 ≤ last) (h' : last ≤ 4) : wrong 4 last k = false := by
  unfold wrong
  rw [decide_eq_false (show ¬ (4 : Int) < last by omega), decide_eq_true (show (2 : Int) ≤ last by omega)]
  rfl
set_option maxRecDepth 100000 in
set_option maxHeartbeats 8000000 in
theorem gather_any (v : Value) (l : List (Option Nd)) (F : Foot) (w : World) (h : SlK 1 noE w F v l) (hF : ∀ b, F b → b < w.heap.size) (hok : ∀ x ∈ l, okN x) (hM : (l.filterMap getM).length * 88 ≤ 140737488351232) (hT : (l.filterMap getT).length * 64 ≤ 140737488351232) :
    Calls Tryd.prog 9 #[v] w (GatherP w (gat l 0 0 d0)) := by
  obtain ⟨iM, aM, bM, cM, dM⟩ := info_parts Tryd.infoEMsg
  obtain ⟨iT, aT, bT, cT, dT⟩ := info_parts Tryd.infoETab
  obtain ⟨A0, cap, rfl, n1, n2⟩ := h.form
  have n3 : cap ≤ 9223372036854775807 := by unfold maxLen at n2; omega
  have HV := Lib.hid (fun (w1 : World) (hb : Below w.heap.size w w1) => h.belowF noE_mono hF hb)
  have HF := Lib.hid hF; have HOK := Lib.hid hok; have HM := Lib.hid hM; have HT := Lib.hid hT
  clear h hF hok n2 hM hT
  have hg0 : GS w ((w.alloc (.cells dbZ 32)).alloc (.cells dbZ 32)) d0 0 (.slice none 0 0) (.slice none 0 0) (.slice none 0 0) [] [] (w.heap.size + 2) (w.heap.size + 2) :=
    ⟨Has.new1 w _ _ _, (Has.new w _ _).alloc _, ⟨[], OwX.nil_ _ _ _ _ _ _⟩, OwX.nil_ _ _ _ _ _ _, OwX.nil_ _ _ _ _ _ _, Nat.le_refl _, Nat.le_refl _, by simp, fun _ => ⟨rfl, rfl, rfl⟩, fun _ => ⟨rfl, rfl, rfl⟩, by exact (by repeat' (first | (with_reducible assumption) | (with_reducible refine Below.setCell ?_ ?_ _) | (with_reducible refine Below.alloc ?_ ?_ _) | (with_reducible refine Below.drew ?_) | (with_reducible refine below_drewN ?_ _) | (with_reducible exact Below.refl _ _) | (show _ ≤ _; (try simp); (try omega); done) | exact Below.refl _ _ | assumption))⟩
  have HG0 := Lib.hid hg0; clear hg0
  go_enter Tryd.func9, Tryd.ntmps9
  go_wp2
  go_loopw [5, 16] (fun la i wr => ∃ (k : Nat) (last : Int) (Sv Mv Tv : Value) (xsM xsT : List Value) (t1 t2 : Nat), i = .int .i64 k ∧ la = .int .i64 last ∧ k ≤ l.length ∧ 0 ≤ last ∧ last ≤ 4 ∧ Hid (k = 0 → last = 0) ∧ Hid (gat (l.drop k) k last ((l.take k).foldl put d0) = gat l 0 0 d0) ∧ Hid (GS w wr ((l.take k).foldl put d0) last Sv Mv Tv xsM xsT t1 t2)) (fun _ i _ => l.length - (intOf i).toNat)
  case atStart => exact ⟨0, 0, _, _, _, _, _, _, _, rfl, rfl, Nat.zero_le _, Int.le_refl _, by omega, Lib.hid (fun _ => rfl), Lib.hid rfl, HG0⟩
  case round =>
    clear HG0
    obtain ⟨k, last, Sv, Mv, Tv, xsM, xsT, t1, t2, rfl, rfl, hk, hl0, hl4, HK0, HG, HS⟩ := hrel
    by_cases hlt : k < l.length
    · obtain ⟨b, off, cs, hA, hFb, hcl, hr, he⟩ := (HV.out _ HS.out.bel).at_ hlt
      subst hA
      have hgk : l[k]? = some l[k] := List.getElem?_eq_getElem hlt
      have hmem := HOK.out _ (List.getElem_mem hlt)
      have hdrop : l.drop k = l[k] :: l.drop (k + 1) := List.drop_eq_getElem_cons hlt
      have htake : (l.take (k + 1)).foldl put d0 = put ((l.take k).foldl put d0) l[k] := by rw [List.take_succ_eq_append_getElem hlt, List.foldl_append]; rfl
      rw [hdrop, gat] at HG
      generalize l[k] = x at *
      have HGK := Lib.hid hgk; have HOKX := Lib.hid hmem; have HTK := Lib.hid htake
      clear hcl hFb hgk hmem hdrop htake
      cases x with
      | none =>
        have he : cs = [.nilIface] := he
        subst he
        have hc0 : wr.cell? ⟨b, off + k, none⟩ = some .nilIface := by have := hr 0 _ rfl; rwa [Nat.mul_one] at this
        have hw : GR.no 4 k = gat l 0 0 d0 := by have := HG.out; simpa [wrong, rankO] using this
        have HW := Lib.hid hw
        have hf := ranked_0
        clear hr hw HG
        go_wp2_with fail
        refine (kind_nil _).mono ?_
        rintro e w1 ⟨rfl, hb1⟩
        have HS1 := Lib.hid (HS.out.later hb1)
        clear hb1 HS
        have c_w1_H_0 : w1.cell? ⟨w.heap.size, 0, none⟩ = some (.bool false) := HS1.out.res.cell 0; have f_w1_H_0 : w1.frozen? ⟨w.heap.size, 0, none⟩ = false := HS1.out.res.frozen 0; have c_w1_H_1 : w1.cell? ⟨w.heap.size, 1, none⟩ = some (.int .i64 0) := HS1.out.res.cell 1; have f_w1_H_1 : w1.frozen? ⟨w.heap.size, 1, none⟩ = false := HS1.out.res.frozen 1; have c_w1_H_2 : w1.cell? ⟨w.heap.size, 2, none⟩ = some (.int .i64 0) := HS1.out.res.cell 2; have f_w1_H_2 : w1.frozen? ⟨w.heap.size, 2, none⟩ = false := HS1.out.res.frozen 2; have c_w1_H_3 : w1.cell? ⟨w.heap.size, 3, none⟩ = some (.string ⟨#[]⟩) := HS1.out.res.cell 3; have f_w1_H_3 : w1.frozen? ⟨w.heap.size, 3, none⟩ = false := HS1.out.res.frozen 3; have c_w1_H_4 : w1.cell? ⟨w.heap.size, 4, none⟩ = some (.int .i64 0) := HS1.out.res.cell 4; have f_w1_H_4 : w1.frozen? ⟨w.heap.size, 4, none⟩ = false := HS1.out.res.frozen 4; have c_w1_H_5 : w1.cell? ⟨w.heap.size, 5, none⟩ = some (.int .i64 0) := HS1.out.res.cell 5; have f_w1_H_5 : w1.frozen? ⟨w.heap.size, 5, none⟩ = false := HS1.out.res.frozen 5; have c_w1_H_6 : w1.cell? ⟨w.heap.size, 6, none⟩ = some (.slice none 0 0) := HS1.out.res.cell 6; have f_w1_H_6 : w1.frozen? ⟨w.heap.size, 6, none⟩ = false := HS1.out.res.frozen 6; have c_w1_H_7 : w1.cell? ⟨w.heap.size, 7, none⟩ = some (.slice none 0 0) := HS1.out.res.cell 7; have f_w1_H_7 : w1.frozen? ⟨w.heap.size, 7, none⟩ = false := HS1.out.res.frozen 7; have c_w1_H_8 : w1.cell? ⟨w.heap.size, 8, none⟩ = some (.slice none 0 0) := HS1.out.res.cell 8; have f_w1_H_8 : w1.frozen? ⟨w.heap.size, 8, none⟩ = false := HS1.out.res.frozen 8
        go_wp2
        refine bodyPost_ret (results_block2 (g := w.heap.size) (T := 32) (cs' := dbZ) rfl rfl (by exact (((((((((HS1.out.res.set 0 _).set 1 _).set 2 _).set 3 _).set 4 _).set 5 _).set 6 _).set 7 _).set 8 _)) (by rfl) Tryd.underlying32 rfl (by kernel_rfl)) rfl ?_
        have hB := HS1.out.bel
        rw [← HW.out]
        exact ⟨(by repeat' (first | (with_reducible assumption) | (with_reducible refine Below.setCell ?_ ?_ _) | (with_reducible refine Below.alloc ?_ ?_ _) | (with_reducible refine Below.drew ?_) | (with_reducible refine below_drewN ?_ _) | (with_reducible exact Below.refl _ _) | (show _ ≤ _; (try simp); (try omega); done) | exact Below.refl _ _ | assumption)), rfl⟩
      | some x =>
        obtain ⟨c, rfl, he⟩ := he
        have hc0 : wr.cell? ⟨b, off + k, none⟩ = some (ndV c x) := by have := hr 0 _ rfl; rwa [Nat.mul_one] at this
        obtain ⟨As, ca, rfl, _, _⟩ := (HS.out.names.sl strE_mono).form
        obtain ⟨Am, cm, rfl, _, _⟩ := (HS.out.msgs.sl msgO_mono).1.form_
        obtain ⟨At, ct, rfl, _, _⟩ := (HS.out.tabs.sl tabO_mono).1.form_
        have hf := ranked_0
        have hlM : ∀ m, x = .msg m → Hid (((l.take k).foldl put d0).msgs.length + 1 ≤ (l.filterMap getM).length) := fun m hx => lenM (by rw [← hx]; exact HGK.out)
        have hlT : ∀ m, x = .tab m → Hid (((l.take k).foldl put d0).tabs.length + 1 ≤ (l.filterMap getT).length) := fun m hx => lenT (by rw [← hx]; exact HGK.out)
        generalize hD : (l.take k).foldl put d0 = D at *
        clear hr hD HGK
        cases x with
        | ver x =>
          have he : c = verCells x := he
          subst he
          simp only [ndV] at hc0
          by_cases hcond : k = 0
          · skip
            subst hcond
            obtain rfl := HK0.out rfl
            have HGn := Lib.hid (show gat (l.drop (0 + 1)) (0 + 1) 1 (put D (some (.ver x))) = gat l 0 0 d0 by have := HG.out; rwa [if_neg (by simp [wrong, rankO, rank])] at this)
            clear HG
            rw [Nat.add_zero] at hc0

            have hver := as_ver_ver (.agg (verCells x).toArray)
            have hsta := as_ver_sta (.agg (verCells x).toArray)
            have hmsg := as_ver_msg (.agg (verCells x).toArray)
            have htab := as_ver_tab (.agg (verCells x).toArray)
            simp only [verZ, staZ, msgZ, tabZ, verCells] at hver hsta hmsg htab hc0
            go_wp2_with fail
            refine (kind_any (.ver x) (verCells x) _).mono ?_
            rintro e w1 ⟨rfl, hb1⟩
            have HS1 := Lib.hid (HS.out.later hb1)
            have HB1 := Lib.hid hb1
            clear hb1 HS
            have hw1 : w.heap.size + 1 < w1.heap.size := HS1.out.box.lt
            have hw0 : w.heap.size < w1.heap.size := by omega
            have c_w1_0 : w1.cell? ⟨w.heap.size + 1, 0, none⟩ = some (.bool D.hasV) := HS1.out.box.cell 0; have f_w1_0 : w1.frozen? ⟨w.heap.size + 1, 0, none⟩ = false := HS1.out.box.frozen 0; have c_w1_1 : w1.cell? ⟨w.heap.size + 1, 1, none⟩ = some (.int .i64 D.ver.line) := HS1.out.box.cell 1; have f_w1_1 : w1.frozen? ⟨w.heap.size + 1, 1, none⟩ = false := HS1.out.box.frozen 1; have c_w1_2 : w1.cell? ⟨w.heap.size + 1, 2, none⟩ = some (.int .i64 D.ver.col) := HS1.out.box.cell 2; have f_w1_2 : w1.frozen? ⟨w.heap.size + 1, 2, none⟩ = false := HS1.out.box.frozen 2; have c_w1_3 : w1.cell? ⟨w.heap.size + 1, 3, none⟩ = some (.string D.ver.text) := HS1.out.box.cell 3; have f_w1_3 : w1.frozen? ⟨w.heap.size + 1, 3, none⟩ = false := HS1.out.box.frozen 3
            simp only [rank, kname]
            go_wp2_with fail
            go_region
            go_wp2
            go_roundw
            case rel =>
              have hB := HS1.out.bel
              exact ⟨0 + 1, 1, _, _, _, xsM, xsT, t1, t2, by go_num, by go_num, by omega, by omega, by omega, Lib.hid (fun h => by omega), Lib.hid (by rw [HTK.out]; exact HGn.out), Lib.hid (by rw [HTK.out]; exact HS1.out.turn (d' := { D with hasV := true, ver := x }) (fun b hlt hne => by exact (heap_alloc_old _ _ (by simp; omega)).trans ((heap_setCell_other _ _ _ _ (by simp; omega)).trans ((heap_setCell_other _ _ _ _ (by simp; omega)).trans ((heap_setCell_other _ _ _ _ (by simp; omega)).trans ((heap_setCell_other _ _ _ _ (by simp; omega)).trans (rfl)))))) (by simp) (by exact (by repeat' (first | (with_reducible assumption) | (with_reducible refine Below.setCell ?_ ?_ _) | (with_reducible refine Below.alloc ?_ ?_ _) | (with_reducible refine Below.drew ?_) | (with_reducible refine below_drewN ?_ _) | (with_reducible exact Below.refl _ _) | (show _ ≤ _; (try simp); (try omega); done) | exact Below.refl _ _ | assumption))) (by exact ((((HS1.out.box.set 0 _).set 1 _).set 2 _).set 3 _).alloc _) rfl rfl rfl (fun _ => by omega) (fun _ => by omega))⟩
            case measure => simp [intOf]; omega
          · skip
            have hw : GR.no 4 k = gat l 0 0 d0 := by
              have := HG.out
              rwa [if_pos (by simp only [wrong, rankO, rank]; simp; omega)] at this
            have HW := Lib.hid hw
            clear hw HG

            go_wp2_with fail
            refine (kind_any (.ver x) _ _).mono ?_
            rintro e w1 ⟨rfl, hb1⟩
            have HS1 := Lib.hid (HS.out.later hb1)
            clear hb1 HS
            have c_w1_H_0 : w1.cell? ⟨w.heap.size, 0, none⟩ = some (.bool false) := HS1.out.res.cell 0; have f_w1_H_0 : w1.frozen? ⟨w.heap.size, 0, none⟩ = false := HS1.out.res.frozen 0; have c_w1_H_1 : w1.cell? ⟨w.heap.size, 1, none⟩ = some (.int .i64 0) := HS1.out.res.cell 1; have f_w1_H_1 : w1.frozen? ⟨w.heap.size, 1, none⟩ = false := HS1.out.res.frozen 1; have c_w1_H_2 : w1.cell? ⟨w.heap.size, 2, none⟩ = some (.int .i64 0) := HS1.out.res.cell 2; have f_w1_H_2 : w1.frozen? ⟨w.heap.size, 2, none⟩ = false := HS1.out.res.frozen 2; have c_w1_H_3 : w1.cell? ⟨w.heap.size, 3, none⟩ = some (.string ⟨#[]⟩) := HS1.out.res.cell 3; have f_w1_H_3 : w1.frozen? ⟨w.heap.size, 3, none⟩ = false := HS1.out.res.frozen 3; have c_w1_H_4 : w1.cell? ⟨w.heap.size, 4, none⟩ = some (.int .i64 0) := HS1.out.res.cell 4; have f_w1_H_4 : w1.frozen? ⟨w.heap.size, 4, none⟩ = false := HS1.out.res.frozen 4; have c_w1_H_5 : w1.cell? ⟨w.heap.size, 5, none⟩ = some (.int .i64 0) := HS1.out.res.cell 5; have f_w1_H_5 : w1.frozen? ⟨w.heap.size, 5, none⟩ = false := HS1.out.res.frozen 5; have c_w1_H_6 : w1.cell? ⟨w.heap.size, 6, none⟩ = some (.slice none 0 0) := HS1.out.res.cell 6; have f_w1_H_6 : w1.frozen? ⟨w.heap.size, 6, none⟩ = false := HS1.out.res.frozen 6; have c_w1_H_7 : w1.cell? ⟨w.heap.size, 7, none⟩ = some (.slice none 0 0) := HS1.out.res.cell 7; have f_w1_H_7 : w1.frozen? ⟨w.heap.size, 7, none⟩ = false := HS1.out.res.frozen 7; have c_w1_H_8 : w1.cell? ⟨w.heap.size, 8, none⟩ = some (.slice none 0 0) := HS1.out.res.cell 8; have f_w1_H_8 : w1.frozen? ⟨w.heap.size, 8, none⟩ = false := HS1.out.res.frozen 8
            simp only [rank, kname]
            go_wp2
            all_goals
              refine bodyPost_ret (results_block2 (g := w.heap.size) (T := 32) (cs' := dbZ) rfl rfl (by exact (((((((((HS1.out.res.set 0 _).set 1 _).set 2 _).set 3 _).set 4 _).set 5 _).set 6 _).set 7 _).set 8 _)) (by rfl) Tryd.underlying32 rfl (by kernel_rfl)) rfl ?_
              have hB := HS1.out.bel
              rw [← HW.out]
              exact ⟨(by repeat' (first | (with_reducible assumption) | (with_reducible refine Below.setCell ?_ ?_ _) | (with_reducible refine Below.alloc ?_ ?_ _) | (with_reducible refine Below.drew ?_) | (with_reducible refine below_drewN ?_ _) | (with_reducible exact Below.refl _ _) | (show _ ≤ _; (try simp); (try omega); done) | exact Below.refl _ _ | assumption)), rfl⟩
        | sta x =>
          obtain ⟨u, rfl, hsl⟩ := he
          obtain ⟨Ax, cx, rfl, _, _⟩ := hsl.form
          have HSL := Lib.hid (fun (w3 : World) (hb3 : ∀ b, b < w.heap.size → w3.heap[b]? = wr.heap[b]?) => hsl.keep strE_mono (fun _ h => h) fun b hf => hb3 b (HF.out b hf))
          have hws := HS.out.bel.size
          clear hsl
          simp only [ndV] at hc0
          by_cases hcond : last < 2
          · skip
            have HGn := Lib.hid (show gat (l.drop (k + 1)) (k + 1) 2 (put D (some (.sta x))) = gat l 0 0 d0 by have := HG.out; rwa [if_neg (by rw [Bool.not_eq_true]; exact wrong_sta hcond)] at this)
            clear HG
            have hd1 : decide (2 ≤ last) = false := by simp; omega
            have hd2 : decide (2 < last) = false := by simp; omega

            have hver := as_sta_ver (.agg (staCells x (.slice Ax x.names.length cx)).toArray)
            have hsta := as_sta_sta (.agg (staCells x (.slice Ax x.names.length cx)).toArray)
            have hmsg := as_sta_msg (.agg (staCells x (.slice Ax x.names.length cx)).toArray)
            have htab := as_sta_tab (.agg (staCells x (.slice Ax x.names.length cx)).toArray)
            simp only [verZ, staZ, msgZ, tabZ, staCells] at hver hsta hmsg htab hc0
            go_wp2_with fail
            refine (kind_any (.sta x) (staCells x (.slice Ax x.names.length cx)) _).mono ?_
            rintro e w1 ⟨rfl, hb1⟩
            have HS1 := Lib.hid (HS.out.later hb1)
            have HB1 := Lib.hid hb1
            clear hb1 HS
            have hw1 : w.heap.size + 1 < w1.heap.size := HS1.out.box.lt
            have hw0 : w.heap.size < w1.heap.size := by omega
            have c_w1_4 : w1.cell? ⟨w.heap.size + 1, 4, none⟩ = some (.int .i64 D.sta.line) := HS1.out.box.cell 4; have f_w1_4 : w1.frozen? ⟨w.heap.size + 1, 4, none⟩ = false := HS1.out.box.frozen 4; have c_w1_5 : w1.cell? ⟨w.heap.size + 1, 5, none⟩ = some (.int .i64 D.sta.col) := HS1.out.box.cell 5; have f_w1_5 : w1.frozen? ⟨w.heap.size + 1, 5, none⟩ = false := HS1.out.box.frozen 5; have c_w1_6 : w1.cell? ⟨w.heap.size + 1, 6, none⟩ = some (.slice As D.sta.names.length ca) := HS1.out.box.cell 6; have f_w1_6 : w1.frozen? ⟨w.heap.size + 1, 6, none⟩ = false := HS1.out.box.frozen 6
            simp only [rank, kname]
            go_wp2_with fail
            refine (stations_any x (.slice Ax x.names.length cx) F _ (by exact HSL.out _ (fun b hb => by exact (heap_alloc_old _ _ (by omega)).trans (HB1.out.block b (by omega)))) (fun b hb => by have := HF.out b hb; simp; omega) (show _ from HOKX.out)).mono ?_
            rintro e w2 ⟨cs, rfl, ⟨v2, rfl, ho2⟩, hb2⟩
            obtain ⟨A2, c2, rfl, _, _⟩ := (ho2.sl strE_mono).form
            simp only [staCells]
            have HS2 := Lib.hid ((HS1.out.alloc _).later hb2)
            have HO2 := Lib.hid ho2
            have HB2 := Lib.hid hb2
            have hw2 : w1.heap.size + 1 ≤ w2.heap.size := by have := hb2.size; simpa using this
            clear ho2 hb2
            have c_w2_4 : w2.cell? ⟨w.heap.size + 1, 4, none⟩ = some (.int .i64 D.sta.line) := HS2.out.box.cell 4; have f_w2_4 : w2.frozen? ⟨w.heap.size + 1, 4, none⟩ = false := HS2.out.box.frozen 4; have c_w2_5 : w2.cell? ⟨w.heap.size + 1, 5, none⟩ = some (.int .i64 D.sta.col) := HS2.out.box.cell 5; have f_w2_5 : w2.frozen? ⟨w.heap.size + 1, 5, none⟩ = false := HS2.out.box.frozen 5; have c_w2_6 : w2.cell? ⟨w.heap.size + 1, 6, none⟩ = some (.slice As D.sta.names.length ca) := HS2.out.box.cell 6; have f_w2_6 : w2.frozen? ⟨w.heap.size + 1, 6, none⟩ = false := HS2.out.box.frozen 6
            go_wp2_with fail
            go_roundw
            case rel =>
              have hB := HS2.out.bel
              exact ⟨k + 1, 2, _, _, _, xsM, xsT, _, _, by go_num, by go_num, by omega, by omega, by omega, Lib.hid (fun h => by omega), Lib.hid (by rw [HTK.out]; exact HGn.out), Lib.hid (by rw [HTK.out]; exact (HS1.out.alloc _).sta (s := x) (by omega) (fun b hlt hne => by exact (heap_setCell_other _ _ _ _ (by simp; omega)).trans ((heap_setCell_other _ _ _ _ (by simp; omega)).trans ((heap_setCell_other _ _ _ _ (by simp; omega)).trans ((HB2.out.block b hlt))))) (by simp; omega) (by exact (by repeat' (first | (with_reducible assumption) | (with_reducible refine Below.setCell ?_ ?_ _) | (with_reducible refine Below.alloc ?_ ?_ _) | (with_reducible refine Below.drew ?_) | (with_reducible refine below_drewN ?_ _) | (with_reducible exact Below.refl _ _) | (show _ ≤ _; (try simp); (try omega); done) | exact Below.refl _ _ | assumption))) (by exact ((HS2.out.box.set 4 _).set 5 _).set 6 _) (by exact HO2.out.keep strE_mono (fun b hb => ⟨hb.1, by simpa using hb.2⟩) fun b hb => by have := hb.1; simp at this; exact (heap_setCell_other _ _ _ _ (by simp; omega)).trans ((heap_setCell_other _ _ _ _ (by simp; omega)).trans ((heap_setCell_other _ _ _ _ (by simp; omega)).trans (rfl)))))⟩
            case measure => simp [intOf]; omega
          · skip
            have hw : GR.no 4 k = gat l 0 0 d0 := by
              have := HG.out
              rwa [if_pos (by simp only [wrong, rankO, rank]; simp; omega)] at this
            have HW := Lib.hid hw
            clear hw HG

            go_wp2_with fail
            refine (kind_any (.sta x) _ _).mono ?_
            rintro e w1 ⟨rfl, hb1⟩
            have HS1 := Lib.hid (HS.out.later hb1)
            clear hb1 HS
            have c_w1_H_0 : w1.cell? ⟨w.heap.size, 0, none⟩ = some (.bool false) := HS1.out.res.cell 0; have f_w1_H_0 : w1.frozen? ⟨w.heap.size, 0, none⟩ = false := HS1.out.res.frozen 0; have c_w1_H_1 : w1.cell? ⟨w.heap.size, 1, none⟩ = some (.int .i64 0) := HS1.out.res.cell 1; have f_w1_H_1 : w1.frozen? ⟨w.heap.size, 1, none⟩ = false := HS1.out.res.frozen 1; have c_w1_H_2 : w1.cell? ⟨w.heap.size, 2, none⟩ = some (.int .i64 0) := HS1.out.res.cell 2; have f_w1_H_2 : w1.frozen? ⟨w.heap.size, 2, none⟩ = false := HS1.out.res.frozen 2; have c_w1_H_3 : w1.cell? ⟨w.heap.size, 3, none⟩ = some (.string ⟨#[]⟩) := HS1.out.res.cell 3; have f_w1_H_3 : w1.frozen? ⟨w.heap.size, 3, none⟩ = false := HS1.out.res.frozen 3; have c_w1_H_4 : w1.cell? ⟨w.heap.size, 4, none⟩ = some (.int .i64 0) := HS1.out.res.cell 4; have f_w1_H_4 : w1.frozen? ⟨w.heap.size, 4, none⟩ = false := HS1.out.res.frozen 4; have c_w1_H_5 : w1.cell? ⟨w.heap.size, 5, none⟩ = some (.int .i64 0) := HS1.out.res.cell 5; have f_w1_H_5 : w1.frozen? ⟨w.heap.size, 5, none⟩ = false := HS1.out.res.frozen 5; have c_w1_H_6 : w1.cell? ⟨w.heap.size, 6, none⟩ = some (.slice none 0 0) := HS1.out.res.cell 6; have f_w1_H_6 : w1.frozen? ⟨w.heap.size, 6, none⟩ = false := HS1.out.res.frozen 6; have c_w1_H_7 : w1.cell? ⟨w.heap.size, 7, none⟩ = some (.slice none 0 0) := HS1.out.res.cell 7; have f_w1_H_7 : w1.frozen? ⟨w.heap.size, 7, none⟩ = false := HS1.out.res.frozen 7; have c_w1_H_8 : w1.cell? ⟨w.heap.size, 8, none⟩ = some (.slice none 0 0) := HS1.out.res.cell 8; have f_w1_H_8 : w1.frozen? ⟨w.heap.size, 8, none⟩ = false := HS1.out.res.frozen 8
            simp only [rank, kname]
            go_wp2
            all_goals
              refine bodyPost_ret (results_block2 (g := w.heap.size) (T := 32) (cs' := dbZ) rfl rfl (by exact (((((((((HS1.out.res.set 0 _).set 1 _).set 2 _).set 3 _).set 4 _).set 5 _).set 6 _).set 7 _).set 8 _)) (by rfl) Tryd.underlying32 rfl (by kernel_rfl)) rfl ?_
              have hB := HS1.out.bel
              rw [← HW.out]
              exact ⟨(by repeat' (first | (with_reducible assumption) | (with_reducible refine Below.setCell ?_ ?_ _) | (with_reducible refine Below.alloc ?_ ?_ _) | (with_reducible refine Below.drew ?_) | (with_reducible refine below_drewN ?_ _) | (with_reducible exact Below.refl _ _) | (show _ ≤ _; (try simp); (try omega); done) | exact Below.refl _ _ | assumption)), rfl⟩
        | msg x =>
          obtain ⟨u, rfl, hsl⟩ := he
          obtain ⟨Ax, cx, rfl, _, _⟩ := hsl.form
          have HSL := Lib.hid (fun (w3 : World) (hb3 : ∀ b, b < w.heap.size → w3.heap[b]? = wr.heap[b]?) => hsl.keep sigE_mono (fun _ h => h) fun b hf => hb3 b (HF.out b hf))
          have hws := HS.out.bel.size
          clear hsl
          simp only [ndV] at hc0
          by_cases hcond : 2 ≤ last ∧ last ≤ 3
          · skip
            have HGn := Lib.hid (show gat (l.drop (k + 1)) (k + 1) 3 (put D (some (.msg x))) = gat l 0 0 d0 by have := HG.out; rwa [if_neg (by rw [Bool.not_eq_true]; exact wrong_msg hcond.1 hcond.2)] at this)
            clear HG
            obtain ⟨hl2, hl3⟩ := hcond
            have hd1 : decide (2 ≤ last) = true := by simp; omega
            have hd2 : decide (3 < last) = false := by simp; omega

            have hver := as_msg_ver (.agg (msgCells x (.slice Ax x.sigs.length cx)).toArray)
            have hsta := as_msg_sta (.agg (msgCells x (.slice Ax x.sigs.length cx)).toArray)
            have hmsg := as_msg_msg (.agg (msgCells x (.slice Ax x.sigs.length cx)).toArray)
            have htab := as_msg_tab (.agg (msgCells x (.slice Ax x.sigs.length cx)).toArray)
            simp only [verZ, staZ, msgZ, tabZ, msgCells] at hver hsta hmsg htab hc0
            go_wp2_with fail
            refine (kind_any (.msg x) (msgCells x (.slice Ax x.sigs.length cx)) _).mono ?_
            rintro e w1 ⟨rfl, hb1⟩
            have HS1 := Lib.hid (HS.out.later hb1)
            have HB1 := Lib.hid hb1
            clear hb1 HS
            have hw1 : w.heap.size + 1 < w1.heap.size := HS1.out.box.lt
            have hw0 : w.heap.size < w1.heap.size := by omega
            have c_w1_7 : w1.cell? ⟨w.heap.size + 1, 7, none⟩ = some (.slice Am D.msgs.length cm) := HS1.out.box.cell 7; have f_w1_7 : w1.frozen? ⟨w.heap.size + 1, 7, none⟩ = false := HS1.out.box.frozen 7
            simp only [rank, kname]
            go_wp2_with fail
            go_region_law (first
              | (go_simp; refine (message_any x (.slice Ax x.sigs.length cx) F _ (by exact HSL.out _ (fun b hb => by exact (heap_alloc_old _ _ (by omega)).trans (HB1.out.block b (by omega)))) (fun b hb => by have := HF.out b hb; simp; omega) (HOKX.out : _ ∧ _).1 (HOKX.out : _ ∧ _).2).mono ?_; rintro e w2 ⟨cs, rfl, ⟨v2, rfl, ho2⟩, hb2⟩
                 obtain ⟨A2, c2, rfl, _, _⟩ := (ho2.sl sigO_mono).form
                 simp only [msgCells]
                 have HS2 := Lib.hid ((HS1.out.alloc _).later ⟨hb2.os, hb2.tape, hb2.output, hb2.size, hb2.block⟩)
                 have HO2 := Lib.hid ho2
                 have HB2 := Lib.hid hb2
                 have hw2 : w1.heap.size + 1 ≤ w2.heap.size := by have := hb2.size; simpa using this
                 have hw2b : w.heap.size + 1 < w2.heap.size := by omega
                 clear ho2 hb2
                 have c_w2_7 : w2.cell? ⟨w.heap.size + 1, 7, none⟩ = some (.slice Am D.msgs.length cm) := HS2.out.box.cell 7; have f_w2_7 : w2.frozen? ⟨w.heap.size + 1, 7, none⟩ = false := HS2.out.box.frozen 7)
              | (refine step_append_lies _ (by rfl) (.tmp 78) (.tmp 81) 29 (by rfl) t1 74 iM _ 8 88 Tryd.underlying29 aM bM cM dM (by rfl) (by decide) (.slice Am D.msgs.length cm) D.msgs.length xsM (by rfl) (by exact HS2.out.msgs.1.alloc _) ⟨w2.heap.size, 0, none⟩ 1 1 (msgCells x (.slice A2 x.sigs.length c2)) (by rfl) (by rfl) (by exact news_new w2 _ _) (by intro u hu; simp [msgCells] at hu; rcases hu with rfl | rfl | rfl | rfl | rfl | rfl | rfl | rfl <;> rfl) (by omega) (by have := (hlM x rfl).out; have := HM.out; unfold maxLen; omega) (by have := (hlM x rfl).out; have := HM.out; omega) (by have := HS2.out.mid; have := HS2.out.hi; simp; omega) _ (by rfl) ?_; intro g c w3 hown hgrow hat hlt3
                 have hbx : Has w3 (w.heap.size + 1) 32 (dbB D (.slice As D.sta.names.length ca) (.slice Am D.msgs.length cm) (.slice At D.tabs.length ct)) := Has.grown (by exact HS2.out.box.alloc _) hgrow (fun e => by have := (HS2.out.msgs.1.lt _ e.symm).1; have := HS2.out.lo; have := HS2.out.mid; omega)
                 have HX3 := Lib.hid hbx
                 have HO3 := Lib.hid hown
                 have HG3 := Lib.hid hgrow
                 have HA3 := Lib.hid hat
                 have hw3 : w2.heap.size + 1 ≤ w3.heap.size := by have := hgrow.size; simpa using this
                 have hw3b : w.heap.size + 1 < w3.heap.size := by omega
                 clear hbx hown hgrow hat
                 have c_w3_7 : w3.cell? ⟨w.heap.size + 1, 7, none⟩ = some (.slice Am D.msgs.length cm) := HX3.out.cell 7; have f_w3_7 : w3.frozen? ⟨w.heap.size + 1, 7, none⟩ = false := HX3.out.frozen 7))
            all_goals
              go_wp2_with fail
              go_roundw
              case rel =>
                have hfin := (HS1.out.alloc _).msg (m := x) (by omega) ⟨HB2.out.os, HB2.out.tape, HB2.out.output, HB2.out.size, HB2.out.block⟩ (by exact ⟨_, rfl, HO2.out⟩) (by rfl) HO3.out rfl HG3.out (HA3.out.elim (fun h => .inl h.symm) (fun h => .inr (congrArg some h))) (by simp)
                exact ⟨k + 1, 3, _, _, _, _, _, _, _, by go_num, by go_num, by omega, by omega, by omega, Lib.hid (fun h => by omega), Lib.hid (by rw [HTK.out]; exact HGn.out), Lib.hid (by rw [HTK.out]; exact hfin)⟩
              case measure => simp [intOf]; omega
          · skip
            have hw : GR.no 4 k = gat l 0 0 d0 := by
              have := HG.out
              rwa [if_pos (by exact wrong_msg' hcond)] at this
            have HW := Lib.hid hw
            clear hw HG

            rcases (show last < 2 ∨ 3 < last by omega) with hc | hc
            · have hd1 : decide (2 ≤ last) = false := by simp; omega
              have hd2 : decide (3 < last) = false := by simp; omega
              go_wp2_with fail
              refine (kind_any (.msg x) _ _).mono ?_
              rintro e w1 ⟨rfl, hb1⟩
              have HS1 := Lib.hid (HS.out.later hb1)
              clear hb1 HS
              have c_w1_H_0 : w1.cell? ⟨w.heap.size, 0, none⟩ = some (.bool false) := HS1.out.res.cell 0; have f_w1_H_0 : w1.frozen? ⟨w.heap.size, 0, none⟩ = false := HS1.out.res.frozen 0; have c_w1_H_1 : w1.cell? ⟨w.heap.size, 1, none⟩ = some (.int .i64 0) := HS1.out.res.cell 1; have f_w1_H_1 : w1.frozen? ⟨w.heap.size, 1, none⟩ = false := HS1.out.res.frozen 1; have c_w1_H_2 : w1.cell? ⟨w.heap.size, 2, none⟩ = some (.int .i64 0) := HS1.out.res.cell 2; have f_w1_H_2 : w1.frozen? ⟨w.heap.size, 2, none⟩ = false := HS1.out.res.frozen 2; have c_w1_H_3 : w1.cell? ⟨w.heap.size, 3, none⟩ = some (.string ⟨#[]⟩) := HS1.out.res.cell 3; have f_w1_H_3 : w1.frozen? ⟨w.heap.size, 3, none⟩ = false := HS1.out.res.frozen 3; have c_w1_H_4 : w1.cell? ⟨w.heap.size, 4, none⟩ = some (.int .i64 0) := HS1.out.res.cell 4; have f_w1_H_4 : w1.frozen? ⟨w.heap.size, 4, none⟩ = false := HS1.out.res.frozen 4; have c_w1_H_5 : w1.cell? ⟨w.heap.size, 5, none⟩ = some (.int .i64 0) := HS1.out.res.cell 5; have f_w1_H_5 : w1.frozen? ⟨w.heap.size, 5, none⟩ = false := HS1.out.res.frozen 5; have c_w1_H_6 : w1.cell? ⟨w.heap.size, 6, none⟩ = some (.slice none 0 0) := HS1.out.res.cell 6; have f_w1_H_6 : w1.frozen? ⟨w.heap.size, 6, none⟩ = false := HS1.out.res.frozen 6; have c_w1_H_7 : w1.cell? ⟨w.heap.size, 7, none⟩ = some (.slice none 0 0) := HS1.out.res.cell 7; have f_w1_H_7 : w1.frozen? ⟨w.heap.size, 7, none⟩ = false := HS1.out.res.frozen 7; have c_w1_H_8 : w1.cell? ⟨w.heap.size, 8, none⟩ = some (.slice none 0 0) := HS1.out.res.cell 8; have f_w1_H_8 : w1.frozen? ⟨w.heap.size, 8, none⟩ = false := HS1.out.res.frozen 8
              simp only [rank, kname]
              go_wp2
              all_goals
                refine bodyPost_ret (results_block2 (g := w.heap.size) (T := 32) (cs' := dbZ) rfl rfl (by exact (((((((((HS1.out.res.set 0 _).set 1 _).set 2 _).set 3 _).set 4 _).set 5 _).set 6 _).set 7 _).set 8 _)) (by rfl) Tryd.underlying32 rfl (by kernel_rfl)) rfl ?_
                have hB := HS1.out.bel
                rw [← HW.out]
                exact ⟨(by repeat' (first | (with_reducible assumption) | (with_reducible refine Below.setCell ?_ ?_ _) | (with_reducible refine Below.alloc ?_ ?_ _) | (with_reducible refine Below.drew ?_) | (with_reducible refine below_drewN ?_ _) | (with_reducible exact Below.refl _ _) | (show _ ≤ _; (try simp); (try omega); done) | exact Below.refl _ _ | assumption)), rfl⟩
            · have hd1 : decide (2 ≤ last) = true := by simp; omega
              have hd2 : decide (3 < last) = true := by simp; omega
              go_wp2_with fail
              refine (kind_any (.msg x) _ _).mono ?_
              rintro e w1 ⟨rfl, hb1⟩
              have HS1 := Lib.hid (HS.out.later hb1)
              clear hb1 HS
              have c_w1_H_0 : w1.cell? ⟨w.heap.size, 0, none⟩ = some (.bool false) := HS1.out.res.cell 0; have f_w1_H_0 : w1.frozen? ⟨w.heap.size, 0, none⟩ = false := HS1.out.res.frozen 0; have c_w1_H_1 : w1.cell? ⟨w.heap.size, 1, none⟩ = some (.int .i64 0) := HS1.out.res.cell 1; have f_w1_H_1 : w1.frozen? ⟨w.heap.size, 1, none⟩ = false := HS1.out.res.frozen 1; have c_w1_H_2 : w1.cell? ⟨w.heap.size, 2, none⟩ = some (.int .i64 0) := HS1.out.res.cell 2; have f_w1_H_2 : w1.frozen? ⟨w.heap.size, 2, none⟩ = false := HS1.out.res.frozen 2; have c_w1_H_3 : w1.cell? ⟨w.heap.size, 3, none⟩ = some (.string ⟨#[]⟩) := HS1.out.res.cell 3; have f_w1_H_3 : w1.frozen? ⟨w.heap.size, 3, none⟩ = false := HS1.out.res.frozen 3; have c_w1_H_4 : w1.cell? ⟨w.heap.size, 4, none⟩ = some (.int .i64 0) := HS1.out.res.cell 4; have f_w1_H_4 : w1.frozen? ⟨w.heap.size, 4, none⟩ = false := HS1.out.res.frozen 4; have c_w1_H_5 : w1.cell? ⟨w.heap.size, 5, none⟩ = some (.int .i64 0) := HS1.out.res.cell 5; have f_w1_H_5 : w1.frozen? ⟨w.heap.size, 5, none⟩ = false := HS1.out.res.frozen 5; have c_w1_H_6 : w1.cell? ⟨w.heap.size, 6, none⟩ = some (.slice none 0 0) := HS1.out.res.cell 6; have f_w1_H_6 : w1.frozen? ⟨w.heap.size, 6, none⟩ = false := HS1.out.res.frozen 6; have c_w1_H_7 : w1.cell? ⟨w.heap.size, 7, none⟩ = some (.slice none 0 0) := HS1.out.res.cell 7; have f_w1_H_7 : w1.frozen? ⟨w.heap.size, 7, none⟩ = false := HS1.out.res.frozen 7; have c_w1_H_8 : w1.cell? ⟨w.heap.size, 8, none⟩ = some (.slice none 0 0) := HS1.out.res.cell 8; have f_w1_H_8 : w1.frozen? ⟨w.heap.size, 8, none⟩ = false := HS1.out.res.frozen 8
              simp only [rank, kname]
              go_wp2
              all_goals
                refine bodyPost_ret (results_block2 (g := w.heap.size) (T := 32) (cs' := dbZ) rfl rfl (by exact (((((((((HS1.out.res.set 0 _).set 1 _).set 2 _).set 3 _).set 4 _).set 5 _).set 6 _).set 7 _).set 8 _)) (by rfl) Tryd.underlying32 rfl (by kernel_rfl)) rfl ?_
                have hB := HS1.out.bel
                rw [← HW.out]
                exact ⟨(by repeat' (first | (with_reducible assumption) | (with_reducible refine Below.setCell ?_ ?_ _) | (with_reducible refine Below.alloc ?_ ?_ _) | (with_reducible refine Below.drew ?_) | (with_reducible refine below_drewN ?_ _) | (with_reducible exact Below.refl _ _) | (show _ ≤ _; (try simp); (try omega); done) | exact Below.refl _ _ | assumption)), rfl⟩
        | tab x =>
          obtain ⟨u, rfl, hsl⟩ := he
          obtain ⟨Ax, cx, rfl, _, _⟩ := hsl.form
          have HSL := Lib.hid (fun (w3 : World) (hb3 : ∀ b, b < w.heap.size → w3.heap[b]? = wr.heap[b]?) => hsl.keep rowE_mono (fun _ h => h) fun b hf => hb3 b (HF.out b hf))
          have hws := HS.out.bel.size
          clear hsl
          simp only [ndV] at hc0
          by_cases hcond : 2 ≤ last
          · skip
            have HGn := Lib.hid (show gat (l.drop (k + 1)) (k + 1) 4 (put D (some (.tab x))) = gat l 0 0 d0 by have := HG.out; rwa [if_neg (by rw [Bool.not_eq_true]; exact wrong_tab hcond hl4)] at this)
            clear HG
            have hd1 : decide (2 ≤ last) = true := by simp; omega
            have hd2 : decide (4 < last) = false := by simp; omega

            have hver := as_tab_ver (.agg (tabCells x (.slice Ax x.rows.length cx)).toArray)
            have hsta := as_tab_sta (.agg (tabCells x (.slice Ax x.rows.length cx)).toArray)
            have hmsg := as_tab_msg (.agg (tabCells x (.slice Ax x.rows.length cx)).toArray)
            have htab := as_tab_tab (.agg (tabCells x (.slice Ax x.rows.length cx)).toArray)
            simp only [verZ, staZ, msgZ, tabZ, tabCells] at hver hsta hmsg htab hc0
            go_wp2_with fail
            refine (kind_any (.tab x) (tabCells x (.slice Ax x.rows.length cx)) _).mono ?_
            rintro e w1 ⟨rfl, hb1⟩
            have HS1 := Lib.hid (HS.out.later hb1)
            have HB1 := Lib.hid hb1
            clear hb1 HS
            have hw1 : w.heap.size + 1 < w1.heap.size := HS1.out.box.lt
            have hw0 : w.heap.size < w1.heap.size := by omega
            have c_w1_8 : w1.cell? ⟨w.heap.size + 1, 8, none⟩ = some (.slice At D.tabs.length ct) := HS1.out.box.cell 8; have f_w1_8 : w1.frozen? ⟨w.heap.size + 1, 8, none⟩ = false := HS1.out.box.frozen 8
            simp only [rank, kname]
            go_wp2_with fail
            go_region_law (first
              | (go_simp; refine (table_any x (.slice Ax x.rows.length cx) F _ (by exact HSL.out _ (fun b hb => by exact (heap_alloc_old _ _ (by omega)).trans (HB1.out.block b (by omega)))) (fun b hb => by have := HF.out b hb; simp; omega) (show _ from HOKX.out)).mono ?_; rintro e w2 ⟨cs, rfl, ⟨v2, rfl, ho2⟩, hb2⟩
                 obtain ⟨A2, c2, rfl, _, _⟩ := (ho2.sl rowE_mono).form
                 simp only [tabCells]
                 have HS2 := Lib.hid ((HS1.out.alloc _).later ⟨hb2.os, hb2.tape, hb2.output, hb2.size, hb2.block⟩)
                 have HO2 := Lib.hid ho2
                 have HB2 := Lib.hid hb2
                 have hw2 : w1.heap.size + 1 ≤ w2.heap.size := by have := hb2.size; simpa using this
                 have hw2b : w.heap.size + 1 < w2.heap.size := by omega
                 clear ho2 hb2
                 have c_w2_8 : w2.cell? ⟨w.heap.size + 1, 8, none⟩ = some (.slice At D.tabs.length ct) := HS2.out.box.cell 8; have f_w2_8 : w2.frozen? ⟨w.heap.size + 1, 8, none⟩ = false := HS2.out.box.frozen 8)
              | (refine step_append_lies _ (by rfl) (.tmp 88) (.tmp 91) 30 (by rfl) t2 77 iT _ 6 64 Tryd.underlying30 aT bT cT dT (by rfl) (by decide) (.slice At D.tabs.length ct) D.tabs.length xsT (by rfl) (by exact HS2.out.tabs.1.alloc _) ⟨w2.heap.size, 0, none⟩ 1 1 (tabCells x (.slice A2 x.rows.length c2)) (by rfl) (by rfl) (by exact news_new w2 _ _) (by intro u hu; simp [tabCells] at hu; rcases hu with rfl | rfl | rfl | rfl | rfl | rfl <;> rfl) (by omega) (by have := (hlT x rfl).out; have := HT.out; unfold maxLen; omega) (by have := (hlT x rfl).out; have := HT.out; omega) (by have := HS2.out.mid; have := HS2.out.hi; simp; omega) _ (by rfl) ?_; intro g c w3 hown hgrow hat hlt3
                 have hbx : Has w3 (w.heap.size + 1) 32 (dbB D (.slice As D.sta.names.length ca) (.slice Am D.msgs.length cm) (.slice At D.tabs.length ct)) := Has.grown (by exact HS2.out.box.alloc _) hgrow (fun e => by have := (HS2.out.tabs.1.lt _ e.symm).1; have := HS2.out.lo; have := HS2.out.mid; omega)
                 have HX3 := Lib.hid hbx
                 have HO3 := Lib.hid hown
                 have HG3 := Lib.hid hgrow
                 have HA3 := Lib.hid hat
                 have hw3 : w2.heap.size + 1 ≤ w3.heap.size := by have := hgrow.size; simpa using this
                 have hw3b : w.heap.size + 1 < w3.heap.size := by omega
                 clear hbx hown hgrow hat
                 have c_w3_8 : w3.cell? ⟨w.heap.size + 1, 8, none⟩ = some (.slice At D.tabs.length ct) := HX3.out.cell 8; have f_w3_8 : w3.frozen? ⟨w.heap.size + 1, 8, none⟩ = false := HX3.out.frozen 8))
            all_goals
              go_wp2_with fail
              go_roundw
              case rel =>
                have hfin := (HS1.out.alloc _).tab (m := x) ⟨HB2.out.os, HB2.out.tape, HB2.out.output, HB2.out.size, HB2.out.block⟩ (by exact ⟨_, rfl, HO2.out⟩) (by rfl) HO3.out rfl HG3.out (HA3.out.elim (fun h => .inl h.symm) (fun h => .inr (congrArg some h))) (by simp)
                exact ⟨k + 1, 4, _, _, _, _, _, _, _, by go_num, by go_num, by omega, by omega, by omega, Lib.hid (fun h => by omega), Lib.hid (by rw [HTK.out]; exact HGn.out), Lib.hid (by rw [HTK.out]; exact hfin)⟩
              case measure => simp [intOf]; omega
          · skip
            have hw : GR.no 4 k = gat l 0 0 d0 := by
              have := HG.out
              rwa [if_pos (by exact wrong_tab' hcond)] at this
            have HW := Lib.hid hw
            clear hw HG

            have hd1 : decide (2 ≤ last) = false := by simp; omega
            have hd2 : decide (4 < last) = false := by simp; omega
            go_wp2_with fail
            refine (kind_any (.tab x) _ _).mono ?_
            rintro e w1 ⟨rfl, hb1⟩
            have HS1 := Lib.hid (HS.out.later hb1)
            clear hb1 HS
            have c_w1_H_0 : w1.cell? ⟨w.heap.size, 0, none⟩ = some (.bool false) := HS1.out.res.cell 0; have f_w1_H_0 : w1.frozen? ⟨w.heap.size, 0, none⟩ = false := HS1.out.res.frozen 0; have c_w1_H_1 : w1.cell? ⟨w.heap.size, 1, none⟩ = some (.int .i64 0) := HS1.out.res.cell 1; have f_w1_H_1 : w1.frozen? ⟨w.heap.size, 1, none⟩ = false := HS1.out.res.frozen 1; have c_w1_H_2 : w1.cell? ⟨w.heap.size, 2, none⟩ = some (.int .i64 0) := HS1.out.res.cell 2; have f_w1_H_2 : w1.frozen? ⟨w.heap.size, 2, none⟩ = false := HS1.out.res.frozen 2; have c_w1_H_3 : w1.cell? ⟨w.heap.size, 3, none⟩ = some (.string ⟨#[]⟩) := HS1.out.res.cell 3; have f_w1_H_3 : w1.frozen? ⟨w.heap.size, 3, none⟩ = false := HS1.out.res.frozen 3; have c_w1_H_4 : w1.cell? ⟨w.heap.size, 4, none⟩ = some (.int .i64 0) := HS1.out.res.cell 4; have f_w1_H_4 : w1.frozen? ⟨w.heap.size, 4, none⟩ = false := HS1.out.res.frozen 4; have c_w1_H_5 : w1.cell? ⟨w.heap.size, 5, none⟩ = some (.int .i64 0) := HS1.out.res.cell 5; have f_w1_H_5 : w1.frozen? ⟨w.heap.size, 5, none⟩ = false := HS1.out.res.frozen 5; have c_w1_H_6 : w1.cell? ⟨w.heap.size, 6, none⟩ = some (.slice none 0 0) := HS1.out.res.cell 6; have f_w1_H_6 : w1.frozen? ⟨w.heap.size, 6, none⟩ = false := HS1.out.res.frozen 6; have c_w1_H_7 : w1.cell? ⟨w.heap.size, 7, none⟩ = some (.slice none 0 0) := HS1.out.res.cell 7; have f_w1_H_7 : w1.frozen? ⟨w.heap.size, 7, none⟩ = false := HS1.out.res.frozen 7; have c_w1_H_8 : w1.cell? ⟨w.heap.size, 8, none⟩ = some (.slice none 0 0) := HS1.out.res.cell 8; have f_w1_H_8 : w1.frozen? ⟨w.heap.size, 8, none⟩ = false := HS1.out.res.frozen 8
            simp only [rank, kname]
            go_wp2
            all_goals
              refine bodyPost_ret (results_block2 (g := w.heap.size) (T := 32) (cs' := dbZ) rfl rfl (by exact (((((((((HS1.out.res.set 0 _).set 1 _).set 2 _).set 3 _).set 4 _).set 5 _).set 6 _).set 7 _).set 8 _)) (by rfl) Tryd.underlying32 rfl (by kernel_rfl)) rfl ?_
              have hB := HS1.out.bel
              rw [← HW.out]
              exact ⟨(by repeat' (first | (with_reducible assumption) | (with_reducible refine Below.setCell ?_ ?_ _) | (with_reducible refine Below.alloc ?_ ?_ _) | (with_reducible refine Below.drew ?_) | (with_reducible refine below_drewN ?_ _) | (with_reducible exact Below.refl _ _) | (show _ ≤ _; (try simp); (try omega); done) | exact Below.refl _ _ | assumption)), rfl⟩
    · obtain rfl : k = l.length := by omega
      rw [List.drop_length, gat, List.take_length] at HG
      rw [List.take_length] at HS
      generalize hD : l.foldl put d0 = D at *
      clear hD
      by_cases hlast : last < 2
      · have hw : GR.no 2 l.length = gat l 0 0 d0 := by have := HG.out; rwa [if_pos hlast] at this
        have HW := Lib.hid hw
        clear hw HG
        have c_wr_H_0 : wr.cell? ⟨w.heap.size, 0, none⟩ = some (.bool false) := HS.out.res.cell 0; have f_wr_H_0 : wr.frozen? ⟨w.heap.size, 0, none⟩ = false := HS.out.res.frozen 0; have c_wr_H_1 : wr.cell? ⟨w.heap.size, 1, none⟩ = some (.int .i64 0) := HS.out.res.cell 1; have f_wr_H_1 : wr.frozen? ⟨w.heap.size, 1, none⟩ = false := HS.out.res.frozen 1; have c_wr_H_2 : wr.cell? ⟨w.heap.size, 2, none⟩ = some (.int .i64 0) := HS.out.res.cell 2; have f_wr_H_2 : wr.frozen? ⟨w.heap.size, 2, none⟩ = false := HS.out.res.frozen 2; have c_wr_H_3 : wr.cell? ⟨w.heap.size, 3, none⟩ = some (.string ⟨#[]⟩) := HS.out.res.cell 3; have f_wr_H_3 : wr.frozen? ⟨w.heap.size, 3, none⟩ = false := HS.out.res.frozen 3; have c_wr_H_4 : wr.cell? ⟨w.heap.size, 4, none⟩ = some (.int .i64 0) := HS.out.res.cell 4; have f_wr_H_4 : wr.frozen? ⟨w.heap.size, 4, none⟩ = false := HS.out.res.frozen 4; have c_wr_H_5 : wr.cell? ⟨w.heap.size, 5, none⟩ = some (.int .i64 0) := HS.out.res.cell 5; have f_wr_H_5 : wr.frozen? ⟨w.heap.size, 5, none⟩ = false := HS.out.res.frozen 5; have c_wr_H_6 : wr.cell? ⟨w.heap.size, 6, none⟩ = some (.slice none 0 0) := HS.out.res.cell 6; have f_wr_H_6 : wr.frozen? ⟨w.heap.size, 6, none⟩ = false := HS.out.res.frozen 6; have c_wr_H_7 : wr.cell? ⟨w.heap.size, 7, none⟩ = some (.slice none 0 0) := HS.out.res.cell 7; have f_wr_H_7 : wr.frozen? ⟨w.heap.size, 7, none⟩ = false := HS.out.res.frozen 7; have c_wr_H_8 : wr.cell? ⟨w.heap.size, 8, none⟩ = some (.slice none 0 0) := HS.out.res.cell 8; have f_wr_H_8 : wr.frozen? ⟨w.heap.size, 8, none⟩ = false := HS.out.res.frozen 8
        go_wp2
        refine bodyPost_ret (results_block2 (g := w.heap.size) (T := 32) (cs' := dbZ) rfl rfl (by exact (((((((((HS.out.res.set 0 _).set 1 _).set 2 _).set 3 _).set 4 _).set 5 _).set 6 _).set 7 _).set 8 _)) (by rfl) Tryd.underlying32 rfl (by kernel_rfl)) rfl ?_
        have hB := HS.out.bel
        rw [← HW.out]
        exact ⟨(by repeat' (first | (with_reducible assumption) | (with_reducible refine Below.setCell ?_ ?_ _) | (with_reducible refine Below.alloc ?_ ?_ _) | (with_reducible refine Below.drew ?_) | (with_reducible refine below_drewN ?_ _) | (with_reducible exact Below.refl _ _) | (show _ ≤ _; (try simp); (try omega); done) | exact Below.refl _ _ | assumption)), rfl⟩
      · have hw : GR.ok D = gat l 0 0 d0 := by have := HG.out; rwa [if_neg hlast] at this
        have HW := Lib.hid hw
        obtain ⟨As, ca, rfl, _, _⟩ := (HS.out.names.sl strE_mono).form
        obtain ⟨Am, cm, rfl, _, _⟩ := (HS.out.msgs.sl msgO_mono).1.form_
        obtain ⟨At, ct, rfl, _, _⟩ := (HS.out.tabs.sl tabO_mono).1.form_
        clear hw HG
        have c_wr_H_0 : wr.cell? ⟨w.heap.size, 0, none⟩ = some (.bool false) := HS.out.res.cell 0; have f_wr_H_0 : wr.frozen? ⟨w.heap.size, 0, none⟩ = false := HS.out.res.frozen 0; have c_wr_H_1 : wr.cell? ⟨w.heap.size, 1, none⟩ = some (.int .i64 0) := HS.out.res.cell 1; have f_wr_H_1 : wr.frozen? ⟨w.heap.size, 1, none⟩ = false := HS.out.res.frozen 1; have c_wr_H_2 : wr.cell? ⟨w.heap.size, 2, none⟩ = some (.int .i64 0) := HS.out.res.cell 2; have f_wr_H_2 : wr.frozen? ⟨w.heap.size, 2, none⟩ = false := HS.out.res.frozen 2; have c_wr_H_3 : wr.cell? ⟨w.heap.size, 3, none⟩ = some (.string ⟨#[]⟩) := HS.out.res.cell 3; have f_wr_H_3 : wr.frozen? ⟨w.heap.size, 3, none⟩ = false := HS.out.res.frozen 3; have c_wr_H_4 : wr.cell? ⟨w.heap.size, 4, none⟩ = some (.int .i64 0) := HS.out.res.cell 4; have f_wr_H_4 : wr.frozen? ⟨w.heap.size, 4, none⟩ = false := HS.out.res.frozen 4; have c_wr_H_5 : wr.cell? ⟨w.heap.size, 5, none⟩ = some (.int .i64 0) := HS.out.res.cell 5; have f_wr_H_5 : wr.frozen? ⟨w.heap.size, 5, none⟩ = false := HS.out.res.frozen 5; have c_wr_H_6 : wr.cell? ⟨w.heap.size, 6, none⟩ = some (.slice none 0 0) := HS.out.res.cell 6; have f_wr_H_6 : wr.frozen? ⟨w.heap.size, 6, none⟩ = false := HS.out.res.frozen 6; have c_wr_H_7 : wr.cell? ⟨w.heap.size, 7, none⟩ = some (.slice none 0 0) := HS.out.res.cell 7; have f_wr_H_7 : wr.frozen? ⟨w.heap.size, 7, none⟩ = false := HS.out.res.frozen 7; have c_wr_H_8 : wr.cell? ⟨w.heap.size, 8, none⟩ = some (.slice none 0 0) := HS.out.res.cell 8; have f_wr_H_8 : wr.frozen? ⟨w.heap.size, 8, none⟩ = false := HS.out.res.frozen 8
        have c_wr_Hp1_0 : wr.cell? ⟨w.heap.size + 1, 0, none⟩ = some (.bool D.hasV) := HS.out.box.cell 0; have f_wr_Hp1_0 : wr.frozen? ⟨w.heap.size + 1, 0, none⟩ = false := HS.out.box.frozen 0; have c_wr_Hp1_1 : wr.cell? ⟨w.heap.size + 1, 1, none⟩ = some (.int .i64 D.ver.line) := HS.out.box.cell 1; have f_wr_Hp1_1 : wr.frozen? ⟨w.heap.size + 1, 1, none⟩ = false := HS.out.box.frozen 1; have c_wr_Hp1_2 : wr.cell? ⟨w.heap.size + 1, 2, none⟩ = some (.int .i64 D.ver.col) := HS.out.box.cell 2; have f_wr_Hp1_2 : wr.frozen? ⟨w.heap.size + 1, 2, none⟩ = false := HS.out.box.frozen 2; have c_wr_Hp1_3 : wr.cell? ⟨w.heap.size + 1, 3, none⟩ = some (.string D.ver.text) := HS.out.box.cell 3; have f_wr_Hp1_3 : wr.frozen? ⟨w.heap.size + 1, 3, none⟩ = false := HS.out.box.frozen 3; have c_wr_Hp1_4 : wr.cell? ⟨w.heap.size + 1, 4, none⟩ = some (.int .i64 D.sta.line) := HS.out.box.cell 4; have f_wr_Hp1_4 : wr.frozen? ⟨w.heap.size + 1, 4, none⟩ = false := HS.out.box.frozen 4; have c_wr_Hp1_5 : wr.cell? ⟨w.heap.size + 1, 5, none⟩ = some (.int .i64 D.sta.col) := HS.out.box.cell 5; have f_wr_Hp1_5 : wr.frozen? ⟨w.heap.size + 1, 5, none⟩ = false := HS.out.box.frozen 5; have c_wr_Hp1_6 : wr.cell? ⟨w.heap.size + 1, 6, none⟩ = some (.slice As D.sta.names.length ca) := HS.out.box.cell 6; have f_wr_Hp1_6 : wr.frozen? ⟨w.heap.size + 1, 6, none⟩ = false := HS.out.box.frozen 6; have c_wr_Hp1_7 : wr.cell? ⟨w.heap.size + 1, 7, none⟩ = some (.slice Am D.msgs.length cm) := HS.out.box.cell 7; have f_wr_Hp1_7 : wr.frozen? ⟨w.heap.size + 1, 7, none⟩ = false := HS.out.box.frozen 7; have c_wr_Hp1_8 : wr.cell? ⟨w.heap.size + 1, 8, none⟩ = some (.slice At D.tabs.length ct) := HS.out.box.cell 8; have f_wr_Hp1_8 : wr.frozen? ⟨w.heap.size + 1, 8, none⟩ = false := HS.out.box.frozen 8
        go_wp2
        refine bodyPost_ret (results_block2 (g := w.heap.size) (T := 32) (cs' := dbB D (.slice As D.sta.names.length ca) (.slice Am D.msgs.length cm) (.slice At D.tabs.length ct)) rfl rfl (by exact (((((((((HS.out.res.set 0 _).set 1 _).set 2 _).set 3 _).set 4 _).set 5 _).set 6 _).set 7 _).set 8 _)) (by rfl) Tryd.underlying32 rfl (by kernel_rfl)) rfl ?_
        have hB := HS.out.bel
        rw [← HW.out]
        exact ⟨(by repeat' (first | (with_reducible assumption) | (with_reducible refine Below.setCell ?_ ?_ _) | (with_reducible refine Below.alloc ?_ ?_ _) | (with_reducible refine Below.drew ?_) | (with_reducible refine below_drewN ?_ _) | (with_reducible exact Below.refl _ _) | (show _ ≤ _; (try simp); (try omega); done) | exact Below.refl _ _ | assumption)), _, rfl, HS.out.done (fun b hb => by exact (heap_setCell_other _ _ _ _ (by simp; omega)).trans ((heap_setCell_other _ _ _ _ (by simp; omega)).trans ((heap_setCell_other _ _ _ _ (by simp; omega)).trans ((heap_setCell_other _ _ _ _ (by simp; omega)).trans ((heap_setCell_other _ _ _ _ (by simp; omega)).trans ((heap_setCell_other _ _ _ _ (by simp; omega)).trans ((heap_setCell_other _ _ _ _ (by simp; omega)).trans ((heap_setCell_other _ _ _ _ (by simp; omega)).trans ((heap_setCell_other _ _ _ _ (by simp; omega)).trans (rfl)))))))))) (by simp)⟩
end gatherL
end Go.Proofs.YtoekdlipaomniaaDoor
