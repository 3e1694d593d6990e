/- NodeNames: of any database, for each message Find tells one of its name, the first one. No condition but the row's own. -/
import Derived.Test.YtibgjemjdbfajaaNodeFind
import Derived.Test.YtibgjemjdbfajaaSameK
namespace Go.Proofs.Ytibgjemjdbfajaa
open Go.RowKit Go.Bus Go.Bus.cellK Go.Bus.dbK
set_option linter.unusedVariables false
namespace nodeN
open nodeC nodeK nodeL nodeF sameK
def firstM : List Msg → ByteArray → Option Msg
  | [], _ => none
  | m :: l, s => if m.name = s then some m else firstM l s
theorem find_tabs (l : List Tab) (s : ByteArray) : findN (l.map .tab) s = none := by
  induction l with
  | nil => rfl
  | cons t l ih => exact ih
theorem find_msgs (l : List Msg) (r : List Nd) (s : ByteArray) (hr : findN r s = none) : findN (l.map .msg ++ r) s = firstM l s := by
  induction l with
  | nil => exact hr
  | cons m l ih =>
    simp only [List.map_cons, List.cons_append, findN, firstM]
    split
    · rfl
    · exact ih
theorem find_nodes (d : Db) (s : ByteArray) : findN (nodes d) s = firstM d.msgs s := by
  unfold nodes
  have h := find_msgs d.msgs (d.tabs.map .tab) s (find_tabs _ _)
  cases d.hasV
  · simpa [findN, List.append_assoc] using h
  · simpa [findN, List.append_assoc] using h
/-- No message of l has this name. -/
def fresh (l : List Msg) (s : ByteArray) : Bool := l.all fun m => !(m.name.toList == s.toList)
theorem fresh_snoc {l : List Msg} {j : Nat} (h : j < l.length) (s : ByteArray) : fresh (l.take (j + 1)) s = (fresh (l.take j) s && !(l[j].name.toList == s.toList)) := by
  unfold fresh
  rw [List.take_succ_eq_append_getElem h, List.all_append]
  simp
theorem first_at : ∀ (l : List Msg) (k : Nat) (h : k < l.length), ∃ m, firstM l l[k].name = some m ∧ m.name = l[k].name ∧ (fresh (l.take k) l[k].name = true → m = l[k])
  | m :: l, 0, h => ⟨m, by simp [firstM], rfl, fun _ => rfl⟩
  | m :: l, k + 1, h => by
    have hk : k < l.length := by simpa using h
    by_cases hn : m.name = l[k].name
    · refine ⟨m, by simp [firstM, hn], by simpa using hn, fun hf => ?_⟩
      simp [fresh, hn] at hf
    · obtain ⟨m', h1, h2, h3⟩ := first_at l k hk
      refine ⟨m', by simp only [List.getElem_cons_succ, firstM, if_neg hn]; exact h1, by simpa using h2, fun hf => ?_⟩
      simp only [List.getElem_cons_succ]
      refine h3 ?_
      simp only [List.getElem_cons_succ, List.take_succ_cons, fresh, List.all_cons, Bool.and_eq_true] at hf
      exact hf.2
theorem nodes_msgs {d : Db} {m : Msg} (h : Nd.msg m ∈ nodes d) : m ∈ d.msgs := by
  unfold nodes at h
  cases hv : d.hasV <;> simp [hv] at h <;> exact h
set_option maxRecDepth 100000 in
set_option maxHeartbeats 1000000 in
theorem works_any (w : World) : Calls Try.prog 13 #[] w fun e w' => e = .returned (.bool true) ∧ Below w.heap.size w w' := by
  go_enter Try.func13, Try.ntmps13
  go_wp2_with (go_at_call 18; refine (Kind_any (.sta ⟨0, 0, []⟩) [.int .i64 0, .int .i64 0, .slice none 0 0] _).mono ?_; rintro e w1 ⟨rfl, hb⟩; have HB := Lib.hid hb; clear hb; simp only [kname])
  go_ret
  exact ⟨rfl, HB.out⟩
set_option maxRecDepth 100000 in
set_option maxHeartbeats 4000000 in
theorem walk (d : Db) (cs : List Value) (w : World) (h : dbE w (Old w.heap.size) cs d) (hok : DbOk d) :
    Calls Try.prog 4 #[.agg cs.toArray] w (Yes w) := by
  obtain ⟨sv, mv, tv, rfl, hs, hm, ht⟩ := h
  have b1 : d.msgs.length * 88 ≤ 140737488351232 := hok.mlen
  have HS := Lib.hid hs; have HM := Lib.hid hm; have HT := Lib.hid ht
  obtain ⟨As, cs1, rfl, _, _⟩ := hs.form
  obtain ⟨Am, cm, rfl, hm1, hm2⟩ := hm.form
  obtain ⟨At, ct, rfl, _, _⟩ := ht.form
  have hm3 : cm ≤ 9223372036854775807 := by unfold maxLen at hm2; omega
  have HO := Lib.hid hok
  clear hs hm ht hm2 hok
  show Calls Try.prog 4 #[.agg #[.bool d.hasV, .int .i64 d.ver.line, .int .i64 d.ver.col, .string d.ver.text, .int .i64 d.sta.line, .int .i64 d.sta.col, .slice As d.sta.names.length cs1, .slice Am d.msgs.length cm, .slice At d.tabs.length ct]] w (Yes w)
  go_enter Try.func4, Try.ntmps4
  go_wp2_with fail
  refine (works_any _).mono ?_
  rintro e w1 ⟨rfl, hb1⟩
  have hh1 := Has.below (Has.new w _ _) hb1 (by simp)
  have HH1 := Lib.hid hh1
  have hB1 : Below w.heap.size w w1 := Below.trans (by repeat' (first | (with_reducible assumption) | (with_reducible refine Below.setCell ?_ ?_ _) | (with_reducible refine Below.alloc ?_ ?_ _) | (with_reducible refine Below.drew ?_) | (with_reducible refine below_drewN ?_ _) | (with_reducible exact Below.refl _ _) | (show _ ≤ _; (try simp); (try omega); done) | exact Below.refl _ _ | assumption)) (hb1.mono (by simp))
  have HB1 := Lib.hid hB1
  have hz1 := hb1.size
  simp at hz1
  clear hh1 hb1 hB1
  have c_w1_H_0 : w1.cell? ⟨w.heap.size, 0, none⟩ = some (.bool d.hasV) := HH1.out.cell 0; have f_w1_H_0 : w1.frozen? ⟨w.heap.size, 0, none⟩ = false := HH1.out.frozen 0; have c_w1_H_1 : w1.cell? ⟨w.heap.size, 1, none⟩ = some (.int .i64 d.ver.line) := HH1.out.cell 1; have f_w1_H_1 : w1.frozen? ⟨w.heap.size, 1, none⟩ = false := HH1.out.frozen 1; have c_w1_H_2 : w1.cell? ⟨w.heap.size, 2, none⟩ = some (.int .i64 d.ver.col) := HH1.out.cell 2; have f_w1_H_2 : w1.frozen? ⟨w.heap.size, 2, none⟩ = false := HH1.out.frozen 2; have c_w1_H_3 : w1.cell? ⟨w.heap.size, 3, none⟩ = some (.string d.ver.text) := HH1.out.cell 3; have f_w1_H_3 : w1.frozen? ⟨w.heap.size, 3, none⟩ = false := HH1.out.frozen 3; have c_w1_H_4 : w1.cell? ⟨w.heap.size, 4, none⟩ = some (.int .i64 d.sta.line) := HH1.out.cell 4; have f_w1_H_4 : w1.frozen? ⟨w.heap.size, 4, none⟩ = false := HH1.out.frozen 4; have c_w1_H_5 : w1.cell? ⟨w.heap.size, 5, none⟩ = some (.int .i64 d.sta.col) := HH1.out.cell 5; have f_w1_H_5 : w1.frozen? ⟨w.heap.size, 5, none⟩ = false := HH1.out.frozen 5; have c_w1_H_6 : w1.cell? ⟨w.heap.size, 6, none⟩ = some (.slice As d.sta.names.length cs1) := HH1.out.cell 6; have f_w1_H_6 : w1.frozen? ⟨w.heap.size, 6, none⟩ = false := HH1.out.frozen 6; have c_w1_H_7 : w1.cell? ⟨w.heap.size, 7, none⟩ = some (.slice Am d.msgs.length cm) := HH1.out.cell 7; have f_w1_H_7 : w1.frozen? ⟨w.heap.size, 7, none⟩ = false := HH1.out.frozen 7; have c_w1_H_8 : w1.cell? ⟨w.heap.size, 8, none⟩ = some (.slice At d.tabs.length ct) := HH1.out.cell 8; have f_w1_H_8 : w1.frozen? ⟨w.heap.size, 8, none⟩ = false := HH1.out.frozen 8
  go_wp2_with fail
  refine (list_any d _ _ _ (Old w.heap.size) w1 (HS.out.below strE_mono HB1.out) (HM.out.below msgE_mono HB1.out) (HT.out.below tabE_mono HB1.out) (fun b hb => by have := HB1.out.size; exact Nat.lt_of_lt_of_le hb this) HO.out).mono ?_
  rintro e w2 ⟨v, rfl, hn, hb2⟩
  have hs2 := hb2.size
  have HH2 := Lib.hid (HH1.out.below hb2 (by omega))
  have HB2 := Lib.hid (HB1.out.trans (hb2.mono (by omega)))
  have HM2 := Lib.hid ((HM.out.below msgE_mono HB1.out).belowF msgE_mono (fun b hb => Nat.lt_of_lt_of_le hb (by omega)) hb2)
  obtain ⟨Av, cv, rfl, _, _⟩ := (hn.sl ndO_mono).form
  have HN2 := Lib.hid (((hn.sl ndO_mono).weak fun _ _ => ndO_ndE).more ndE_mono (F' := Old w2.heap.size) fun b hb => hb.2)
  clear hn hb2 HS HM HT HH1 HB1 c_w1_H_0 c_w1_H_1 c_w1_H_2 c_w1_H_3 c_w1_H_4 c_w1_H_5 c_w1_H_6 c_w1_H_7 c_w1_H_8 f_w1_H_0 f_w1_H_1 f_w1_H_2 f_w1_H_3 f_w1_H_4 f_w1_H_5 f_w1_H_6 f_w1_H_7 f_w1_H_8
  go_wp2
  go_loopw [4] (fun i wr => ∃ k : Nat, i = .int .i64 k ∧ k ≤ d.msgs.length ∧ k ≤ 600 ∧ Hid (Below w2.heap.size w2 wr)) (fun i _ => d.msgs.length - (intOf i).toNat)
  case atStart => exact ⟨0, rfl, Nat.zero_le _, Nat.zero_le _, Below.refl _ _⟩
  case round =>
    obtain ⟨k, rfl, hk, hk6, HB⟩ := hrel
    have c7 : wr.cell? ⟨w.heap.size, 7, none⟩ = some (.slice Am d.msgs.length cm) := (HH2.out.below HB.out HH2.out.lt).cell 7
    have hsz : w2.heap.size ≤ wr.heap.size := HB.out.size
    have hHlt : w.heap.size < w2.heap.size := HH2.out.lt
    by_cases hlt : k < d.msgs.length
    · by_cases h6 : k < 600
      · obtain ⟨b, off, cs, hA, hFb, hcl, hr, he⟩ := HM2.out.at_ hlt
        obtain ⟨u, hcs, hsl⟩ := he
        obtain ⟨Au, cu, rfl, _, _⟩ := hsl.form
        subst hA hcs
        have hFb : b < w.heap.size := hFb
        obtain ⟨m1, hm1a, hm1b, hm1c⟩ := first_at d.msgs k hlt
        have hmk : d.msgs[k] ∈ d.msgs := List.getElem_mem hlt
        have hkeep : ∀ W : World, Below w2.heap.size w2 W → W.rangeAt b (off + k * 8) (msgCells d.msgs[k] (.slice Au d.msgs[k].sigs.length cu)) := fun W hW => range_keep (hW.block b (by omega)) hr
        have HK := Lib.hid hkeep
        have HSL := Lib.hid hsl
        have HM1 := Lib.hid hm1a; have HM1n := Lib.hid hm1b; have HM1c := Lib.hid hm1c; have HMK := Lib.hid hmk
        clear hr hcl hsl hkeep hm1a hm1b hm1c hmk
        generalize d.msgs[k] = mk at *
        have n4 : wr.cell? ⟨b, off + k * 8 + 4, none⟩ = some (.string mk.name) := HK.out _ HB.out 4 _ rfl
        go_wp2_with fail
        refine (find_any (.slice Av (nodes d).length cv) (nodes d) mk.name (Old w2.heap.size) wr (HN2.out.belowF ndE_mono (fun b hb => hb) HB.out) (fun b hb => Nat.lt_of_lt_of_le hb hsz) (fun m hm => HO.out.msgs m (nodes_msgs hm))).mono ?_
        rintro e w3 ⟨hb3, hfp⟩
        rw [find_nodes, HM1.out] at hfp
        obtain ⟨c3, rfl, u3, rfl, ho3⟩ := hfp
        obtain ⟨A3, c3, rfl, _, _⟩ := (ho3.sl sigO_mono).form
        have hs3 := hb3.size
        have hB3 : Below w2.heap.size w2 w3 := HB.out.trans (hb3.mono hsz)
        have HB3 := Lib.hid hB3
        have HE3 := Lib.hid (show SlK 19 sigE w3 (Old w3.heap.size) (.slice A3 m1.sigs.length c3) m1.sigs from ((ho3.sl sigO_mono).weak fun _ _ => sigO_sigE).more sigE_mono fun b hb => hb.2)
        have d7 : w3.cell? ⟨w.heap.size, 7, none⟩ = some (.slice (some ⟨b, off, none⟩) d.msgs.length cm) := (HH2.out.below hB3 HH2.out.lt).cell 7
        have k0 : w3.cell? ⟨b, off + k * 8, none⟩ = some (.int .i64 mk.line) := HK.out _ hB3 0 _ rfl
        have k1 : w3.cell? ⟨b, off + k * 8 + 1, none⟩ = some (.int .i64 mk.col) := HK.out _ hB3 1 _ rfl
        have k2 : w3.cell? ⟨b, off + k * 8 + 2, none⟩ = some (.int .u32 mk.id) := HK.out _ hB3 2 _ rfl
        have k3 : w3.cell? ⟨b, off + k * 8 + 3, none⟩ = some (.bool mk.wide) := HK.out _ hB3 3 _ rfl
        have k4 : w3.cell? ⟨b, off + k * 8 + 4, none⟩ = some (.string mk.name) := HK.out _ hB3 4 _ rfl
        have k5 : w3.cell? ⟨b, off + k * 8 + 5, none⟩ = some (.int .i64 mk.size) := HK.out _ hB3 5 _ rfl
        have k6 : w3.cell? ⟨b, off + k * 8 + 6, none⟩ = some (.string mk.sender) := HK.out _ hB3 6 _ rfl
        have k7 : w3.cell? ⟨b, off + k * 8 + 7, none⟩ = some (.slice Au mk.sigs.length cu) := HK.out _ hB3 7 _ rfl
        have q1 : w.heap.size < w3.heap.size := by omega
        have q2 : b < w3.heap.size := by omega
        have hne : (m1.name.toList == mk.name.toList) = true := by rw [HM1n.out]; simp
        have hb1 : (0 : Int) ≤ (k : Int) := Int.natCast_nonneg _
        have hb2 : (k : Int) < (d.msgs.length : Int) := by omega
        clear hb3 ho3 hB3
        simp only [msgCells]
        go_wp2_with fail
        go_quiet (fail)
        go_wp2
        go_loopw [7, 8] (fun f j wi => ∃ j' n : Nat, j = .int .i64 j' ∧ j' ≤ k ∧ f = .bool (fresh (d.msgs.take j') mk.name) ∧ wi = (w3.alloc (.cells #[.int .i64 m1.line, .int .i64 m1.col, .int .u32 m1.id, .bool m1.wide, .string m1.name, .int .i64 m1.size, .string m1.sender, .slice A3 m1.sigs.length c3] 62)).drewN n) (fun _ j _ => k - (intOf j).toNat)
        case atStart => exact ⟨0, _, rfl, Nat.zero_le _, rfl, rfl⟩
        case round =>
          obtain ⟨j, n, rfl, hj, rfl, rfl⟩ := hrel
          by_cases hjl : j < k
          · obtain ⟨b', off', cs', hA', _, _, hr', he'⟩ := HM2.out.at_ (show j < d.msgs.length by omega)
            obtain ⟨rfl, rfl⟩ : b = b' ∧ off = off' := by simpa using hA'
            obtain ⟨u', rfl, _⟩ := he'
            have hfs := fresh_snoc (show j < d.msgs.length by omega) mk.name
            have j4 : w3.cell? ⟨b, off + j * 8 + 4, none⟩ = some (.string d.msgs[j].name) := range_keep (HB3.out.block b (by omega)) hr' 4 _ rfl
            generalize d.msgs[j].name = nj at *
            have HFS := Lib.hid hfs
            clear hr' hA' hfs
            have hj1 : (0 : Int) ≤ (j : Int) := Int.natCast_nonneg _
            have hj2 : (j : Int) < (d.msgs.length : Int) := by omega
            cases hf : fresh (d.msgs.take j) mk.name
            · go_wp2_with fail
              go_quiet (fail)
              go_wp2
              go_roundw
              case rel => exact ⟨j + 1, _, by go_num, by omega, by rw [HFS.out, hf]; rfl, rfl⟩
              case measure => simp [intOf]; omega
            · go_wp2_with fail
              go_quiet (fail)
              go_wp2
              go_roundw
              case rel => exact ⟨j + 1, _, by go_num, by omega, by rw [HFS.out, hf, Bool.true_and], rfl⟩
              case measure => simp [intOf]; omega
          · obtain rfl : j = k := by omega
            cases hf : fresh (d.msgs.take j) mk.name
            · go_wp2_with fail
              go_quiet (fail)
              go_wp2
              go_roundw
              case rel => exact ⟨j + 1, by go_num, by omega, by omega, Lib.hid (below_drewN (HB3.out.alloc (by omega) _) _)⟩
              case measure => simp [intOf]; omega
            · obtain rfl := HM1c.out hf
              clear HM1c HM1n HM1
              go_wp2_with fail
              go_still_tail 8, (by kernel_rfl)
              change wpStill _ _ (World.drew _) _ _ _
              repeat still_step
              refine wpStill_nil ?_
              change wpList _ _ _ _ _ (World.drew _)
              go_wp2_with fail
              refine (sameMessage m1 (msgCells m1 (.slice A3 m1.sigs.length c3)) (msgCells m1 (.slice Au m1.sigs.length cu)) (Old w3.heap.size) (Old w.heap.size) _ ?s1 ?s2 ?s3 ?s4).mono ?_
              case s1 => exact ⟨_, rfl, HE3.out.keep sigE_mono (fun _ h => h) fun b hb => heap_alloc_old w3 _ hb⟩
              case s2 => exact ⟨_, rfl, HSL.out.keep sigE_mono (fun _ h => h) fun b hb => (heap_alloc_old w3 _ (show b < w3.heap.size by have hb : b < w.heap.size := hb; omega)).trans (HB3.out.block b (by have hb : b < w.heap.size := hb; omega))⟩
              case s3 => intro b hb; show b < (w3.alloc _).heap.size; simp; have hb : b < w3.heap.size := hb; omega
              case s4 => intro b hb; show b < (w3.alloc _).heap.size; simp; have hb : b < w.heap.size := hb; omega
              rintro e w5 ⟨rfl, hb5⟩
              have hB5 : Below w2.heap.size w2 w5 := (HB3.out.alloc (by omega) _).trans (Below.mono ⟨hb5.os, hb5.tape, hb5.output, hb5.size, hb5.block⟩ (by show w2.heap.size ≤ (w3.alloc _).heap.size; simp; omega))
              have HB5 := Lib.hid hB5
              clear hB5 hb5
              go_wp2
              go_roundw
              case rel => exact ⟨j + 1, by go_num, by omega, by omega, HB5⟩
              case measure => simp [intOf]; omega
      · obtain rfl : k = 600 := by omega
        go_wp2
        go_ret
        exact ⟨rfl, HB2.out.trans (HB.out.mono (by omega))⟩
    · obtain rfl : k = d.msgs.length := by omega
      go_wp2
      go_ret
      exact ⟨rfl, HB2.out.trans (HB.out.mono (by omega))⟩
end nodeN
end Go.Proofs.Ytibgjemjdbfajaa
