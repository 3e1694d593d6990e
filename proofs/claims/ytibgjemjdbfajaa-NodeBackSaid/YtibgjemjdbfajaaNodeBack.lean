/- NodeBack: of any database: its parts gathered are it, and how many they are. No condition but the row's own. -/
import Derived.Test.YtibgjemjdbfajaaNodeNames
import Derived.Test.YtibgjemjdbfajaaGather
import Derived.Test.YtibgjemjdbfajaaPlainDb
import Derived.Test.YtibgjemjdbfajaaSameDb
namespace Go.Proofs.Ytibgjemjdbfajaa
open Go.RowKit Go.Bus Go.Bus.cellK Go.Bus.dbK
set_option linter.unusedVariables false
set_option linter.unusedSimpArgs false
namespace nodeB
open nodeC nodeK nodeL nodeF sameK nodeN gatherL copyD
theorem gat_tabs : ∀ (l : List Tab) (i : Nat) (last : Int) (D : Db), 2 ≤ last → last ≤ 4 → gat (l.map fun t => some (Nd.tab t)) i last D = .ok { D with tabs := D.tabs ++ l }
  | [], i, last, D, h, _ => by
    rw [List.map_nil, gat, if_neg (by omega), List.append_nil]
  | t :: l, i, last, D, h, h4 => by
    rw [List.map_cons, gat, if_neg (by rw [Bool.not_eq_true]; exact wrong_tab h h4), gat_tabs l _ _ _ (by simp [rankO, rank]) (by simp [rankO, rank])]
    simp [put, List.append_assoc]
theorem gat_msgs (ts : List Tab) : ∀ (l : List Msg) (i : Nat) (last : Int) (D : Db), 2 ≤ last → last ≤ 3 → gat ((l.map fun m => some (Nd.msg m)) ++ ts.map fun t => some (Nd.tab t)) i last D = .ok { D with msgs := D.msgs ++ l, tabs := D.tabs ++ ts }
  | [], i, last, D, h, h3 => by
    rw [List.map_nil, List.nil_append, gat_tabs ts i last D h (by omega), List.append_nil]
  | m :: l, i, last, D, h, h3 => by
    rw [List.map_cons, List.cons_append, gat, if_neg (by rw [Bool.not_eq_true]; exact wrong_msg h h3), gat_msgs ts l _ _ _ (by simp [rankO, rank]) (by simp [rankO, rank])]
    simp [put, List.append_assoc]
def told (d : Db) : Db := if d.hasV then d else { d with ver := ⟨0, 0, ⟨#[]⟩⟩ }
theorem gat_nodes (d : Db) : gat ((nodes d).map some) 0 0 d0 = .ok (told d) := by
  obtain ⟨hasV, ver, sta, msgs, tabs⟩ := d
  cases hasV
  · have h : (nodes ⟨false, ver, sta, msgs, tabs⟩).map some = some (.sta sta) :: ((msgs.map fun m => some (Nd.msg m)) ++ tabs.map fun t => some (Nd.tab t)) := by simp [nodes, List.map_append, List.map_map, Function.comp_def]
    rw [h, gat, if_neg (by simp [wrong, rankO, rank]), gat_msgs tabs msgs _ _ _ (by simp [rankO, rank]) (by simp [rankO, rank])]
    simp [put, d0, told]
  · have h : (nodes ⟨true, ver, sta, msgs, tabs⟩).map some = some (.ver ver) :: some (.sta sta) :: ((msgs.map fun m => some (Nd.msg m)) ++ tabs.map fun t => some (Nd.tab t)) := by simp [nodes, List.map_append, List.map_map, Function.comp_def]
    rw [h, gat, if_neg (by simp [wrong, rankO, rank]), gat, if_neg (by simp [wrong, rankO, rank]), gat_msgs tabs msgs _ _ _ (by simp [rankO, rank]) (by simp [rankO, rank])]
    simp [put, d0, told]
theorem len_nodes (d : Db) : (nodes d).length = (if d.hasV then 1 else 0) + (1 + d.msgs.length + d.tabs.length) := by
  unfold nodes
  cases d.hasV <;> simp <;> omega
theorem get_msgs (d : Db) : ((nodes d).map some).filterMap getM = d.msgs := by
  have h1 : ∀ l : List Msg, (l.map fun m => some (Nd.msg m)).filterMap getM = l := fun l => by induction l <;> simp_all [List.filterMap_cons, getM]
  have h2 : ∀ l : List Tab, (l.map fun m => some (Nd.tab m)).filterMap getM = [] := fun l => by induction l <;> simp_all [List.filterMap_cons, getM]
  unfold nodes
  cases d.hasV <;> simp only [List.map_append, List.filterMap_append, List.map_map, Function.comp_def, h1, h2] <;> simp [List.filterMap_cons, getM]
theorem get_tabs (d : Db) : ((nodes d).map some).filterMap getT = d.tabs := by
  have h1 : ∀ l : List Msg, (l.map fun m => some (Nd.msg m)).filterMap getT = [] := fun l => by induction l <;> simp_all [List.filterMap_cons, getT]
  have h2 : ∀ l : List Tab, (l.map fun m => some (Nd.tab m)).filterMap getT = l := fun l => by induction l <;> simp_all [List.filterMap_cons, getT]
  unfold nodes
  cases d.hasV <;> simp only [List.map_append, List.filterMap_append, List.map_map, Function.comp_def, h1, h2] <;> simp [List.filterMap_cons, getT]
theorem ok_nodes {d : Db} (h : DbOk d) : ∀ x ∈ (nodes d).map some, okN x := by
  intro x hx
  obtain ⟨y, hy, rfl⟩ := List.mem_map.1 hx
  unfold nodes at hy
  simp only [List.mem_append, List.mem_map, List.mem_singleton] at hy
  rcases hy with ((hy | rfl) | ⟨m, hm, rfl⟩) | ⟨t, ht, rfl⟩
  · cases hv : d.hasV with
    | false => simp [hv] at hy
    | true => simp [hv] at hy; subst hy; trivial
  · exact h.names
  · exact ⟨(h.msgs m hm).len, fun s hs => ((h.msgs m hm).sigs s hs).to⟩
  · exact (h.tabs t ht).len
theorem some_sl {w : World} {F : Foot} {v : Value} {l : List Nd} (h : SlK 1 ndE w F v l) : SlK 1 noE w F v (l.map some) := by
  obtain ⟨xs, h1, h2⟩ := h
  refine ⟨xs, by simpa using h1, fun i x hi => ?_⟩
  rw [List.getElem?_map] at hi
  cases hy : l[i]? with
  | none => rw [hy] at hi; cases hi
  | some y => rw [hy] at hi; cases hi; exact h2 i y hy
set_option maxRecDepth 100000 in
set_option maxHeartbeats 1000000 in
set_option maxRecDepth 100000 in
set_option maxHeartbeats 4000000 in
theorem walk (d : Db) (cs : List Value) (w : World) (h : dbE w (Old w.heap.size) cs d) (hok : DbOk d) :
    Calls Try.prog 6 #[.agg cs.toArray] w (Yes w) := by
  have HD0 := Lib.hid h
  obtain ⟨sv, mv, tv, rfl, hs, hm, ht⟩ := h
  have b1 : d.msgs.length * 88 ≤ 140737488351232 := hok.mlen
  have b2 : d.tabs.length * 64 ≤ 140737488351232 := hok.tlen
  have HS := Lib.hid hs; have HM := Lib.hid hm; have HT := Lib.hid ht
  obtain ⟨As, cs1, rfl, _, _⟩ := hs.form
  obtain ⟨Am, cm, rfl, hm1, hm2⟩ := hm.form
  obtain ⟨At, ct, rfl, _, _⟩ := ht.form
  have hm3 : cm ≤ 9223372036854775807 := by unfold maxLen at hm2; omega
  have HO := Lib.hid hok
  clear hs hm ht hm2 hok
  obtain ⟨n, hn⟩ : ∃ n, n = (nodes d).length := ⟨_, rfl⟩
  have hn2 := len_nodes d
  rw [← hn] at hn2
  have HN := Lib.hid hn
  have HNN := Lib.hid hn2
  clear hn hn2
  show Calls Try.prog 6 #[.agg #[.bool d.hasV, .int .i64 d.ver.line, .int .i64 d.ver.col, .string d.ver.text, .int .i64 d.sta.line, .int .i64 d.sta.col, .slice As d.sta.names.length cs1, .slice Am d.msgs.length cm, .slice At d.tabs.length ct]] w (Yes w)
  go_enter Try.func6, Try.ntmps6
  go_wp2_with fail
  refine (works_any _).mono ?_
  rintro e w1 ⟨rfl, hb1⟩
  have hh1 := Has.below (Has.new w _ _) hb1 (by simp)
  have HH1 := Lib.hid hh1
  have hB1 : Below w.heap.size w w1 := Below.trans (by repeat' (first | (with_reducible assumption) | (with_reducible refine Below.setCell ?_ ?_ _) | (with_reducible refine Below.alloc ?_ ?_ _) | (with_reducible refine Below.drew ?_) | (with_reducible refine below_drewN ?_ _) | (with_reducible exact Below.refl _ _) | (show _ ≤ _; (try simp); (try omega); done) | exact Below.refl _ _ | assumption)) (hb1.mono (by simp))
  have HB1 := Lib.hid hB1
  have hz1 := hb1.size
  simp at hz1
  clear hh1 hb1 hB1
  have c_w1_H_0 : w1.cell? ⟨w.heap.size, 0, none⟩ = some (.bool d.hasV) := HH1.out.cell 0; have f_w1_H_0 : w1.frozen? ⟨w.heap.size, 0, none⟩ = false := HH1.out.frozen 0; have c_w1_H_1 : w1.cell? ⟨w.heap.size, 1, none⟩ = some (.int .i64 d.ver.line) := HH1.out.cell 1; have f_w1_H_1 : w1.frozen? ⟨w.heap.size, 1, none⟩ = false := HH1.out.frozen 1; have c_w1_H_2 : w1.cell? ⟨w.heap.size, 2, none⟩ = some (.int .i64 d.ver.col) := HH1.out.cell 2; have f_w1_H_2 : w1.frozen? ⟨w.heap.size, 2, none⟩ = false := HH1.out.frozen 2; have c_w1_H_3 : w1.cell? ⟨w.heap.size, 3, none⟩ = some (.string d.ver.text) := HH1.out.cell 3; have f_w1_H_3 : w1.frozen? ⟨w.heap.size, 3, none⟩ = false := HH1.out.frozen 3; have c_w1_H_4 : w1.cell? ⟨w.heap.size, 4, none⟩ = some (.int .i64 d.sta.line) := HH1.out.cell 4; have f_w1_H_4 : w1.frozen? ⟨w.heap.size, 4, none⟩ = false := HH1.out.frozen 4; have c_w1_H_5 : w1.cell? ⟨w.heap.size, 5, none⟩ = some (.int .i64 d.sta.col) := HH1.out.cell 5; have f_w1_H_5 : w1.frozen? ⟨w.heap.size, 5, none⟩ = false := HH1.out.frozen 5; have c_w1_H_6 : w1.cell? ⟨w.heap.size, 6, none⟩ = some (.slice As d.sta.names.length cs1) := HH1.out.cell 6; have f_w1_H_6 : w1.frozen? ⟨w.heap.size, 6, none⟩ = false := HH1.out.frozen 6; have c_w1_H_7 : w1.cell? ⟨w.heap.size, 7, none⟩ = some (.slice Am d.msgs.length cm) := HH1.out.cell 7; have f_w1_H_7 : w1.frozen? ⟨w.heap.size, 7, none⟩ = false := HH1.out.frozen 7; have c_w1_H_8 : w1.cell? ⟨w.heap.size, 8, none⟩ = some (.slice At d.tabs.length ct) := HH1.out.cell 8; have f_w1_H_8 : w1.frozen? ⟨w.heap.size, 8, none⟩ = false := HH1.out.frozen 8
  go_wp2_with fail
  refine (list_any d _ _ _ (Old w.heap.size) w1 (HS.out.below strE_mono HB1.out) (HM.out.below msgE_mono HB1.out) (HT.out.below tabE_mono HB1.out) (fun b hb => by have := HB1.out.size; exact Nat.lt_of_lt_of_le hb this) HO.out).mono ?_
  rintro e w2 ⟨v, rfl, hn, hb2⟩
  have hs2 := hb2.size
  have HH2 := Lib.hid (HH1.out.below hb2 (by omega))
  have HB2 := Lib.hid (HB1.out.trans (hb2.mono (by omega)))
  obtain ⟨Av, cv, hvv, hv1, hv2⟩ := (hn.sl ndO_mono).form
  have HN2 := Lib.hid (((hn.sl ndO_mono).weak fun _ _ => ndO_ndE).more ndE_mono (F' := Old w2.heap.size) fun b hb => hb.2)
  rw [← HN.out] at hvv hv1
  subst hvv
  have hv3 : cv ≤ 9223372036854775807 := by unfold maxLen at hv2; omega
  clear hv2
  clear hn hb2 HS HM HT HH1 HB1 c_w1_H_0 c_w1_H_1 c_w1_H_2 c_w1_H_3 c_w1_H_4 c_w1_H_5 c_w1_H_6 c_w1_H_7 c_w1_H_8 f_w1_H_0 f_w1_H_1 f_w1_H_2 f_w1_H_3 f_w1_H_4 f_w1_H_5 f_w1_H_6 f_w1_H_7 f_w1_H_8
  have c_w2_H_0 : w2.cell? ⟨w.heap.size, 0, none⟩ = some (.bool d.hasV) := HH2.out.cell 0; have f_w2_H_0 : w2.frozen? ⟨w.heap.size, 0, none⟩ = false := HH2.out.frozen 0; have c_w2_H_1 : w2.cell? ⟨w.heap.size, 1, none⟩ = some (.int .i64 d.ver.line) := HH2.out.cell 1; have f_w2_H_1 : w2.frozen? ⟨w.heap.size, 1, none⟩ = false := HH2.out.frozen 1; have c_w2_H_2 : w2.cell? ⟨w.heap.size, 2, none⟩ = some (.int .i64 d.ver.col) := HH2.out.cell 2; have f_w2_H_2 : w2.frozen? ⟨w.heap.size, 2, none⟩ = false := HH2.out.frozen 2; have c_w2_H_3 : w2.cell? ⟨w.heap.size, 3, none⟩ = some (.string d.ver.text) := HH2.out.cell 3; have f_w2_H_3 : w2.frozen? ⟨w.heap.size, 3, none⟩ = false := HH2.out.frozen 3; have c_w2_H_4 : w2.cell? ⟨w.heap.size, 4, none⟩ = some (.int .i64 d.sta.line) := HH2.out.cell 4; have f_w2_H_4 : w2.frozen? ⟨w.heap.size, 4, none⟩ = false := HH2.out.frozen 4; have c_w2_H_5 : w2.cell? ⟨w.heap.size, 5, none⟩ = some (.int .i64 d.sta.col) := HH2.out.cell 5; have f_w2_H_5 : w2.frozen? ⟨w.heap.size, 5, none⟩ = false := HH2.out.frozen 5; have c_w2_H_6 : w2.cell? ⟨w.heap.size, 6, none⟩ = some (.slice As d.sta.names.length cs1) := HH2.out.cell 6; have f_w2_H_6 : w2.frozen? ⟨w.heap.size, 6, none⟩ = false := HH2.out.frozen 6; have c_w2_H_7 : w2.cell? ⟨w.heap.size, 7, none⟩ = some (.slice Am d.msgs.length cm) := HH2.out.cell 7; have f_w2_H_7 : w2.frozen? ⟨w.heap.size, 7, none⟩ = false := HH2.out.frozen 7; have c_w2_H_8 : w2.cell? ⟨w.heap.size, 8, none⟩ = some (.slice At d.tabs.length ct) := HH2.out.cell 8; have f_w2_H_8 : w2.frozen? ⟨w.heap.size, 8, none⟩ = false := HH2.out.frozen 8
  obtain ⟨D, hD⟩ : ∃ D, D = told d := ⟨_, rfl⟩
  have HDD := Lib.hid hD
  clear hD
  have HG := Lib.hid (show Calls Try.prog 20 #[.slice Av n cv] w2 (GatherP w2 (.ok D)) by
    have := gather_any (.slice Av n cv) ((nodes d).map some) (Old w2.heap.size) w2 (some_sl HN2.out) (fun _ h => h) (ok_nodes HO.out) (by rw [get_msgs]; exact HO.out.mlen) (by rw [get_tabs]; exact HO.out.tlen)
    rwa [gat_nodes, ← HDD.out] at this)
  have HP := Lib.hid (fun (cs : List Value) (F : Foot) (W : World) (hd : dbE W F cs d) (hF : ∀ b, F b → b < W.heap.size) => show Calls Try.prog 22 #[.agg cs.toArray] W (DbP W D) by rw [HDD.out]; exact plain_any d cs F W hd hF HO.out)
  cases hV : d.hasV
  · rw [hV] at c_w2_H_0
    go_wp2_with fail
    rw [show (1 + (d.msgs.length : Int) + (d.tabs.length : Int)) = (n : Int) by have := HNN.out; rw [hV] at this; simp at this; omega]
    clear c_w2_H_0 c_w2_H_1 c_w2_H_2 c_w2_H_3 c_w2_H_4 c_w2_H_5 c_w2_H_6 c_w2_H_7 c_w2_H_8 f_w2_H_0 f_w2_H_1 f_w2_H_2 f_w2_H_3 f_w2_H_4 f_w2_H_5 f_w2_H_6 f_w2_H_7 f_w2_H_8 hm3 b1 b2 hv3 hm1
    refine HG.out.mono ?_
    rintro e w3 ⟨hb3, cs3, rfl, ho3⟩
    have HE3 := Lib.hid (dbO_dbE ho3)
    obtain ⟨sv3, mv3, tv3, t1, t2, rfl, _, _, _, hs3, hm3', ht3⟩ := ho3
    obtain ⟨As3, ca3, rfl, _, _⟩ := (hs3.sl strE_mono).form
    obtain ⟨Am3, cm3, rfl, _, _⟩ := (hm3'.sl msgO_mono).form
    obtain ⟨At3, ct3, rfl, _, _⟩ := (ht3.sl tabO_mono).form
    have hz3 := hb3.size
    have HH3 := Lib.hid (HH2.out.below hb3 HH2.out.lt)
    have HB3 := Lib.hid (HB2.out.trans (hb3.mono HB2.out.size))
    clear hb3 hs3 hm3' ht3
    have q1 : w.heap.size < w3.heap.size := HH3.out.lt
    rw [hV] at HH3
    have c_w3_H_0 : w3.cell? ⟨w.heap.size, 0, none⟩ = some (.bool false) := HH3.out.cell 0; have f_w3_H_0 : w3.frozen? ⟨w.heap.size, 0, none⟩ = false := HH3.out.frozen 0; have c_w3_H_1 : w3.cell? ⟨w.heap.size, 1, none⟩ = some (.int .i64 d.ver.line) := HH3.out.cell 1; have f_w3_H_1 : w3.frozen? ⟨w.heap.size, 1, none⟩ = false := HH3.out.frozen 1; have c_w3_H_2 : w3.cell? ⟨w.heap.size, 2, none⟩ = some (.int .i64 d.ver.col) := HH3.out.cell 2; have f_w3_H_2 : w3.frozen? ⟨w.heap.size, 2, none⟩ = false := HH3.out.frozen 2; have c_w3_H_3 : w3.cell? ⟨w.heap.size, 3, none⟩ = some (.string d.ver.text) := HH3.out.cell 3; have f_w3_H_3 : w3.frozen? ⟨w.heap.size, 3, none⟩ = false := HH3.out.frozen 3; have c_w3_H_4 : w3.cell? ⟨w.heap.size, 4, none⟩ = some (.int .i64 d.sta.line) := HH3.out.cell 4; have f_w3_H_4 : w3.frozen? ⟨w.heap.size, 4, none⟩ = false := HH3.out.frozen 4; have c_w3_H_5 : w3.cell? ⟨w.heap.size, 5, none⟩ = some (.int .i64 d.sta.col) := HH3.out.cell 5; have f_w3_H_5 : w3.frozen? ⟨w.heap.size, 5, none⟩ = false := HH3.out.frozen 5; have c_w3_H_6 : w3.cell? ⟨w.heap.size, 6, none⟩ = some (.slice As d.sta.names.length cs1) := HH3.out.cell 6; have f_w3_H_6 : w3.frozen? ⟨w.heap.size, 6, none⟩ = false := HH3.out.frozen 6; have c_w3_H_7 : w3.cell? ⟨w.heap.size, 7, none⟩ = some (.slice Am d.msgs.length cm) := HH3.out.cell 7; have f_w3_H_7 : w3.frozen? ⟨w.heap.size, 7, none⟩ = false := HH3.out.frozen 7; have c_w3_H_8 : w3.cell? ⟨w.heap.size, 8, none⟩ = some (.slice At d.tabs.length ct) := HH3.out.cell 8; have f_w3_H_8 : w3.frozen? ⟨w.heap.size, 8, none⟩ = false := HH3.out.frozen 8
    have HK3 := Lib.hid (fun (W : World) (hk : ∀ b, b < w.heap.size → W.heap[b]? = w3.heap[b]?) => show dbE W (Old w.heap.size) [.bool false, .int .i64 d.ver.line, .int .i64 d.ver.col, .string d.ver.text, .int .i64 d.sta.line, .int .i64 d.sta.col, .slice As d.sta.names.length cs1, .slice Am d.msgs.length cm, .slice At d.tabs.length ct] d by
      have := dbE_mono _ W _ _ _ _ (fun _ h => h) (fun b hb => (hk b hb).trans (HB3.out.block b hb)) HD0.out
      rw [dbCells, hV] at this
      exact this)
    have HL3 := Lib.hid (fun (W : World) (hk : ∀ b, b < w3.heap.size → W.heap[b]? = w3.heap[b]?) => (show dbE W (Old w3.heap.size) (dbCells D (.slice As3 D.sta.names.length ca3) (.slice Am3 D.msgs.length cm3) (.slice At3 D.tabs.length ct3)) D from dbE_mono _ _ _ _ _ _ (fun _ h => h.2) (fun b hb => hk b hb.2) HE3.out))
    simp only [dbCells]
    go_wp2_with fail
    go_region_law (first
      | (go_simp; refine (HP.out [.bool false, .int .i64 d.ver.line, .int .i64 d.ver.col, .string d.ver.text, .int .i64 d.sta.line, .int .i64 d.sta.col, .slice As d.sta.names.length cs1, .slice Am d.msgs.length cm, .slice At d.tabs.length ct] (Old w.heap.size) _ (by exact HK3.out _ (fun b hb => by exact heap_alloc_old _ _ (by omega))) (fun b hb => by have hb : b < w.heap.size := hb; simp; omega)).mono ?_; rintro e w4 ⟨cs4, rfl, he4, hb4⟩
         have HE4 := Lib.hid he4
         obtain ⟨sv4, mv4, tv4, rfl, hs4, hm4, ht4⟩ := he4
         obtain ⟨As4, ca4, rfl, _, _⟩ := hs4.form
         obtain ⟨Am4, cm4, rfl, _, _⟩ := hm4.form
         obtain ⟨At4, ct4, rfl, _, _⟩ := ht4.form
         have hz4 : w3.heap.size + 1 ≤ w4.heap.size := by have := hb4.size; simpa using this
         have HX4 := Lib.hid (Has.below (by exact Has.new w3 32 (dbCells D (.slice As3 D.sta.names.length ca3) (.slice Am3 D.msgs.length cm3) (.slice At3 D.tabs.length ct3)).toArray) hb4 (by simp))
         have HB4 := Lib.hid (show Below w3.heap.size w3 w4 from ⟨hb4.os, hb4.tape, hb4.output, by omega, fun b hb => (hb4.block b (by simp; omega)).trans (heap_alloc_old _ _ hb)⟩)
         clear hb4 hs4 hm4 ht4
         have q4 : w3.heap.size < w4.heap.size := by omega
         have q5 : w.heap.size < w4.heap.size := by omega
         have c_w4_w3heapsize_0 : w4.cell? ⟨w3.heap.size, 0, none⟩ = some (.bool D.hasV) := HX4.out.cell 0; have f_w4_w3heapsize_0 : w4.frozen? ⟨w3.heap.size, 0, none⟩ = false := HX4.out.frozen 0; have c_w4_w3heapsize_1 : w4.cell? ⟨w3.heap.size, 1, none⟩ = some (.int .i64 D.ver.line) := HX4.out.cell 1; have f_w4_w3heapsize_1 : w4.frozen? ⟨w3.heap.size, 1, none⟩ = false := HX4.out.frozen 1; have c_w4_w3heapsize_2 : w4.cell? ⟨w3.heap.size, 2, none⟩ = some (.int .i64 D.ver.col) := HX4.out.cell 2; have f_w4_w3heapsize_2 : w4.frozen? ⟨w3.heap.size, 2, none⟩ = false := HX4.out.frozen 2; have c_w4_w3heapsize_3 : w4.cell? ⟨w3.heap.size, 3, none⟩ = some (.string D.ver.text) := HX4.out.cell 3; have f_w4_w3heapsize_3 : w4.frozen? ⟨w3.heap.size, 3, none⟩ = false := HX4.out.frozen 3; have c_w4_w3heapsize_4 : w4.cell? ⟨w3.heap.size, 4, none⟩ = some (.int .i64 D.sta.line) := HX4.out.cell 4; have f_w4_w3heapsize_4 : w4.frozen? ⟨w3.heap.size, 4, none⟩ = false := HX4.out.frozen 4; have c_w4_w3heapsize_5 : w4.cell? ⟨w3.heap.size, 5, none⟩ = some (.int .i64 D.sta.col) := HX4.out.cell 5; have f_w4_w3heapsize_5 : w4.frozen? ⟨w3.heap.size, 5, none⟩ = false := HX4.out.frozen 5; have c_w4_w3heapsize_6 : w4.cell? ⟨w3.heap.size, 6, none⟩ = some (.slice As3 D.sta.names.length ca3) := HX4.out.cell 6; have f_w4_w3heapsize_6 : w4.frozen? ⟨w3.heap.size, 6, none⟩ = false := HX4.out.frozen 6; have c_w4_w3heapsize_7 : w4.cell? ⟨w3.heap.size, 7, none⟩ = some (.slice Am3 D.msgs.length cm3) := HX4.out.cell 7; have f_w4_w3heapsize_7 : w4.frozen? ⟨w3.heap.size, 7, none⟩ = false := HX4.out.frozen 7; have c_w4_w3heapsize_8 : w4.cell? ⟨w3.heap.size, 8, none⟩ = some (.slice At3 D.tabs.length ct3) := HX4.out.cell 8; have f_w4_w3heapsize_8 : w4.frozen? ⟨w3.heap.size, 8, none⟩ = false := HX4.out.frozen 8
         simp only [dbCells])
      | (go_simp; refine (sameDatabase D (dbCells D (.slice As3 D.sta.names.length ca3) (.slice Am3 D.msgs.length cm3) (.slice At3 D.tabs.length ct3)) (dbCells D (.slice As4 D.sta.names.length ca4) (.slice Am4 D.msgs.length cm4) (.slice At4 D.tabs.length ct4)) (Old w3.heap.size) (Old w4.heap.size) _ (by exact HL3.out w4 HB4.out.block) (by exact dbE_mono _ w4 _ _ _ _ (fun _ h => h.2) (fun _ _ => rfl) HE4.out) (fun b hb => by have hb : b < w3.heap.size := hb; (try simp); omega) (fun b hb => by exact hb)).mono ?_; rintro e w5 ⟨rfl, hb5⟩; have HB5 := Lib.hid (show Below w.heap.size w w5 from HB3.out.trans ((HB4.out.trans ⟨hb5.os, hb5.tape, hb5.output, hb5.size, fun b hb => hb5.block b (by (try simp); omega)⟩).mono HB3.out.size)); clear hb5))
    all_goals
      go_wp2
      go_ret
      exact ⟨rfl, by have := HB5.out; exact this⟩
  · rw [hV] at c_w2_H_0
    go_wp2_with fail
    rw [show (1 + (d.msgs.length : Int) + (d.tabs.length : Int) + 1) = (n : Int) by have := HNN.out; rw [hV] at this; simp at this; omega]
    clear c_w2_H_0 c_w2_H_1 c_w2_H_2 c_w2_H_3 c_w2_H_4 c_w2_H_5 c_w2_H_6 c_w2_H_7 c_w2_H_8 f_w2_H_0 f_w2_H_1 f_w2_H_2 f_w2_H_3 f_w2_H_4 f_w2_H_5 f_w2_H_6 f_w2_H_7 f_w2_H_8 hm3 b1 b2 hv3 hm1
    refine HG.out.mono ?_
    rintro e w3 ⟨hb3, cs3, rfl, ho3⟩
    have HE3 := Lib.hid (dbO_dbE ho3)
    obtain ⟨sv3, mv3, tv3, t1, t2, rfl, _, _, _, hs3, hm3', ht3⟩ := ho3
    obtain ⟨As3, ca3, rfl, _, _⟩ := (hs3.sl strE_mono).form
    obtain ⟨Am3, cm3, rfl, _, _⟩ := (hm3'.sl msgO_mono).form
    obtain ⟨At3, ct3, rfl, _, _⟩ := (ht3.sl tabO_mono).form
    have hz3 := hb3.size
    have HH3 := Lib.hid (HH2.out.below hb3 HH2.out.lt)
    have HB3 := Lib.hid (HB2.out.trans (hb3.mono HB2.out.size))
    clear hb3 hs3 hm3' ht3
    have q1 : w.heap.size < w3.heap.size := HH3.out.lt
    rw [hV] at HH3
    have c_w3_H_0 : w3.cell? ⟨w.heap.size, 0, none⟩ = some (.bool true) := HH3.out.cell 0; have f_w3_H_0 : w3.frozen? ⟨w.heap.size, 0, none⟩ = false := HH3.out.frozen 0; have c_w3_H_1 : w3.cell? ⟨w.heap.size, 1, none⟩ = some (.int .i64 d.ver.line) := HH3.out.cell 1; have f_w3_H_1 : w3.frozen? ⟨w.heap.size, 1, none⟩ = false := HH3.out.frozen 1; have c_w3_H_2 : w3.cell? ⟨w.heap.size, 2, none⟩ = some (.int .i64 d.ver.col) := HH3.out.cell 2; have f_w3_H_2 : w3.frozen? ⟨w.heap.size, 2, none⟩ = false := HH3.out.frozen 2; have c_w3_H_3 : w3.cell? ⟨w.heap.size, 3, none⟩ = some (.string d.ver.text) := HH3.out.cell 3; have f_w3_H_3 : w3.frozen? ⟨w.heap.size, 3, none⟩ = false := HH3.out.frozen 3; have c_w3_H_4 : w3.cell? ⟨w.heap.size, 4, none⟩ = some (.int .i64 d.sta.line) := HH3.out.cell 4; have f_w3_H_4 : w3.frozen? ⟨w.heap.size, 4, none⟩ = false := HH3.out.frozen 4; have c_w3_H_5 : w3.cell? ⟨w.heap.size, 5, none⟩ = some (.int .i64 d.sta.col) := HH3.out.cell 5; have f_w3_H_5 : w3.frozen? ⟨w.heap.size, 5, none⟩ = false := HH3.out.frozen 5; have c_w3_H_6 : w3.cell? ⟨w.heap.size, 6, none⟩ = some (.slice As d.sta.names.length cs1) := HH3.out.cell 6; have f_w3_H_6 : w3.frozen? ⟨w.heap.size, 6, none⟩ = false := HH3.out.frozen 6; have c_w3_H_7 : w3.cell? ⟨w.heap.size, 7, none⟩ = some (.slice Am d.msgs.length cm) := HH3.out.cell 7; have f_w3_H_7 : w3.frozen? ⟨w.heap.size, 7, none⟩ = false := HH3.out.frozen 7; have c_w3_H_8 : w3.cell? ⟨w.heap.size, 8, none⟩ = some (.slice At d.tabs.length ct) := HH3.out.cell 8; have f_w3_H_8 : w3.frozen? ⟨w.heap.size, 8, none⟩ = false := HH3.out.frozen 8
    have HK3 := Lib.hid (fun (W : World) (hk : ∀ b, b < w.heap.size → W.heap[b]? = w3.heap[b]?) => show dbE W (Old w.heap.size) [.bool true, .int .i64 d.ver.line, .int .i64 d.ver.col, .string d.ver.text, .int .i64 d.sta.line, .int .i64 d.sta.col, .slice As d.sta.names.length cs1, .slice Am d.msgs.length cm, .slice At d.tabs.length ct] d by
      have := dbE_mono _ W _ _ _ _ (fun _ h => h) (fun b hb => (hk b hb).trans (HB3.out.block b hb)) HD0.out
      rw [dbCells, hV] at this
      exact this)
    have HL3 := Lib.hid (fun (W : World) (hk : ∀ b, b < w3.heap.size → W.heap[b]? = w3.heap[b]?) => (show dbE W (Old w3.heap.size) (dbCells D (.slice As3 D.sta.names.length ca3) (.slice Am3 D.msgs.length cm3) (.slice At3 D.tabs.length ct3)) D from dbE_mono _ _ _ _ _ _ (fun _ h => h.2) (fun b hb => hk b hb.2) HE3.out))
    simp only [dbCells]
    go_wp2_with fail
    go_region_law (first
      | (go_simp; refine (HP.out [.bool true, .int .i64 d.ver.line, .int .i64 d.ver.col, .string d.ver.text, .int .i64 d.sta.line, .int .i64 d.sta.col, .slice As d.sta.names.length cs1, .slice Am d.msgs.length cm, .slice At d.tabs.length ct] (Old w.heap.size) _ (by exact HK3.out _ (fun b hb => by exact heap_alloc_old _ _ (by omega))) (fun b hb => by have hb : b < w.heap.size := hb; simp; omega)).mono ?_; rintro e w4 ⟨cs4, rfl, he4, hb4⟩
         have HE4 := Lib.hid he4
         obtain ⟨sv4, mv4, tv4, rfl, hs4, hm4, ht4⟩ := he4
         obtain ⟨As4, ca4, rfl, _, _⟩ := hs4.form
         obtain ⟨Am4, cm4, rfl, _, _⟩ := hm4.form
         obtain ⟨At4, ct4, rfl, _, _⟩ := ht4.form
         have hz4 : w3.heap.size + 1 ≤ w4.heap.size := by have := hb4.size; simpa using this
         have HX4 := Lib.hid (Has.below (by exact Has.new w3 32 (dbCells D (.slice As3 D.sta.names.length ca3) (.slice Am3 D.msgs.length cm3) (.slice At3 D.tabs.length ct3)).toArray) hb4 (by simp))
         have HB4 := Lib.hid (show Below w3.heap.size w3 w4 from ⟨hb4.os, hb4.tape, hb4.output, by omega, fun b hb => (hb4.block b (by simp; omega)).trans (heap_alloc_old _ _ hb)⟩)
         clear hb4 hs4 hm4 ht4
         have q4 : w3.heap.size < w4.heap.size := by omega
         have q5 : w.heap.size < w4.heap.size := by omega
         have c_w4_w3heapsize_0 : w4.cell? ⟨w3.heap.size, 0, none⟩ = some (.bool D.hasV) := HX4.out.cell 0; have f_w4_w3heapsize_0 : w4.frozen? ⟨w3.heap.size, 0, none⟩ = false := HX4.out.frozen 0; have c_w4_w3heapsize_1 : w4.cell? ⟨w3.heap.size, 1, none⟩ = some (.int .i64 D.ver.line) := HX4.out.cell 1; have f_w4_w3heapsize_1 : w4.frozen? ⟨w3.heap.size, 1, none⟩ = false := HX4.out.frozen 1; have c_w4_w3heapsize_2 : w4.cell? ⟨w3.heap.size, 2, none⟩ = some (.int .i64 D.ver.col) := HX4.out.cell 2; have f_w4_w3heapsize_2 : w4.frozen? ⟨w3.heap.size, 2, none⟩ = false := HX4.out.frozen 2; have c_w4_w3heapsize_3 : w4.cell? ⟨w3.heap.size, 3, none⟩ = some (.string D.ver.text) := HX4.out.cell 3; have f_w4_w3heapsize_3 : w4.frozen? ⟨w3.heap.size, 3, none⟩ = false := HX4.out.frozen 3; have c_w4_w3heapsize_4 : w4.cell? ⟨w3.heap.size, 4, none⟩ = some (.int .i64 D.sta.line) := HX4.out.cell 4; have f_w4_w3heapsize_4 : w4.frozen? ⟨w3.heap.size, 4, none⟩ = false := HX4.out.frozen 4; have c_w4_w3heapsize_5 : w4.cell? ⟨w3.heap.size, 5, none⟩ = some (.int .i64 D.sta.col) := HX4.out.cell 5; have f_w4_w3heapsize_5 : w4.frozen? ⟨w3.heap.size, 5, none⟩ = false := HX4.out.frozen 5; have c_w4_w3heapsize_6 : w4.cell? ⟨w3.heap.size, 6, none⟩ = some (.slice As3 D.sta.names.length ca3) := HX4.out.cell 6; have f_w4_w3heapsize_6 : w4.frozen? ⟨w3.heap.size, 6, none⟩ = false := HX4.out.frozen 6; have c_w4_w3heapsize_7 : w4.cell? ⟨w3.heap.size, 7, none⟩ = some (.slice Am3 D.msgs.length cm3) := HX4.out.cell 7; have f_w4_w3heapsize_7 : w4.frozen? ⟨w3.heap.size, 7, none⟩ = false := HX4.out.frozen 7; have c_w4_w3heapsize_8 : w4.cell? ⟨w3.heap.size, 8, none⟩ = some (.slice At3 D.tabs.length ct3) := HX4.out.cell 8; have f_w4_w3heapsize_8 : w4.frozen? ⟨w3.heap.size, 8, none⟩ = false := HX4.out.frozen 8
         simp only [dbCells])
      | (go_simp; refine (sameDatabase D (dbCells D (.slice As3 D.sta.names.length ca3) (.slice Am3 D.msgs.length cm3) (.slice At3 D.tabs.length ct3)) (dbCells D (.slice As4 D.sta.names.length ca4) (.slice Am4 D.msgs.length cm4) (.slice At4 D.tabs.length ct4)) (Old w3.heap.size) (Old w4.heap.size) _ (by exact HL3.out w4 HB4.out.block) (by exact dbE_mono _ w4 _ _ _ _ (fun _ h => h.2) (fun _ _ => rfl) HE4.out) (fun b hb => by have hb : b < w3.heap.size := hb; (try simp); omega) (fun b hb => by exact hb)).mono ?_; rintro e w5 ⟨rfl, hb5⟩; have HB5 := Lib.hid (show Below w.heap.size w w5 from HB3.out.trans ((HB4.out.trans ⟨hb5.os, hb5.tape, hb5.output, hb5.size, fun b hb => hb5.block b (by (try simp); omega)⟩).mono HB3.out.size)); clear hb5))
    all_goals
      go_wp2
      go_ret
      exact ⟨rfl, by have := HB5.out; exact this⟩
end nodeB
end Go.Proofs.Ytibgjemjdbfajaa
