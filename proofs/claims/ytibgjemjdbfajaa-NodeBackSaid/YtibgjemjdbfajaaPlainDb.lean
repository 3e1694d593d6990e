/- busbarlaw05.plain: a database without a version where it has none. Condition: no list of more than 2^47 bytes. -/
import Derived.Test.YtibgjemjdbfajaaCopyDb
namespace Go.Proofs.Ytibgjemjdbfajaa
open Go.RowKit Go.Bus Go.Bus.cellK Go.Bus.dbK
set_option linter.unusedVariables false
set_option linter.unusedSimpArgs false
namespace copyD
open copyK sameK

set_option maxRecDepth 100000 in
set_option maxHeartbeats 4000000 in
theorem plain_any (d : Db) (cs : List Value) (F : Foot) (w : World) (h : dbE w F cs d) (hF : ∀ b, F b → b < w.heap.size) (hok : DbOk d) :
    Calls Try.prog 22 #[.agg cs.toArray] w (DbP w (if d.hasV then d else { d with ver := ⟨0, 0, ⟨#[]⟩⟩ })) := by
  obtain ⟨sv, mv, tv, rfl, hs, hm, ht⟩ := h
  have HH := Lib.hid (fun (w1 : World) (hb : Below w.heap.size w w1) (hs1 : w.heap.size ≤ w1.heap.size) => copyDatabase d _ F w1 ⟨_, _, _, rfl, hs.belowF strE_mono hF hb, hm.belowF msgE_mono hF hb, ht.belowF tabE_mono hF hb⟩ (fun b hb => Nat.lt_of_lt_of_le (hF b hb) hs1) hok)
  obtain ⟨As, ca, rfl, _, _⟩ := hs.form
  obtain ⟨Am, cm, rfl, _, _⟩ := hm.form
  obtain ⟨At, ct, rfl, _, _⟩ := ht.form
  clear hs hm ht hok
  obtain ⟨hasV, ver, sta, msgs, tabs⟩ := d
  cases hasV
  · skip
    show Calls Try.prog 22 #[.agg #[.bool false, .int .i64 ver.line, .int .i64 ver.col, .string ver.text, .int .i64 sta.line, .int .i64 sta.col, .slice As sta.names.length ca, .slice Am msgs.length cm, .slice At tabs.length ct]] w _
    go_enter Try.func22, Try.ntmps22
    go_wp2_with fail
    refine (HH.out _ (by exact (by repeat' (first | (with_reducible assumption) | (with_reducible refine Below.setCell ?_ ?_ _) | (with_reducible refine Below.alloc ?_ ?_ _) | (with_reducible refine Below.drew ?_) | (with_reducible refine below_drewN ?_ _) | (with_reducible exact Below.refl _ _) | (show _ ≤ _; (try simp); (try omega); done) | exact Below.refl _ _ | assumption))) (by (try simp); (try omega))).mono ?_
    rintro e w1 ⟨cs1, rfl, ⟨sv1, mv1, tv1, rfl, hs1, hm1, ht1⟩, hb1⟩
    obtain ⟨As1, ca1, rfl, _, _⟩ := hs1.form
    obtain ⟨Am1, cm1, rfl, _, _⟩ := hm1.form
    obtain ⟨At1, ct1, rfl, _, _⟩ := ht1.form
    have hz1 := hb1.size
    simp at hz1
    have HX0 := Lib.hid (Has.below (by exact ((Has.new w _ _).alloc _)) hb1 (by (try simp); (try omega)))
    have HX1 := Lib.hid (Has.below (by exact Has.new1 w _ _ _) hb1 (by (try simp); (try omega)))
    have HB1 := Lib.hid (show Below w.heap.size w w1 from Below.trans (by repeat' (first | (with_reducible assumption) | (with_reducible refine Below.setCell ?_ ?_ _) | (with_reducible refine Below.alloc ?_ ?_ _) | (with_reducible refine Below.drew ?_) | (with_reducible refine below_drewN ?_ _) | (with_reducible exact Below.refl _ _) | (show _ ≤ _; (try simp); (try omega); done) | exact Below.refl _ _ | assumption)) (hb1.mono (by (try simp); (try omega))))
    have HS1 := Lib.hid hs1; have HM1 := Lib.hid hm1; have HT1 := Lib.hid ht1
    clear hb1 hs1 hm1 ht1
    have c_w1_H_0 : w1.cell? ⟨w.heap.size, 0, none⟩ = some (.bool false) := HX0.out.cell 0; have f_w1_H_0 : w1.frozen? ⟨w.heap.size, 0, none⟩ = false := HX0.out.frozen 0
    have c_w1_Hp1_0 : w1.cell? ⟨w.heap.size + 1, 0, none⟩ = some (.bool false) := HX1.out.cell 0; have f_w1_Hp1_0 : w1.frozen? ⟨w.heap.size + 1, 0, none⟩ = false := HX1.out.frozen 0; have c_w1_Hp1_1 : w1.cell? ⟨w.heap.size + 1, 1, none⟩ = some (.int .i64 0) := HX1.out.cell 1; have f_w1_Hp1_1 : w1.frozen? ⟨w.heap.size + 1, 1, none⟩ = false := HX1.out.frozen 1; have c_w1_Hp1_2 : w1.cell? ⟨w.heap.size + 1, 2, none⟩ = some (.int .i64 0) := HX1.out.cell 2; have f_w1_Hp1_2 : w1.frozen? ⟨w.heap.size + 1, 2, none⟩ = false := HX1.out.frozen 2; have c_w1_Hp1_3 : w1.cell? ⟨w.heap.size + 1, 3, none⟩ = some (.string ⟨#[]⟩) := HX1.out.cell 3; have f_w1_Hp1_3 : w1.frozen? ⟨w.heap.size + 1, 3, none⟩ = false := HX1.out.frozen 3; have c_w1_Hp1_4 : w1.cell? ⟨w.heap.size + 1, 4, none⟩ = some (.int .i64 0) := HX1.out.cell 4; have f_w1_Hp1_4 : w1.frozen? ⟨w.heap.size + 1, 4, none⟩ = false := HX1.out.frozen 4; have c_w1_Hp1_5 : w1.cell? ⟨w.heap.size + 1, 5, none⟩ = some (.int .i64 0) := HX1.out.cell 5; have f_w1_Hp1_5 : w1.frozen? ⟨w.heap.size + 1, 5, none⟩ = false := HX1.out.frozen 5; have c_w1_Hp1_6 : w1.cell? ⟨w.heap.size + 1, 6, none⟩ = some (.slice none 0 0) := HX1.out.cell 6; have f_w1_Hp1_6 : w1.frozen? ⟨w.heap.size + 1, 6, none⟩ = false := HX1.out.frozen 6; have c_w1_Hp1_7 : w1.cell? ⟨w.heap.size + 1, 7, none⟩ = some (.slice none 0 0) := HX1.out.cell 7; have f_w1_Hp1_7 : w1.frozen? ⟨w.heap.size + 1, 7, none⟩ = false := HX1.out.frozen 7; have c_w1_Hp1_8 : w1.cell? ⟨w.heap.size + 1, 8, none⟩ = some (.slice none 0 0) := HX1.out.cell 8; have f_w1_Hp1_8 : w1.frozen? ⟨w.heap.size + 1, 8, none⟩ = false := HX1.out.frozen 8
    have q1 : w.heap.size < w1.heap.size := by omega
    have q2 : w.heap.size + 1 < w1.heap.size := by omega
    simp only [dbCells]
    go_wp2
    refine bodyPost_ret (results_block (g := w.heap.size + 1) (T := 32) (cs' := (dbCells ⟨false, ⟨0, 0, ⟨#[]⟩⟩, sta, msgs, tabs⟩ (.slice As1 sta.names.length ca1) (.slice Am1 msgs.length cm1) (.slice At1 tabs.length ct1)).toArray) rfl rfl (by exact ((((((((((HX1.out.set 0 _).set 1 _).set 2 _).set 3 _).set 4 _).set 5 _).set 6 _).set 7 _).set 8 _).alloc _)) (by rfl) Try.underlying32 rfl (by kernel_rfl)) rfl ?_
    have hB1 := HB1.out
    have hs1 : SlK 1 strE w1 (Iv (w.heap.size + 1 + 1) w1.heap.size) (.slice As1 sta.names.length ca1) sta.names := by simpa using HS1.out
    have hm1 : SlK 8 msgE w1 (Iv (w.heap.size + 1 + 1) w1.heap.size) (.slice Am1 msgs.length cm1) msgs := by simpa using HM1.out
    have ht1 : SlK 6 tabE w1 (Iv (w.heap.size + 1 + 1) w1.heap.size) (.slice At1 tabs.length ct1) tabs := by simpa using HT1.out
    refine ⟨_, rfl, ⟨_, _, _, rfl, later strE_mono hs1 ?_ (by simp) (by omega), later msgE_mono hm1 ?_ (by simp) (by omega), later tabE_mono ht1 ?_ (by simp) (by omega)⟩, (by repeat' (first | (with_reducible assumption) | (with_reducible refine Below.setCell ?_ ?_ _) | (with_reducible refine Below.alloc ?_ ?_ _) | (with_reducible refine Below.drew ?_) | (with_reducible refine below_drewN ?_ _) | (with_reducible exact Below.refl _ _) | (show _ ≤ _; (try simp); (try omega); done) | exact Below.refl _ _ | assumption))⟩
    all_goals
      intro b hb hlt
      refine (heap_alloc_old _ _ (by simpa using hlt)).trans ?_
      (repeat (refine (heap_setCell_other _ _ _ _ (by (try simp); omega)).trans ?_)); rfl
  · skip
    show Calls Try.prog 22 #[.agg #[.bool true, .int .i64 ver.line, .int .i64 ver.col, .string ver.text, .int .i64 sta.line, .int .i64 sta.col, .slice As sta.names.length ca, .slice Am msgs.length cm, .slice At tabs.length ct]] w _
    go_enter Try.func22, Try.ntmps22
    go_wp2_with fail
    refine (HH.out _ (by exact (by repeat' (first | (with_reducible assumption) | (with_reducible refine Below.setCell ?_ ?_ _) | (with_reducible refine Below.alloc ?_ ?_ _) | (with_reducible refine Below.drew ?_) | (with_reducible refine below_drewN ?_ _) | (with_reducible exact Below.refl _ _) | (show _ ≤ _; (try simp); (try omega); done) | exact Below.refl _ _ | assumption))) (by (try simp); (try omega))).mono ?_
    rintro e w1 ⟨cs1, rfl, ⟨sv1, mv1, tv1, rfl, hs1, hm1, ht1⟩, hb1⟩
    obtain ⟨As1, ca1, rfl, _, _⟩ := hs1.form
    obtain ⟨Am1, cm1, rfl, _, _⟩ := hm1.form
    obtain ⟨At1, ct1, rfl, _, _⟩ := ht1.form
    have hz1 := hb1.size
    simp at hz1
    have HX0 := Lib.hid (Has.below (by exact ((Has.new w _ _).alloc _)) hb1 (by (try simp); (try omega)))
    have HX1 := Lib.hid (Has.below (by exact Has.new1 w _ _ _) hb1 (by (try simp); (try omega)))
    have HB1 := Lib.hid (show Below w.heap.size w w1 from Below.trans (by repeat' (first | (with_reducible assumption) | (with_reducible refine Below.setCell ?_ ?_ _) | (with_reducible refine Below.alloc ?_ ?_ _) | (with_reducible refine Below.drew ?_) | (with_reducible refine below_drewN ?_ _) | (with_reducible exact Below.refl _ _) | (show _ ≤ _; (try simp); (try omega); done) | exact Below.refl _ _ | assumption)) (hb1.mono (by (try simp); (try omega))))
    have HS1 := Lib.hid hs1; have HM1 := Lib.hid hm1; have HT1 := Lib.hid ht1
    clear hb1 hs1 hm1 ht1
    have c_w1_H_0 : w1.cell? ⟨w.heap.size, 0, none⟩ = some (.bool true) := HX0.out.cell 0; have f_w1_H_0 : w1.frozen? ⟨w.heap.size, 0, none⟩ = false := HX0.out.frozen 0
    have c_w1_Hp1_0 : w1.cell? ⟨w.heap.size + 1, 0, none⟩ = some (.bool false) := HX1.out.cell 0; have f_w1_Hp1_0 : w1.frozen? ⟨w.heap.size + 1, 0, none⟩ = false := HX1.out.frozen 0; have c_w1_Hp1_1 : w1.cell? ⟨w.heap.size + 1, 1, none⟩ = some (.int .i64 0) := HX1.out.cell 1; have f_w1_Hp1_1 : w1.frozen? ⟨w.heap.size + 1, 1, none⟩ = false := HX1.out.frozen 1; have c_w1_Hp1_2 : w1.cell? ⟨w.heap.size + 1, 2, none⟩ = some (.int .i64 0) := HX1.out.cell 2; have f_w1_Hp1_2 : w1.frozen? ⟨w.heap.size + 1, 2, none⟩ = false := HX1.out.frozen 2; have c_w1_Hp1_3 : w1.cell? ⟨w.heap.size + 1, 3, none⟩ = some (.string ⟨#[]⟩) := HX1.out.cell 3; have f_w1_Hp1_3 : w1.frozen? ⟨w.heap.size + 1, 3, none⟩ = false := HX1.out.frozen 3; have c_w1_Hp1_4 : w1.cell? ⟨w.heap.size + 1, 4, none⟩ = some (.int .i64 0) := HX1.out.cell 4; have f_w1_Hp1_4 : w1.frozen? ⟨w.heap.size + 1, 4, none⟩ = false := HX1.out.frozen 4; have c_w1_Hp1_5 : w1.cell? ⟨w.heap.size + 1, 5, none⟩ = some (.int .i64 0) := HX1.out.cell 5; have f_w1_Hp1_5 : w1.frozen? ⟨w.heap.size + 1, 5, none⟩ = false := HX1.out.frozen 5; have c_w1_Hp1_6 : w1.cell? ⟨w.heap.size + 1, 6, none⟩ = some (.slice none 0 0) := HX1.out.cell 6; have f_w1_Hp1_6 : w1.frozen? ⟨w.heap.size + 1, 6, none⟩ = false := HX1.out.frozen 6; have c_w1_Hp1_7 : w1.cell? ⟨w.heap.size + 1, 7, none⟩ = some (.slice none 0 0) := HX1.out.cell 7; have f_w1_Hp1_7 : w1.frozen? ⟨w.heap.size + 1, 7, none⟩ = false := HX1.out.frozen 7; have c_w1_Hp1_8 : w1.cell? ⟨w.heap.size + 1, 8, none⟩ = some (.slice none 0 0) := HX1.out.cell 8; have f_w1_Hp1_8 : w1.frozen? ⟨w.heap.size + 1, 8, none⟩ = false := HX1.out.frozen 8
    have q1 : w.heap.size < w1.heap.size := by omega
    have q2 : w.heap.size + 1 < w1.heap.size := by omega
    simp only [dbCells]
    go_wp2
    refine bodyPost_ret (results_block (g := w.heap.size + 1) (T := 32) (cs' := (dbCells ⟨true, ver, sta, msgs, tabs⟩ (.slice As1 sta.names.length ca1) (.slice Am1 msgs.length cm1) (.slice At1 tabs.length ct1)).toArray) rfl rfl (by exact ((((((((((HX1.out.set 0 _).set 1 _).set 2 _).set 3 _).set 4 _).set 5 _).set 6 _).set 7 _).set 8 _).alloc _)) (by rfl) Try.underlying32 rfl (by kernel_rfl)) rfl ?_
    have hB1 := HB1.out
    have hs1 : SlK 1 strE w1 (Iv (w.heap.size + 1 + 1) w1.heap.size) (.slice As1 sta.names.length ca1) sta.names := by simpa using HS1.out
    have hm1 : SlK 8 msgE w1 (Iv (w.heap.size + 1 + 1) w1.heap.size) (.slice Am1 msgs.length cm1) msgs := by simpa using HM1.out
    have ht1 : SlK 6 tabE w1 (Iv (w.heap.size + 1 + 1) w1.heap.size) (.slice At1 tabs.length ct1) tabs := by simpa using HT1.out
    refine ⟨_, rfl, ⟨_, _, _, rfl, later strE_mono hs1 ?_ (by simp) (by omega), later msgE_mono hm1 ?_ (by simp) (by omega), later tabE_mono ht1 ?_ (by simp) (by omega)⟩, (by repeat' (first | (with_reducible assumption) | (with_reducible refine Below.setCell ?_ ?_ _) | (with_reducible refine Below.alloc ?_ ?_ _) | (with_reducible refine Below.drew ?_) | (with_reducible refine below_drewN ?_ _) | (with_reducible exact Below.refl _ _) | (show _ ≤ _; (try simp); (try omega); done) | exact Below.refl _ _ | assumption))⟩
    all_goals
      intro b hb hlt
      refine (heap_alloc_old _ _ (by simpa using hlt)).trans ?_
      (repeat (refine (heap_setCell_other _ _ _ _ (by (try simp); omega)).trans ?_)); rfl

end copyD
end Go.Proofs.Ytibgjemjdbfajaa
