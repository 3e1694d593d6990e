/- busbarref0.SameDatabase: two that read as one are found the same. No condition. -/
import Derived.Test.YtibgjemjdbfajaaSameK
import Derived.Test.YtibgjemjdbfajaaRes
namespace Go.Proofs.Ytibgjemjdbfajaa
open Go.RowKit Go.Bus Go.Bus.cellK Go.Bus.dbK
set_option linter.unusedVariables false
set_option linter.unusedSimpArgs false
namespace sameK
set_option maxRecDepth 100000 in
set_option maxHeartbeats 4000000 in
theorem sameDatabase (d : Db) (cs cs' : List Value) (F G : Foot) (w : World) (h : dbE w F cs d) (h' : dbE w G cs' d) (hF : ∀ b, F b → b < w.heap.size) (hG : ∀ b, G b → b < w.heap.size) :
    Calls Try.prog 21 #[.agg cs.toArray, .agg cs'.toArray] w (Yes w) := by
  obtain ⟨sv, mv, tv, rfl, hs, hm, ht⟩ := h
  obtain ⟨sv', mv', tv', rfl, hs', hm', ht'⟩ := h'
  have HS := Lib.hid (fun (w1 : World) (hb : Below w.heap.size w w1) => hs.belowF strE_mono hF hb); have HS' := Lib.hid (fun (w1 : World) (hb : Below w.heap.size w w1) => hs'.belowF strE_mono hG hb)
  have HM := Lib.hid (fun (w1 : World) (hb : Below w.heap.size w w1) => hm.belowF msgE_mono hF hb); have HM' := Lib.hid (fun (w1 : World) (hb : Below w.heap.size w w1) => hm'.belowF msgE_mono hG hb)
  have HT := Lib.hid (fun (w1 : World) (hb : Below w.heap.size w w1) => ht.belowF tabE_mono hF hb); have HT' := Lib.hid (fun (w1 : World) (hb : Below w.heap.size w w1) => ht'.belowF tabE_mono hG hb)
  obtain ⟨As, ca, rfl, _, _⟩ := hs.form; obtain ⟨As', ca', rfl, _, _⟩ := hs'.form
  obtain ⟨Am, cm, rfl, _, _⟩ := hm.form; obtain ⟨Am', cm', rfl, _, _⟩ := hm'.form
  obtain ⟨At, ct, rfl, _, _⟩ := ht.form; obtain ⟨At', ct', rfl, _, _⟩ := ht'.form
  have HF := Lib.hid hF; have HG := Lib.hid hG
  clear hs hs' hm hm' ht ht' hF hG
  show Calls Try.prog 21 #[.agg #[.bool d.hasV, .int .i64 d.ver.line, .int .i64 d.ver.col, .string d.ver.text, .int .i64 d.sta.line, .int .i64 d.sta.col, .slice As d.sta.names.length ca, .slice Am d.msgs.length cm, .slice At d.tabs.length ct], .agg #[.bool d.hasV, .int .i64 d.ver.line, .int .i64 d.ver.col, .string d.ver.text, .int .i64 d.sta.line, .int .i64 d.sta.col, .slice As' d.sta.names.length ca', .slice Am' d.msgs.length cm', .slice At' d.tabs.length ct']] w (Yes w)
  go_enter Try.func21, Try.ntmps21
  go_wp2_with fail
  refine (sameMessages _ _ d.msgs F G _ (HM.out _ (by exact (by repeat' (first | (with_reducible assumption) | (with_reducible refine Below.setCell ?_ ?_ _) | (with_reducible refine Below.alloc ?_ ?_ _) | (with_reducible refine Below.drew ?_) | (with_reducible refine below_drewN ?_ _) | (with_reducible exact Below.refl _ _) | (show _ ≤ _; (try simp); (try omega); done) | exact Below.refl _ _ | assumption)))) (HM'.out _ (by exact (by repeat' (first | (with_reducible assumption) | (with_reducible refine Below.setCell ?_ ?_ _) | (with_reducible refine Below.alloc ?_ ?_ _) | (with_reducible refine Below.drew ?_) | (with_reducible refine below_drewN ?_ _) | (with_reducible exact Below.refl _ _) | (show _ ≤ _; (try simp); (try omega); done) | exact Below.refl _ _ | assumption)))) (fun b hb => by have := HF.out b hb; simp; omega) (fun b hb => by have := HG.out b hb; simp; omega)).mono ?_
  rintro e w1 ⟨rfl, hb1⟩
  have hz1 := hb1.size
  simp at hz1
  have HX0 := Lib.hid (Has.below (by exact (Has.new w _ _).alloc _) hb1 (by (try simp); (try omega))); have HX1 := Lib.hid (Has.below (by exact Has.new1 w _ _ _) hb1 (by (try simp); (try omega)))
  have HB1 := Lib.hid (show Below w.heap.size w w1 from Below.trans (by repeat' (first | (with_reducible assumption) | (with_reducible refine Below.setCell ?_ ?_ _) | (with_reducible refine Below.alloc ?_ ?_ _) | (with_reducible refine Below.drew ?_) | (with_reducible refine below_drewN ?_ _) | (with_reducible exact Below.refl _ _) | (show _ ≤ _; (try simp); (try omega); done) | exact Below.refl _ _ | assumption)) (hb1.mono (by (try simp); (try omega))))
  clear hb1
  have c_w1_H_4 : w1.cell? ⟨w.heap.size, 4, none⟩ = some (.int .i64 d.sta.line) := HX0.out.cell 4; have f_w1_H_4 : w1.frozen? ⟨w.heap.size, 4, none⟩ = false := HX0.out.frozen 4; have c_w1_H_5 : w1.cell? ⟨w.heap.size, 5, none⟩ = some (.int .i64 d.sta.col) := HX0.out.cell 5; have f_w1_H_5 : w1.frozen? ⟨w.heap.size, 5, none⟩ = false := HX0.out.frozen 5; have c_w1_H_6 : w1.cell? ⟨w.heap.size, 6, none⟩ = some (.slice As d.sta.names.length ca) := HX0.out.cell 6; have f_w1_H_6 : w1.frozen? ⟨w.heap.size, 6, none⟩ = false := HX0.out.frozen 6; have c_w1_H_8 : w1.cell? ⟨w.heap.size, 8, none⟩ = some (.slice At d.tabs.length ct) := HX0.out.cell 8; have f_w1_H_8 : w1.frozen? ⟨w.heap.size, 8, none⟩ = false := HX0.out.frozen 8
  have c_w1_Hp1_4 : w1.cell? ⟨w.heap.size + 1, 4, none⟩ = some (.int .i64 d.sta.line) := HX1.out.cell 4; have f_w1_Hp1_4 : w1.frozen? ⟨w.heap.size + 1, 4, none⟩ = false := HX1.out.frozen 4; have c_w1_Hp1_5 : w1.cell? ⟨w.heap.size + 1, 5, none⟩ = some (.int .i64 d.sta.col) := HX1.out.cell 5; have f_w1_Hp1_5 : w1.frozen? ⟨w.heap.size + 1, 5, none⟩ = false := HX1.out.frozen 5; have c_w1_Hp1_6 : w1.cell? ⟨w.heap.size + 1, 6, none⟩ = some (.slice As' d.sta.names.length ca') := HX1.out.cell 6; have f_w1_Hp1_6 : w1.frozen? ⟨w.heap.size + 1, 6, none⟩ = false := HX1.out.frozen 6; have c_w1_Hp1_8 : w1.cell? ⟨w.heap.size + 1, 8, none⟩ = some (.slice At' d.tabs.length ct') := HX1.out.cell 8; have f_w1_Hp1_8 : w1.frozen? ⟨w.heap.size + 1, 8, none⟩ = false := HX1.out.frozen 8
  go_wp2_with fail
  refine (sameTables _ _ d.tabs F G _ (HT.out _ HB1.out) (HT'.out _ HB1.out) (fun b hb => by have := HF.out b hb; omega) (fun b hb => by have := HG.out b hb; omega)).mono ?_
  rintro e w2 ⟨rfl, hb2⟩
  have hz2 := hb2.size
  have HY0 := Lib.hid (HX0.out.below hb2 (by omega)); have HY1 := Lib.hid (HX1.out.below hb2 (by omega))
  have HB2 := Lib.hid (HB1.out.trans (hb2.mono (by omega)))
  clear hb2 HX0 HX1
  have c_w2_H_4 : w2.cell? ⟨w.heap.size, 4, none⟩ = some (.int .i64 d.sta.line) := HY0.out.cell 4; have f_w2_H_4 : w2.frozen? ⟨w.heap.size, 4, none⟩ = false := HY0.out.frozen 4; have c_w2_H_5 : w2.cell? ⟨w.heap.size, 5, none⟩ = some (.int .i64 d.sta.col) := HY0.out.cell 5; have f_w2_H_5 : w2.frozen? ⟨w.heap.size, 5, none⟩ = false := HY0.out.frozen 5; have c_w2_H_6 : w2.cell? ⟨w.heap.size, 6, none⟩ = some (.slice As d.sta.names.length ca) := HY0.out.cell 6; have f_w2_H_6 : w2.frozen? ⟨w.heap.size, 6, none⟩ = false := HY0.out.frozen 6; have c_w2_H_8 : w2.cell? ⟨w.heap.size, 8, none⟩ = some (.slice At d.tabs.length ct) := HY0.out.cell 8; have f_w2_H_8 : w2.frozen? ⟨w.heap.size, 8, none⟩ = false := HY0.out.frozen 8
  have c_w2_Hp1_4 : w2.cell? ⟨w.heap.size + 1, 4, none⟩ = some (.int .i64 d.sta.line) := HY1.out.cell 4; have f_w2_Hp1_4 : w2.frozen? ⟨w.heap.size + 1, 4, none⟩ = false := HY1.out.frozen 4; have c_w2_Hp1_5 : w2.cell? ⟨w.heap.size + 1, 5, none⟩ = some (.int .i64 d.sta.col) := HY1.out.cell 5; have f_w2_Hp1_5 : w2.frozen? ⟨w.heap.size + 1, 5, none⟩ = false := HY1.out.frozen 5; have c_w2_Hp1_6 : w2.cell? ⟨w.heap.size + 1, 6, none⟩ = some (.slice As' d.sta.names.length ca') := HY1.out.cell 6; have f_w2_Hp1_6 : w2.frozen? ⟨w.heap.size + 1, 6, none⟩ = false := HY1.out.frozen 6; have c_w2_Hp1_8 : w2.cell? ⟨w.heap.size + 1, 8, none⟩ = some (.slice At' d.tabs.length ct') := HY1.out.cell 8; have f_w2_Hp1_8 : w2.frozen? ⟨w.heap.size + 1, 8, none⟩ = false := HY1.out.frozen 8
  go_wp2_with fail
  refine (sameStations d.sta (staCells d.sta (.slice As d.sta.names.length ca)) (staCells d.sta (.slice As' d.sta.names.length ca')) F G _ ⟨_, rfl, HS.out _ HB2.out⟩ ⟨_, rfl, HS'.out _ HB2.out⟩ (fun b hb => by have := HF.out b hb; omega) (fun b hb => by have := HG.out b hb; omega)).mono ?_
  rintro e w3 ⟨rfl, hb3⟩
  have HB3 := Lib.hid (HB2.out.trans (hb3.mono (by omega)))
  clear hb3
  go_wp2
  go_ret
  exact ⟨rfl, HB3.out⟩
end sameK
end Go.Proofs.Ytibgjemjdbfajaa
