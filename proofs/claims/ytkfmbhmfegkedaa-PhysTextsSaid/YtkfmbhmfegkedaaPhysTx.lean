/- Walk of busbarlaw11.PhysTexts. Condition: no list of more than 2^47 bytes. -/
import Derived.Test.YtkfmbhmfegkedaaRefPhys
import Derived.Test.YtkfmbhmfegkedaaSigK
namespace Go.Proofs.Ytkfmbhmfegkedaa
open Go.RowKit Go.Bus Go.Rt Go.Bus.dbK Go.Bus.rawK Go.Bus.cellK Go.Bus.textK Go.Maps Go.Bus.lentT
set_option linter.unusedVariables false
set_option linter.unusedSimpArgs false
namespace physW
open ratW textsK sigK
abbrev ClW (w : World) (f : FuncId) (args : Array Value) (v : Value) : Prop := ∀ W, Below w.heap.size w W → Cl1 f args v W
def LendA (s : Sig) (w : World) (e : Ending) (w' : World) : Prop := ∃ ds g c, e = .returned (.agg ds) ∧ Hid (ds = csOf s (.slice (some g) s.to.length c)) ∧ Hid (LentK w' w.heap.size 9 1 (.slice (some g) s.to.length c) s.to.length ((s.to ++ marksT).flatMap tCells)) ∧ Below w.heap.size w w'
theorem lenda {s : Sig} {w w' : World} {e : Ending} (h : Lend s w e w') : LendA s w e w' := by
  obtain ⟨g, c, rfl, h1, h2⟩ := h
  exact ⟨_, g, c, rfl, Lib.hid rfl, Lib.hid h1, h2⟩

set_option maxRecDepth 100000 in
set_option maxHeartbeats 4000000 in
theorem texts_go {v n : Int} {a : ByteArray} {b k : Bool} (L t0 : Value) (l : List RowD) (s : Sig) (t : ByteArray) (cs : Array Value) (w : World) (HI : Hid ((Try.prog.info? 30).map (·.size) = some cs.size)) (HN : Hid (cs.size = 19))
    (HCS : Hid (Value.agg cs = sigV s t0)) (HL : Hid (SlK 2 rowE w (Old w.heap.size) L l)) (HS : Hid (SlK 1 strE w (Old w.heap.size) t0 s.to)) (HB1 : Hid (l.length * 24 ≤ 140737488351232)) (HB2 : Hid (s.to.length * 16 ≤ 140737488351232))
    (CA : Hid (ClW w 7 #[L, .agg cs, .int .u64 v] (.tuple #[.string a, .bool b]))) (CB : Hid (ClW w 8 #[L, .agg cs, .string t] (.tuple #[.int .u64 n, .bool k])))
    (CT : Hid (∀ W x A m c, SlK 2 rowE W (Old W.heap.size) x l → Cl1 11 #[x, .agg (csOf s (.slice A m c)), .int .u64 v] (.tuple #[.string a, .bool b]) W))
    (CV : Hid (∀ W x A m c, SlK 2 rowE W (Old W.heap.size) x l → Cl1 12 #[x, .agg (csOf s (.slice A m c)), .string t] (.tuple #[.int .u64 n, .bool k]) W)) :
    Cl1 3 #[L, .agg cs, .int .u64 v, .string t] (.bool true) w := by
  have HZ : Hid ((#[.int .i64 0, .int .i64 0, .string ⟨#[]⟩, .int .i64 0, .int .u64 0, .int .i64 0, .int .i64 0, .bool false, .bool false, .int .i64 0, .int .i64 0, .int .i64 0, .int .i64 0, .int .i64 0, .int .i64 0, .int .i64 0, .int .i64 0, .string ⟨#[]⟩, .slice none 0 0] : Array Value).size = 19) := Lib.hid rfl
  have CL := Lib.hid (fun (W : World) (hb : Below w.heap.size w W) => rows_lent L l (Old w.heap.size) W (HL.out.below rowE_mono hb) (fun b h => Nat.lt_of_lt_of_le h hb.size) HB1.out)
  have CG := Lib.hid (fun (W : World) (hb : Below w.heap.size w W) => (lent_sig s t0 W (HS.out.later strE_mono hb) HB2.out))
  rw [← HCS.out] at CG
  go_enter Try.func3, Try.ntmps3
  go_wp2_with (first
    | (refine wpList_load_has rfl 30 _ rfl w.heap.size rfl (by first | exact Has.new w _ _ | exact HS1.out | exact HS2.out | exact HS3.out) Try.underlying30 rfl HI.out ?_)
    | (refine wpList_load_has rfl 30 _ rfl w4.heap.size rfl (by first | exact Has.new w4 _ _ | exact HD5.out) Try.underlying30 rfl HI2.out ?_)
    | (refine wpList_store_last rfl 30 _ _ rfl 30 _ rfl rfl HI2.out HZ2.out H12.out ?_)
    | (go_at_call 7; refine (CA.out _ (by exact (by repeat' (first | (with_reducible assumption) | (with_reducible refine Below.setCell ?_ ?_ _) | (with_reducible refine Below.alloc ?_ ?_ _) | (with_reducible refine Below.drew ?_) | (with_reducible refine below_drewN ?_ _) | (with_reducible exact Below.refl _ _) | (show _ ≤ _; (try simp); (try omega); done) | exact Below.refl _ _ | assumption)))).mono ?_; rintro e w1 ⟨rfl, hb1⟩; have hz1 := hb1.size; (try simp at hz1); have HS1 := Lib.hid (show Has w1 w.heap.size 30 cs from Has.below (by exact Has.new w _ cs) hb1 (by (try simp); (try omega))); have HW1 : Hid (Below w.heap.size w w1) := Lib.hid (Below.trans (by repeat' (first | (with_reducible assumption) | (with_reducible refine Below.setCell ?_ ?_ _) | (with_reducible refine Below.alloc ?_ ?_ _) | (with_reducible refine Below.drew ?_) | (with_reducible refine below_drewN ?_ _) | (with_reducible exact Below.refl _ _) | (show _ ≤ _; (try simp); (try omega); done) | exact Below.refl _ _ | assumption)) (hb1.mono (by (try simp); (try omega)))); clear hb1)
    | (go_at_call 8; refine (CB.out _ HW1.out).mono ?_; rintro e w2 ⟨rfl, hb2⟩; have hz2 := hb2.size; have HS2 := Lib.hid (HS1.out.below hb2 (by omega)); have HW2 := Lib.hid (HW1.out.trans (hb2.mono (by omega))); clear hb2)
    | (go_at_call 9; refine (CL.out _ HW2.out).mono ?_; rintro e w3 ⟨xr, rfl, hl3, hb3⟩; have hz3 := hb3.size; have HS3 := Lib.hid (HS2.out.below hb3 (by omega)); have HW3 := Lib.hid (HW2.out.trans (hb3.mono (by omega))); have HX3 := Lib.hid hl3; clear hb3 hl3)
    | (go_at_call 10; refine (CG.out _ HW3.out).mono ?_; intro e w4 hl4; obtain ⟨ds, g, c, rfl, HDS, HY4, hb4⟩ := lenda hl4; have hz4 := hb4.size; have HS4 := Lib.hid (HS3.out.below hb4 (by omega)); have HW4 := Lib.hid (HW3.out.trans (hb4.mono (by omega))); have HX4 := Lib.hid (HX3.out.keep hb4); clear hb4 hl4 HX3
       have HI2 : Hid ((Try.prog.info? 30).map (·.size) = some ds.size) := Lib.hid (by rw [HDS.out]; exact (cs_info s _).out)
       have HZ2 := Lib.hid (HZ.out.trans (show 19 = ds.size by rw [HDS.out]; rfl))
       have H12 : Hid (ds.all (·.oneCell') = true) := Lib.hid (by rw [HDS.out]; exact (cs_one s _ _ _).out))
    | (go_at_call 11; refine (show Cl1 _ _ (.tuple #[.string a, .bool b]) _ from by rw [HDS.out]; exact CT.out _ _ _ _ _ ((Ln.sl (R := rowE) (cells := rowCells) (m := marksR) (fun _ => rfl) (fun _ _ _ => rfl) HX4.out).later rowE_mono (by exact (Below.refl _ _).alloc (Nat.le_refl _) _))).mono ?_; rintro e w5 ⟨rfl, hb5⟩; have hz5 := hb5.size; (try simp at hz5)
       have HD5 := Lib.hid (show Has w5 w4.heap.size 30 ds from Has.below (by exact Has.new w4 _ _) hb5 (by (try simp); (try omega)))
       have HS5 := Lib.hid (show Has w5 w.heap.size 30 cs from Has.below (by exact HS4.out.alloc _) hb5 (by (try simp); (try omega)))
       have hK : Below w4.heap.size w4 w5 := Below.trans (by repeat' (first | (with_reducible assumption) | (with_reducible refine Below.setCell ?_ ?_ _) | (with_reducible refine Below.alloc ?_ ?_ _) | (with_reducible refine Below.drew ?_) | (with_reducible refine below_drewN ?_ _) | (with_reducible exact Below.refl _ _) | (show _ ≤ _; (try simp); (try omega); done) | exact Below.refl _ _ | assumption)) (hb5.mono (by (try simp); (try omega)))
       have HX5 := Lib.hid (HX4.out.keep hK)
       have HY5 := Lib.hid (HY4.out.keep hK)
       have HW5 := Lib.hid (HW4.out.trans (hK.mono (by omega)))
       clear hb5 hK HX4 HY4)
    | (go_at_call 12; refine (show Cl1 _ _ (.tuple #[.int .u64 n, .bool k]) _ from by rw [HDS.out]; exact CV.out _ _ _ _ _ (Ln.sl (R := rowE) (cells := rowCells) (m := marksR) (fun _ => rfl) (fun _ _ _ => rfl) HX5.out)).mono ?_; rintro e w6 ⟨rfl, hb6⟩; have hz6 := hb6.size
       have HD6 := Lib.hid (HD5.out.below hb6 (by omega))
       have HS6 := Lib.hid (HS5.out.below hb6 (by omega))
       have HX6 := Lib.hid (HX5.out.keep hb6)
       have HY6 := Lib.hid (HY5.out.keep hb6)
       have HW6 := Lib.hid (HW5.out.trans (hb6.mono (by omega)))
       clear hb6 HX5 HY5)
    | (go_at_call 13; refine (rows_kept _ _ l _ _ HX6.out (HL.out.later rowE_mono HW6.out) HB1.out).mono ?_; rintro e w7 ⟨rfl, hb7⟩; have hz7 := hb7.size
       have HD7 := Lib.hid (HD6.out.below hb7 (by omega))
       have HS7 := Lib.hid (HS6.out.below hb7 (by omega))
       have HY7 := Lib.hid (HY6.out.keep hb7)
       have HW7 := Lib.hid (HW6.out.trans (hb7.mono (by omega)))
       clear hb7 HX6 HY6)
    | (refine wpList_load_if (by rfl) 30 _ rfl w4.heap.size rfl (by exact HD7.out) Try.underlying30 rfl HI2.out ?_)
    | (refine wpList_load_if (by rfl) 30 _ rfl w.heap.size rfl (by exact HS7.out) Try.underlying30 rfl HI.out ?_)
    | (go_at_call 14; refine (show Cl1 _ _ (.bool true) _ from by rw [HDS.out, HCS.out]; exact kept_sig s _ t0 _ _ HY7.out (HS.out.later strE_mono HW7.out) HB2.out).mono ?_; rintro e w8 ⟨rfl, hb8⟩; have HW8 := Lib.hid (HW7.out.trans (hb8.mono (by omega))); clear hb8))
  go_ret
  exact ⟨rfl, HW8.out⟩
theorem texts_val (l : List RowD) (L : Value) (s : Sig) (t0 : Value) (v : Int) (t : ByteArray) (w : World) (v0 : 0 ≤ v) (v1 : v < 18446744073709551616) (ok : RatsOk s) (hl : SlK 2 rowE w (Old w.heap.size) L l) (hok : ∀ r ∈ l, RowOk r) (hs : SlK 1 strE w (Old w.heap.size) t0 s.to)
    (b1 : l.length * 24 ≤ 140737488351232) (b2 : s.to.length * 16 ≤ 140737488351232) :
    Cl1 3 #[L, sigV s t0, .int .u64 v, .string t] (.bool true) w := by
  rw [sigV_cs]
  refine texts_go L t0 l s t _ w (cs_info s t0) (cs_size s t0) (hidf rfl) (hidf hl) (hidf hs) (hidf b1) (hidf b2) (hidf fun W hb => rtext_val l L s t0 v W v0 v1 (hl.later rowE_mono hb)) (hidf fun W hb => rval_val l L s t0 t W (hl.later rowE_mono hb) hok)
    (hidf fun W x A m c hx => text_val l x s A m c v W v0 v1 hx hok) (hidf fun W x A m c hx => val_val l x s A m c t W hx hok)
end physW
end Go.Proofs.Ytkfmbhmfegkedaa
