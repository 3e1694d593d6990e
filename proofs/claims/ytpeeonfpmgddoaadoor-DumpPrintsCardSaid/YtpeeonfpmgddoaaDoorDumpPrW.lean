/- DumpPrints' walk: of any line. Conditions: two tables of the library and errors.errorType are laid, numbers within their types' bounds. -/
import Derived.Test.YtpeeonfpmgddoaaDoorDumpR27
import Derived.Test.YtpeeonfpmgddoaaDoorLineLent
import Derived.Test.YtpeeonfpmgddoaaDoorPlain
namespace Go.Proofs.YtpeeonfpmgddoaaDoor
open Go.RowKit Go.Bus Go.Bus.dumpK Go.Bus.textK
set_option linter.unusedVariables false
set_option linter.unusedSimpArgs false
namespace dumpW
theorem sl_lent {w : World} {base : Nat} {v : Value} {l m : List Int} (h : Lent w base 5 (Value.int .u8) v l.length (l ++ m)) : Sl w w.heap.size (Value.int .u8) v l := by
  obtain ⟨g, cap, rfl, hn, ho⟩ := h
  obtain ⟨A, c, he, h1, h2, h3⟩ := Sl.of_own ho
  cases he
  rw [List.length_append] at h1
  refine ⟨_, cap, rfl, by omega, h2, fun h0 => ?_⟩
  obtain ⟨b, off, e1, hb, hc⟩ := h3 (by rw [List.length_append]; omega)
  refine ⟨b, off, e1, hb, fun i x hi => hc i x ?_⟩
  rw [List.getElem?_append_left (List.getElem?_eq_some_iff.1 hi).1]
  exact hi
set_option maxRecDepth 100000 in
set_option maxHeartbeats 4000000 in
theorem prints_w (l : Ln) (ho : l.Ok) (A : Option Addr) (cap : Nat) (w : World) (hs : Sl w w.heap.size (Value.int .u8) (.slice A l.data.length cap) l.data) (hpl : l.port.length ≤ 140737488351232) (hdl : l.data.length ≤ 140737488351232) (hT : fmtK.Tab w) (hZ : hexW.Tz w) (T : ByteArray) (E : Value) (no : Int)
    (hR : ∀ W, Below w.heap.size w W → Calls Tryd.prog 7 #[.agg #[.int .u64 (l.time : Nat), .string ⟨l.port.toArray⟩, .int .u32 (l.id : Nat), .bool l.wide, .slice A l.data.length cap]] W fun e w' => e = .returned (.tuple #[.string T, .int .i64 no]) ∧ Below W.heap.size W w')
    (hD : ∀ W v, Below w.heap.size w W → Sl W W.heap.size (Value.int .u8) v l.data → Calls Tryd.prog 9 #[.agg (lnC l v).toArray] W fun e w' => e = .returned (.tuple #[.string T, E]) ∧ Below W.heap.size W w')
    (hP : ∀ W, Below w.heap.size w W → Calls Tryd.prog 10 #[E, .int .i64 no] W fun e w' => e = .returned (.bool true) ∧ Below W.heap.size W w') :
    Calls Tryd.prog 3 #[.agg #[.int .u64 (l.time : Nat), .string ⟨l.port.toArray⟩, .int .u32 (l.id : Nat), .bool l.wide, .slice A l.data.length cap]] w fun e w' => e = .returned (.bool true) ∧ Below w.heap.size w w' := by
  have HS := Lib.hid hs
  have HR := Lib.hid hR
  have HD := Lib.hid hD
  have HP := Lib.hid hP
  have HJ0 := Lib.hid (Has.new w 28 #[.int .u64 (l.time : Nat), .string ⟨l.port.toArray⟩, .int .u32 (l.id : Nat), .bool l.wide, .slice A l.data.length cap])
  have hss : (T.toList == T.toList) = true := by simp
  clear hs hR hD hP hT hZ ho
  go_enter Tryd.func3, Tryd.ntmps3
  go_wp2_with fail
  refine (HR.out _ (by repeat' (first | (with_reducible assumption) | (with_reducible refine Below.setCell ?_ ?_ _) | (with_reducible refine Below.alloc ?_ ?_ _) | (with_reducible refine Below.drew ?_) | (with_reducible refine below_drewN ?_ _) | (with_reducible exact Below.refl _ _) | (show _ ≤ _; (try simp); (try omega); done) | exact Below.refl _ _ | assumption))).mono ?_
  rintro e w1 ⟨rfl, hb⟩
  have hj1 := HJ0.out.below hb HJ0.out.lt
  have b0w1 : w1.cell? ⟨w.heap.size, 0, none⟩ = some (.int .u64 (l.time : Nat)) := hj1.cell 0
  have b1w1 : w1.cell? ⟨w.heap.size, 1, none⟩ = some (.string ⟨l.port.toArray⟩) := hj1.cell 1
  have b2w1 : w1.cell? ⟨w.heap.size, 2, none⟩ = some (.int .u32 (l.id : Nat)) := hj1.cell 2
  have b3w1 : w1.cell? ⟨w.heap.size, 3, none⟩ = some (.bool l.wide) := hj1.cell 3
  have b4w1 : w1.cell? ⟨w.heap.size, 4, none⟩ = some (.slice A l.data.length cap) := hj1.cell 4
  have z1 : w.heap.size < w1.heap.size := hj1.lt
  have HJ1 := Lib.hid hj1
  have HB1 : Hid (Below w.heap.size w w1) := Lib.hid (Below.trans (by repeat' (first | (with_reducible assumption) | (with_reducible refine Below.setCell ?_ ?_ _) | (with_reducible refine Below.alloc ?_ ?_ _) | (with_reducible refine Below.drew ?_) | (with_reducible refine below_drewN ?_ _) | (with_reducible exact Below.refl _ _) | (show _ ≤ _; (try simp); (try omega); done) | exact Below.refl _ _ | assumption)) (hb.mono (by (try simp); (try omega))))
  have HLN : Hid (Calls Tryd.prog 8 #[.agg #[.int .u64 (l.time : Nat), .string ⟨l.port.toArray⟩, .int .u32 (l.id : Nat), .bool l.wide, .slice A l.data.length cap]] w1 fun e w' => ∃ g c : Nat, e = .returned (.agg #[.int .u64 (l.time : Nat), .string ⟨l.port.toArray⟩, .int .u32 (l.id : Nat), .bool l.wide, .slice (some ⟨g, 0, none⟩) l.data.length c]) ∧ Lent w' w1.heap.size 5 (Value.int .u8) (.slice (some ⟨g, 0, none⟩) l.data.length c) l.data.length (l.data ++ bytesK.marks) ∧ Below w1.heap.size w1 w') := Lib.hid ((lentline_any l _ w1 (HS.out.at_below HB1.out) hdl).mono (by
    rintro e w' ⟨u, rfl, hl, hb⟩
    obtain ⟨g, c, rfl, h1, h2⟩ := hl
    exact ⟨g, c, rfl, ⟨g, c, rfl, h1, h2⟩, hb⟩))
  clear hb hj1
  go_wp2_with fail
  refine HLN.out.mono ?_
  rintro e w2 ⟨g, c, rfl, hlent, hb⟩
  have hj2 := HJ1.out.below hb z1
  have b0w2 : w2.cell? ⟨w.heap.size, 0, none⟩ = some (.int .u64 (l.time : Nat)) := hj2.cell 0
  have b1w2 : w2.cell? ⟨w.heap.size, 1, none⟩ = some (.string ⟨l.port.toArray⟩) := hj2.cell 1
  have b2w2 : w2.cell? ⟨w.heap.size, 2, none⟩ = some (.int .u32 (l.id : Nat)) := hj2.cell 2
  have b3w2 : w2.cell? ⟨w.heap.size, 3, none⟩ = some (.bool l.wide) := hj2.cell 3
  have b4w2 : w2.cell? ⟨w.heap.size, 4, none⟩ = some (.slice A l.data.length cap) := hj2.cell 4
  have z2 : w.heap.size < w2.heap.size := hj2.lt
  have HJ2 := Lib.hid hj2
  have HB2 : Hid (Below w.heap.size w w2) := Lib.hid (HB1.out.trans (hb.mono HB1.out.size))
  have HL := Lib.hid hlent
  have hb2x : Below w2.heap.size w2 (w2.alloc (.cells #[.int .u64 (l.time : Nat), .string ⟨l.port.toArray⟩, .int .u32 (l.id : Nat), .bool l.wide, .slice (some ⟨g, 0, none⟩) l.data.length c] 28)) := (Below.refl _ _).alloc (Nat.le_refl _) _
  have HDD : Hid (Calls Tryd.prog 9 #[.agg #[.int .u64 (l.time : Nat), .string ⟨l.port.toArray⟩, .int .u32 (l.id : Nat), .bool l.wide, .slice (some ⟨g, 0, none⟩) l.data.length c]] (w2.alloc (.cells #[.int .u64 (l.time : Nat), .string ⟨l.port.toArray⟩, .int .u32 (l.id : Nat), .bool l.wide, .slice (some ⟨g, 0, none⟩) l.data.length c] 28)) fun e w' => e = .returned (.tuple #[.string T, E]) ∧ Below (w2.alloc (.cells #[.int .u64 (l.time : Nat), .string ⟨l.port.toArray⟩, .int .u32 (l.id : Nat), .bool l.wide, .slice (some ⟨g, 0, none⟩) l.data.length c] 28)).heap.size (w2.alloc (.cells #[.int .u64 (l.time : Nat), .string ⟨l.port.toArray⟩, .int .u32 (l.id : Nat), .bool l.wide, .slice (some ⟨g, 0, none⟩) l.data.length c] 28)) w') := Lib.hid (HD.out _ _ (HB2.out.trans (hb2x.mono (Nat.le_of_lt z2))) (sl_lent (HL.out.below hb2x)))
  clear hb hj2 hlent hb2x
  go_wp2_with fail
  refine HDD.out.mono ?_
  rintro e w3 ⟨rfl, hb⟩
  have hj3 : Has w3 w.heap.size 28 #[.int .u64 (l.time : Nat), .string ⟨l.port.toArray⟩, .int .u32 (l.id : Nat), .bool l.wide, .slice A l.data.length cap] := Has.below (by exact HJ2.out.alloc _) hb (by simp; omega)
  have hx3 : Has w3 w2.heap.size 28 #[.int .u64 (l.time : Nat), .string ⟨l.port.toArray⟩, .int .u32 (l.id : Nat), .bool l.wide, .slice (some ⟨g, 0, none⟩) l.data.length c] := Has.below (by exact Has.new w2 _ _) hb (by simp)
  have hb3 : Below w2.heap.size w2 w3 := Below.trans ((Below.refl _ _).alloc (Nat.le_refl _) _) (hb.mono (by simp))
  have HB3 : Hid (Below w.heap.size w w3) := Lib.hid (HB2.out.trans (hb3.mono (Nat.le_of_lt z2)))
  have HL3 := Lib.hid (HL.out.below hb3)
  have b0w3 : w3.cell? ⟨w.heap.size, 0, none⟩ = some (.int .u64 (l.time : Nat)) := hj3.cell 0
  have b1w3 : w3.cell? ⟨w.heap.size, 1, none⟩ = some (.string ⟨l.port.toArray⟩) := hj3.cell 1
  have b2w3 : w3.cell? ⟨w.heap.size, 2, none⟩ = some (.int .u32 (l.id : Nat)) := hj3.cell 2
  have b3w3 : w3.cell? ⟨w.heap.size, 3, none⟩ = some (.bool l.wide) := hj3.cell 3
  have b4w3 : w3.cell? ⟨w.heap.size, 4, none⟩ = some (.slice A l.data.length cap) := hj3.cell 4
  have x0w3 : w3.cell? ⟨w2.heap.size, 0, none⟩ = some (.int .u64 (l.time : Nat)) := hx3.cell 0
  have x1w3 : w3.cell? ⟨w2.heap.size, 1, none⟩ = some (.string ⟨l.port.toArray⟩) := hx3.cell 1
  have x2w3 : w3.cell? ⟨w2.heap.size, 2, none⟩ = some (.int .u32 (l.id : Nat)) := hx3.cell 2
  have x3w3 : w3.cell? ⟨w2.heap.size, 3, none⟩ = some (.bool l.wide) := hx3.cell 3
  have x4w3 : w3.cell? ⟨w2.heap.size, 4, none⟩ = some (.slice (some ⟨g, 0, none⟩) l.data.length c) := hx3.cell 4
  have z3 : w.heap.size < w3.heap.size := hj3.lt
  have zx3 : w2.heap.size < w3.heap.size := hx3.lt
  have HJ3 := Lib.hid hj3
  have HX3 := Lib.hid hx3
  clear hb hb3 hj3 hx3
  go_wp2_with fail
  refine (HP.out _ HB3.out).mono ?_
  rintro e w4 ⟨rfl, hb⟩
  have hj4 := HJ3.out.below hb z3
  have hx4 := HX3.out.below hb zx3
  have b0w4 : w4.cell? ⟨w.heap.size, 0, none⟩ = some (.int .u64 (l.time : Nat)) := hj4.cell 0
  have b1w4 : w4.cell? ⟨w.heap.size, 1, none⟩ = some (.string ⟨l.port.toArray⟩) := hj4.cell 1
  have b2w4 : w4.cell? ⟨w.heap.size, 2, none⟩ = some (.int .u32 (l.id : Nat)) := hj4.cell 2
  have b3w4 : w4.cell? ⟨w.heap.size, 3, none⟩ = some (.bool l.wide) := hj4.cell 3
  have b4w4 : w4.cell? ⟨w.heap.size, 4, none⟩ = some (.slice A l.data.length cap) := hj4.cell 4
  have x0w4 : w4.cell? ⟨w2.heap.size, 0, none⟩ = some (.int .u64 (l.time : Nat)) := hx4.cell 0
  have x1w4 : w4.cell? ⟨w2.heap.size, 1, none⟩ = some (.string ⟨l.port.toArray⟩) := hx4.cell 1
  have x2w4 : w4.cell? ⟨w2.heap.size, 2, none⟩ = some (.int .u32 (l.id : Nat)) := hx4.cell 2
  have x3w4 : w4.cell? ⟨w2.heap.size, 3, none⟩ = some (.bool l.wide) := hx4.cell 3
  have x4w4 : w4.cell? ⟨w2.heap.size, 4, none⟩ = some (.slice (some ⟨g, 0, none⟩) l.data.length c) := hx4.cell 4
  have z4 : w.heap.size < w4.heap.size := hj4.lt
  have HB4 : Hid (Below w.heap.size w w4) := Lib.hid (HB3.out.trans (hb.mono HB3.out.size))
  have HKL : Hid (Calls Tryd.prog 11 #[.agg #[.int .u64 (l.time : Nat), .string ⟨l.port.toArray⟩, .int .u32 (l.id : Nat), .bool l.wide, .slice (some ⟨g, 0, none⟩) l.data.length c], .agg #[.int .u64 (l.time : Nat), .string ⟨l.port.toArray⟩, .int .u32 (l.id : Nat), .bool l.wide, .slice A l.data.length cap]] w4 fun e w' => e = .returned (.bool true) ∧ Below w4.heap.size w4 w') := Lib.hid (keptline_yes l _ _ w4 _ (HL3.out.below hb) (HS.out.at_below HB4.out) hdl)
  clear hb hj4 hx4
  go_wp2_with fail
  refine HKL.out.mono ?_
  rintro e w5 ⟨rfl, hb⟩
  have HB5 : Hid (Below w.heap.size w w5) := Lib.hid (HB4.out.trans (hb.mono HB4.out.size))
  clear hb
  go_wp2
  go_ret
  exact ⟨rfl, HB5.out⟩
theorem prints_any (l : Ln) (ho : l.Ok) (v : Value) (w : World) (hs : Sl w w.heap.size (Value.int .u8) v l.data) (hpl : l.port.length ≤ 140737488351232) (hdl : l.data.length ≤ 140737488351232) (hT : fmtK.Tab w) (hZ : hexW.Tz w) (hG : asK.ErrT w) : Calls Tryd.prog 3 #[.agg (lnC l v).toArray] w fun e w' => e = .returned (.bool true) ∧ Below w.heap.size w w' := by
  obtain ⟨A, cap, rfl, hcap, hmax⟩ := hs.form
  by_cases hw : wrong l = 0
  · refine prints_w l ho A cap w hs hpl hdl hT hZ ⟨(lineD l).toArray⟩ .nilIface 0 (fun W hb => (rdprint_any l ho _ W (hs.at_below hb) hpl).mono ?_) (fun W u hb hu => (dprint_any l ho u W hu hpl (hT.at_below hb) (hZ.at_below hb)).mono ?_) (fun W _ => asK.plain_nil W)
    · rintro e w' ⟨hb, ⟨-, he⟩ | ⟨h, -⟩⟩
      · exact ⟨he, hb⟩
      · exact absurd hw h
    · rintro e w' ⟨hb, ⟨-, he⟩ | ⟨h, -⟩⟩
      · exact ⟨he, hb⟩
      · exact absurd hw h
  · have hno : wrong l = 11 ∨ wrong l = 26 ∨ wrong l = 15 := by
      unfold wrong at hw ⊢
      split
      · exact .inl rfl
      · split
        · exact .inr (.inl rfl)
        · split
          · exact .inr (.inr rfl)
          · rename_i h1 h2 h3
            exact absurd (by rw [if_neg h1, if_neg h2, if_neg h3]) hw
    refine prints_w l ho A cap w hs hpl hdl hT hZ ⟨#[]⟩ (.iface 54 (.int .i64 (wrong l))) (wrong l) (fun W hb => (rdprint_any l ho _ W (hs.at_below hb) hpl).mono ?_) (fun W u hb hu => (dprint_any l ho u W hu hpl (hT.at_below hb) (hZ.at_below hb)).mono ?_) (fun W hb => asK.plain_no (wrong l) W (by omega) (by omega) (hG.at_below hb))
    · rintro e w' ⟨hb, ⟨h, -⟩ | ⟨-, he⟩⟩
      · exact absurd h hw
      · exact ⟨he, hb⟩
    · rintro e w' ⟨hb, ⟨h, -⟩ | ⟨-, he⟩⟩
      · exact absurd h hw
      · exact ⟨he, hb⟩
end dumpW
end Go.Proofs.YtpeeonfpmgddoaaDoor
