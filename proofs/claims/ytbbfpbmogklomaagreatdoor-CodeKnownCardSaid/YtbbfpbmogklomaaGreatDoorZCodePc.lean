/- The fifth closure of any field: it reads back what the fourth wrote. Condition: the library's tables are laid. -/
import Derived.Test.YtbbfpbmogklomaaGreatDoorZKs
import Derived.Test.YtbbfpbmogklomaaGreatDoorZKd
import Derived.Test.YtbbfpbmogklomaaGreatDoorZPu16
import Derived.Test.YtbbfpbmogklomaaGreatDoorShelf2
import Derived.Lib.AtoiErrMem
import Derived.Deep.RegionWith
import Derived.Deep.RegionHeld3
import Derived.RegionTactic
namespace Go.Proofs.YtbbfpbmogklomaaGreatDoor
open Go.RowKit Go.Bus Go.Bus.cellK Go.Bus.codeK Go.Bus.hexK
set_option linter.unusedVariables false
set_option linter.unusedSimpArgs false
namespace codeW
theorem cut_own (p : ByteArray) (t : List UInt8) (w : World) : Calls Tryz.prog 90 #[.string ⟨(p.data.toList ++ t).toArray⟩, .string p] w fun e w' => e = .returned (.tuple #[.string ⟨t.toArray⟩, .bool true]) ∧ w = w' := by
  refine (Tryz.strings_CutPrefix ⟨(p.data.toList ++ t).toArray⟩ p w).mono ?_
  rintro e w' ⟨rfl, rfl⟩
  have h := trim_own p.data.toList t
  exact ⟨by rw [show Lib.trimPrefix (ByteArray.mk (p.data.toList ++ t).toArray).data.toList p.data.toList = t from h.1, show Lib.hasPrefix (ByteArray.mk (p.data.toList ++ t).toArray).data.toList p.data.toList = true from h.2], rfl⟩
theorem atoi_own {v : Int} (h0 : 0 ≤ v) (h1 : v ≤ 16384) (w : World) : Calls Tryz.prog 91 #[.string ⟨(Lib.itoa v).toArray⟩] w fun e w' => e = .returned (.tuple #[.int .i64 v, .nilIface]) ∧ Below w.heap.size w w' := by
  have hl : (Lib.itoa v).length ≤ 5 := by rw [itoa_pos h0]; exact dec_len (by omega) (by decide)
  refine (Tryz.strconv_Atoi ⟨(Lib.itoa v).toArray⟩ v (by show (Lib.itoa v).toArray.size ≤ 18; simp; omega) (by simpa using atoi_itoa h0) w).mono ?_
  rintro e w' ⟨rfl, t, rfl⟩
  exact ⟨rfl, Lib.bytesWorld_below _ _ _⟩
set_option maxRecDepth 100000 in
set_option maxHeartbeats 1000000 in
theorem pu_own {v : Nat} (hv : v < 18446744073709551616) (w : World) : Calls Tryz.prog 100 #[.string ⟨(hexs v).toArray⟩, .int .i64 16, .int .i64 64] w fun e w' => e = .returned (.tuple #[.int .u64 (v : Nat), .nilIface]) ∧ Below w.heap.size w w' := by
  have hne : hexs v ≠ [] := fun e => by have := hexs_pos v; rw [e] at this; simp at this
  have hl : (hexs v).length ≤ 16 := hexs_len (k := 16) (by rw [show (16 : Nat) ^ 16 = 18446744073709551616 from by decide]; exact hv) (by decide)
  have HP := Lib.hid (fun (W : World) => (hexW.ipu16_any (hexs v) hne (by omega) W).mono (R' := fun e w' => e = .returned (.tuple #[.int .u64 (v : Nat), .nilIface]) ∧ Below W.heap.size W w') (fun e w' h => by
    unfold hexW.PuPost at h
    rw [hexRd_hexs v hv] at h
    exact h))
  obtain ⟨T, hT⟩ : ∃ T : ByteArray, T = ⟨(hexs v).toArray⟩ := ⟨_, rfl⟩
  rw [← hT] at HP ⊢
  clear hne hl hT hv
  go_enter Tryz.func100, Tryz.ntmps100
  go_wp2_with (go_at_call 123; refine (HP.out _).mono ?_; rintro e w1 ⟨rfl, hb⟩; have HB := Lib.hid hb; clear hb)
  go_ret2
  exact ⟨rfl, HB.out⟩
set_option maxRecDepth 100000 in
set_option maxHeartbeats 1000000 in
theorem paSmall_w (fn : FuncId) (o : Nat) (s S T : ByteArray) (b0 b3 g : Nat) (cs : Array Value) (z v : Int) (h0 : 0 ≤ v) (h1 : v ≤ 16384) (w : World)
    (hcf : ∀ xs w, (callFunc fn xs).run Tryz.prog w = .ok (.enter fn xs) w)
    (hC : ∀ W, Calls Tryz.prog fn #[.pointer (some ⟨g, 0, none⟩)] W fun e w' => e = .returned (.pointer (some ⟨g, o, none⟩)) ∧ W = w')
    (hCut : ∀ W, Calls Tryz.prog 90 #[.string S, .string s] W fun e w' => e = .returned (.tuple #[.string T, .bool true]) ∧ W = w')
    (hAt : ∀ W, Calls Tryz.prog 91 #[.string T] W fun e w' => e = .returned (.tuple #[.int .i64 v, .nilIface]) ∧ Below W.heap.size W w')
    (hIt : ∀ W, Only g w W → Calls Tryz.prog 88 #[.int .i64 v] W fun e w' => e = .returned (.string T) ∧ Below W.heap.size W w')
    (hnot : ¬ 9223372036854775807 < s.size + T.size) (heq : ((s ++ T).toList == S.toList) = true)
    (c0 : w.cell? ⟨b0, 0, none⟩ = some (.func (.func fn) #[] #[])) (c3 : w.cell? ⟨b3, 0, none⟩ = some (.string s)) (z0 : b0 < w.heap.size) (z3 : b3 < w.heap.size) (hn3 : b3 ≠ g)
    (hg : Has w g 25 cs) (ho : cs[o]? = some (.int .i64 z)) :
    Calls Tryz.prog 89 #[ptr g, .string S, ptr b3, ptr b0] w fun e w' => e = .returned (.bool true) ∧ Only g w w' ∧ Has w' g 25 (cs.setIfInBounds o (.int .i64 v)) := by
  have HC := Lib.hid hC
  have HCut := Lib.hid hCut
  have HAt := Lib.hid hAt
  have HIt := Lib.hid hIt
  have HG := Lib.hid hg
  have HO := Lib.hid ho
  have HN := Lib.hid hn3
  have zg := hg.lt
  clear hC hCut hAt hIt hg ho hn3
  go_enter Tryz.func89, Tryz.ntmps89
  go_wp2_with (first
    | (go_at_call 90; refine (HCut.out _).mono ?_; rintro e w1 ⟨rfl, rfl⟩)
    | (go_at_call 91; refine (HAt.out _).mono ?_; rintro e w2 ⟨rfl, hb⟩; have c02 : w2.cell? ⟨b0, 0, none⟩ = some (.func (.func fn) #[] #[]) := (hb.cell (p := ⟨b0, 0, none⟩) z0).trans c0; have c32 : w2.cell? ⟨b3, 0, none⟩ = some (.string s) := (hb.cell (p := ⟨b3, 0, none⟩) z3).trans c3; have hg2 := HG.out.below hb zg; have hz2 : w.heap.size ≤ w2.heap.size := hb.size; have zg2 : g < w2.heap.size := hg2.lt; have z32 : b3 < w2.heap.size := Nat.lt_of_lt_of_le z3 hz2; have co2 : w2.cell? ⟨g, o, none⟩ = some (.int .i64 z) := (hg2.cell o).trans HO.out; have fo2 : w2.frozen? ⟨g, o, none⟩ = false := hg2.frozen o; have HG2 := Lib.hid hg2; have HB2 := Lib.hid hb; clear hb hg2)
    | (refine (HC.out _).mono ?_; rintro e w4 ⟨rfl, rfl⟩))
  obtain ⟨W3, hW3⟩ : ∃ W3, W3 = w2.setCell ⟨g, o, none⟩ (.int .i64 v) := ⟨_, rfl⟩
  rw [← hW3]
  have hO3 : Only g w W3 := by rw [hW3]; exact (Only.of_below HB2.out (Nat.le_of_lt zg)).set o _
  have hG3 : Has W3 g 25 (cs.setIfInBounds o (.int .i64 v)) := by rw [hW3]; exact HG2.out.set o _
  have c33 : W3.cell? ⟨b3, 0, none⟩ = some (.string s) := by rw [hW3, World.cell?_setCell_other _ _ _ _ (fun e => HN.out (by injection e with e1 _ _; exact e1.symm))]; exact c32
  have z33 : b3 < W3.heap.size := Nat.lt_of_lt_of_le z3 hO3.size
  have zg3 : g < W3.heap.size := hG3.lt
  have HO3 := Lib.hid hO3
  have HG3 := Lib.hid hG3
  clear hW3 hO3 hG3 c02 c32 co2 fo2 c0 c3
  go_region_held3 (fun W => W.cell? ⟨b3, 0, none⟩ = some (.string s) ∧ Below W3.heap.size W3 W)
    (first | exact ⟨by go_simp, Below.drew (Below.refl _ _)⟩ | exact ⟨by assumption, by assumption⟩)
    (first | (go_at_call 88; refine (HIt.out _ (HO3.out.trans (Only.of_below (‹_ ∧ Below W3.heap.size W3 _›).2 (Nat.le_of_lt zg3)))).mono ?_; rintro e w5 ⟨rfl, hb⟩; (try go_split_ands); have hB : Below W3.heap.size W3 w5 := Below.trans ‹Below W3.heap.size W3 _› (hb.mono (Below.size ‹Below W3.heap.size W3 _›)); have k3 : w5.cell? ⟨b3, 0, none⟩ = some (.string s) := (hB.cell (p := ⟨b3, 0, none⟩) z33).trans c33))
  all_goals
    go_wp2
    go_ret
    exact ⟨rfl, HO3.out.trans (Only.of_below (by assumption) (Nat.le_of_lt zg3)), HG3.out.below (by assumption) zg3⟩
/-- What reading a field back comes to. -/
def PaPost (w : World) (g : Nat) (y : Ins) (e : Ending) (w' : World) : Prop := e = .returned (.bool true) ∧ Only g w w' ∧ Has w' g 25 (insC y).toArray
set_option maxRecDepth 100000 in
theorem whF_call (h : Wh) : ∀ xs w, (callFunc (whF h) xs).run Tryz.prog w = .ok (.enter (whF h) xs) w := by
  cases h <;> exact fun _ _ => by kernel_rfl
theorem whF_any (h : Wh) (hI : h ≠ .I) (g : Nat) (W : World) : Calls Tryz.prog (whF h) #[.pointer (some ⟨g, 0, none⟩)] W fun e w' => e = .returned (.pointer (some ⟨g, whO h, none⟩)) ∧ W = w' := by
  cases h with
  | A => exact (fieldA_any g 0 W).mono fun e w' h => ⟨by rw [h.1]; rfl, h.2⟩
  | B => exact (fieldB_any g 0 W).mono fun e w' h => ⟨by rw [h.1]; rfl, h.2⟩
  | N => exact (fieldN_any g 0 W).mono fun e w' h => ⟨by rw [h.1]; rfl, h.2⟩
  | I => exact absurd rfl hI
theorem paSmall_any (h : Wh) (hI : h ≠ .I) (s : ByteArray) (hs : s.size ≤ 1) (b0 b1 b2 b3 g : Nat) (lo hi : Int) (F : Foot) (y : Ins) (v : Int) (h0 : 0 ≤ v) (h1 : v ≤ 16384) (w : World) (hT : ∀ W, Only g w W → Tabs W) (hB : Boxes w F h lo hi s b0 b1 b2 b3) (hF : ¬ F g)
    (hg : Has w g 25 (insC y).toArray) :
    Calls Tryz.prog 89 #[ptr g, .string ⟨(s.data.toList ++ Lib.itoa v).toArray⟩, ptr b3, ptr b0] w (PaPost w g (y.put h v)) := by
  have hl : (Lib.itoa v).length ≤ 5 := by rw [itoa_pos h0]; exact dec_len (by omega) (by decide)
  have hts : (⟨(Lib.itoa v).toArray⟩ : ByteArray).size = (Lib.itoa v).length := by show (Lib.itoa v).toArray.size = _; simp
  have hval : ∃ z, (insC y).toArray[whO h]? = some (.int .i64 z) := by
    cases h with
    | A => exact ⟨_, rfl⟩
    | B => exact ⟨_, rfl⟩
    | N => exact ⟨_, rfl⟩
    | I => exact absurd rfl hI
  obtain ⟨z, hz⟩ := hval
  refine (paSmall_w (whF h) (whO h) s _ ⟨(Lib.itoa v).toArray⟩ b0 b3 g (insC y).toArray z v h0 h1 w (whF_call h) (whF_any h hI g) (cut_own s (Lib.itoa v)) (atoi_own h0 h1) (fun W hW => itoa_any v (by omega) (by omega) W (hT W hW)) (by rw [hts]; omega) (by rw [strTxt]; simp) (hB.h0.cell 0) (hB.h3.cell 0) hB.h0.lt hB.h3.lt (fun e => hF (e ▸ hB.f3)) hg hz).mono ?_
  rintro e w' ⟨rfl, hO, hH⟩
  refine ⟨rfl, hO, ?_⟩
  have e2 : (insC y).toArray.setIfInBounds (whO h) (.int .i64 v) = (insC (y.put h v)).toArray := by
    cases h with
    | A => rfl
    | B => rfl
    | N => rfl
    | I => exact absurd rfl hI
  rw [← e2]; exact hH
set_option maxRecDepth 100000 in
set_option maxHeartbeats 1000000 in
theorem paNum_any {q : Nat} (hq : q < 18446744073709551616) (g : Nat) (y : Ins) (w : World) (hT : ∀ W, Only g w W → Tabs W) (hg : Has w g 25 (insC y).toArray) :
    Calls Tryz.prog 99 #[ptr g, .string ⟨([48, 120] ++ hexs q).toArray⟩] w (PaPost w g (y.put .I q)) := by
  have HF := Lib.hid (fun (W : World) (hb : Only g w W) => hexW.fmt16_any q hq W (hT W hb).tz)
  have HC := Lib.hid (fun (W : World) => cut_own ⟨#[48, 120]⟩ (hexs q) W)
  have HP := Lib.hid (fun (W : World) => pu_own hq W)
  have heq : ((⟨(hexs q).toArray⟩ : ByteArray).toList == (⟨(hexs q).toArray⟩ : ByteArray).toList) = true := by simp
  have HG := Lib.hid hg
  have zg := hg.lt
  obtain ⟨T, hT2⟩ : ∃ T : ByteArray, T = ⟨(hexs q).toArray⟩ := ⟨_, rfl⟩
  rw [← hT2] at HF HC HP heq
  obtain ⟨S, hS2⟩ : ∃ S : ByteArray, S = ⟨([48, 120] ++ hexs q).toArray⟩ := ⟨_, rfl⟩
  rw [show (⟨((⟨#[48, 120]⟩ : ByteArray).data.toList ++ hexs q).toArray⟩ : ByteArray) = S from hS2.symm] at HC
  rw [← hS2]
  obtain ⟨op, a, b, n, imm⟩ := y
  unfold insC at HG
  clear hT hg hT2 hS2 hq
  go_enter Tryz.func99, Tryz.ntmps99
  go_wp2_with (first
    | (go_at_call 90; refine (HC.out _).mono ?_; rintro e w1 ⟨rfl, rfl⟩)
    | (go_at_call 100; refine (HP.out _).mono ?_; rintro e w2 ⟨rfl, hb⟩; have hg2 := HG.out.below hb zg; have zg2 : g < w2.heap.size := hg2.lt; have co2 : w2.cell? ⟨g, 4, none⟩ = some (.int .u64 imm) := hg2.cell 4; have fo2 : w2.frozen? ⟨g, 4, none⟩ = false := hg2.frozen 4; have HG2 := Lib.hid hg2; have HB2 := Lib.hid hb; clear hb hg2)
    | (go_at_call 98; refine (HF.out _ (by exact (Only.of_below HB2.out (Nat.le_of_lt zg)).set 4 _)).mono ?_; rintro e w5 ⟨rfl, hb⟩; have HB5 := Lib.hid hb; clear hb))
  go_ret
  have hO3 := (Only.of_below HB2.out (Nat.le_of_lt zg)).set 4 (.int .u64 (q : Nat))
  have hG3 := HG2.out.set 4 (.int .u64 (q : Nat))
  exact ⟨rfl, hO3.trans (Only.of_below HB5.out (Nat.le_of_lt hG3.lt)), hG3.below HB5.out hG3.lt⟩
set_option maxRecDepth 100000 in
set_option maxHeartbeats 1000000 in
theorem paSign_any (g : Nat) (y : Ins) (im : Int) (w : World) (hi : im = 0 ∨ im = 1) (hy : y.imm = 0) (hg : Has w g 25 (insC y).toArray) :
    Calls Tryz.prog 127 #[ptr g, .string ⟨(if im = 1 then signedT else unsignedT).toArray⟩] w (PaPost w g (y.put .I im)) := by
  have HG := Lib.hid hg
  have zg := hg.lt
  have co2 : w.cell? ⟨g, 4, none⟩ = some (.int .u64 y.imm) := hg.cell 4
  have fo2 : w.frozen? ⟨g, 4, none⟩ = false := hg.frozen 4
  clear hg
  obtain ⟨op, a, b, n, imm⟩ := y
  obtain rfl : imm = 0 := hy
  have hO0 := Lib.hid (Only.refl (Nat.le_of_lt zg) : Only g w w)
  rcases hi with rfl | rfl
  · show Calls Tryz.prog 127 #[ptr g, .string ⟨#[117, 110, 115, 105, 103, 110, 101, 100]⟩] w _
    go_enter Tryz.func127, Tryz.ntmps127
    go_wp2
    go_ret
    exact ⟨rfl, hO0.out, HG.out⟩
  · show Calls Tryz.prog 127 #[ptr g, .string ⟨#[115, 105, 103, 110, 101, 100]⟩] w _
    go_enter Tryz.func127, Tryz.ntmps127
    go_wp2
    go_ret
    exact ⟨rfl, hO0.out.set 4 _, HG.out.set 4 _⟩
theorem cPa_clos (f : Fk) (b3 b0 : Nat) : ∃ fn cap, cPa f b3 b0 = clos fn cap := by cases f <;> exact ⟨_, _, rfl⟩
theorem pa_does {f : Fk} {cs : List Value} {F : Foot} {x y : Ins} {w : World} {g : Nat} (hE : FieldE w F cs f) (hf : f.ok) (ho : okF f x = true) (hx : x.Ok) (hF : ¬ F g) (hT : ∀ W, Only g w W → Tabs W) (hy : f = .sign → y.imm = 0) (hg : Has w g 25 (insC y).toArray) :
    ∃ c0 c1 c2 c3 c4, cs = [c0, c1, c2, c3, c4] ∧ Does Tryz.prog c4 #[ptr g, .string ⟨(txtF f x).toArray⟩] w (PaPost w g (y.put f.wh (x.at_ f.wh))) := by
  obtain ⟨b0, b1, b2, b3, rfl, hB⟩ := hE
  refine ⟨_, _, _, _, _, rfl, ?_⟩
  cases f with
  | small h lo hi s =>
    simp only [okF, Bool.and_eq_true, decide_eq_true_eq] at ho
    obtain ⟨hI, hlo, hhi, hs⟩ := hf
    exact callFunc_of _ (fun _ _ => by kernel_rfl) _ _ _ _ (paSmall_any h hI s hs b0 b1 b2 b3 g lo hi F y (x.at_ h) (by omega) (by omega) w hT (hB _ _ _ _ rfl) hF hg)
  | skip =>
    simp only [okF, Bool.and_eq_true, decide_eq_true_eq] at ho
    exact callFunc_of _ (fun _ _ => by kernel_rfl) _ _ _ _ (paSmall_any .N (by decide) eS (by decide) b0 b1 b2 b3 g 0 16384 F y x.n ho.1 ho.2 w hT (hB _ _ _ _ rfl) hF hg)
  | bytes =>
    simp only [okF, Bool.and_eq_true, decide_eq_true_eq] at ho
    exact callFunc_of _ (fun _ _ => by kernel_rfl) _ _ _ _ (paSmall_any .N (by decide) eS (by decide) b0 b1 b2 b3 g 1 8 F y x.n (by omega) (by omega) w hT (hB _ _ _ _ rfl) hF hg)
  | number =>
    have h1 := hx.imm
    obtain ⟨q, hq⟩ : ∃ q : Nat, x.imm = (q : Int) := ⟨x.imm.toNat, by omega⟩
    have h2 := paNum_any (q := q) (by omega) g y w hT hg
    have e1 : txtF .number x = [48, 120] ++ hexs q := by simp only [txtF]; rw [hq]; rfl
    have e2 : y.put (Fk.number).wh (x.at_ (Fk.number).wh) = y.put .I (q : Int) := by show y.put .I x.imm = _; rw [hq]
    rw [e1, e2]
    exact callFunc_of _ (fun _ _ => by kernel_rfl) _ _ _ _ h2
  | sign =>
    have h1 := hx.imm
    simp only [okF, decide_eq_true_eq] at ho
    exact callFunc_of _ (fun _ _ => by kernel_rfl) _ _ _ _ (paSign_any g y x.imm w (by omega) (hy rfl) hg)
theorem pa_do {f : Fk} {c0 c1 c2 c3 c4 : Value} {F : Foot} {x y : Ins} {w : World} {g : Nat} (hE : FieldE w F [c0, c1, c2, c3, c4] f) (hf : f.ok) (ho : okF f x = true) (hx : x.Ok) (hF : ¬ F g) (hT : ∀ W, Only g w W → Tabs W) (hy : f = .sign → y.imm = 0) (hg : Has w g 25 (insC y).toArray) :
    Do c4 #[ptr g, .string ⟨(txtF f x).toArray⟩] w (PaPost w g (y.put f.wh (x.at_ f.wh))) := by
  obtain ⟨d0, d1, d2, d3, d4, hcs, hD⟩ := pa_does hE hf ho hx hF hT hy hg
  cases hcs
  obtain ⟨b0, b1, b2, b3, hc, _⟩ := hE
  obtain ⟨fn, cap, h⟩ := cPa_clos f b3 b0
  have hc4 : c4 = cPa f b3 b0 := by injection hc with _ hc; injection hc with _ hc; injection hc with _ hc; injection hc with _ hc; injection hc
  exact do_of (hc4.trans h) hD
end codeW
end Go.Proofs.YtbbfpbmogklomaaGreatDoor
