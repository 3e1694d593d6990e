/- Texts of this claim, one behind the other. No condition but those that each states. -/
import Derived.Test.YtbbfpbmogklomaaGreatDoorZKc
import Derived.Test.YtbbfpbmogklomaaGreatDoorZKl
import Derived.Test.YtbbfpbmogklomaaGreatDoorZFmt16
import Derived.Test.YtbbfpbmogklomaaGreatDoorShelf
import Derived.Lib.LaidTab
import Derived.Deep.RegionWith
import Derived.RegionTactic

namespace Go.Proofs.YtbbfpbmogklomaaGreatDoor
open Go.RowKit Go.Bus Go.Bus.cellK Go.Bus.codeK Go.Bus.hexK
set_option linter.unusedVariables false
set_option linter.unusedSimpArgs false
namespace codeW
theorem strAppT (s t : List UInt8) : (⟨s.toArray⟩ : ByteArray) ++ ⟨t.toArray⟩ = ⟨(s ++ t).toArray⟩ := by
  apply ByteArray.ext
  simp
theorem strDataT (s : ByteArray) : s = ⟨s.data.toList.toArray⟩ := by
  apply ByteArray.ext
  simp
/-- The tables of the library that printing reads. -/
structure Tabs (w : World) : Prop where
  pow : Lib.TabIs Tryz.prog w "internal/strconv.uint64pow10" .u64 Lib.pow10Tab
  tz : hexW.Tz w
theorem gPow : Tryz.prog.globalNamed "internal/strconv.uint64pow10" = some 5 := by kernel_rfl
theorem var_below {B : Nat} {w w' : World} {n : String} {cs : Array Value} (h : w.var? Tryz.prog n = some cs) (hb : Below B w w') (hB : ∀ g, Tryz.prog.globalNamed n = some g → g < B) : w'.var? Tryz.prog n = some cs := by
  unfold World.var? at *
  cases hg : Tryz.prog.globalNamed n with
  | none => simp [hg] at h
  | some g =>
    simp only [hg, Option.bind_some] at h ⊢
    rw [hb.block g (hB g hg)]
    exact h
theorem Tabs.at_below {w w' : World} (h : Tabs w) (hb : Below w.heap.size w w') : Tabs w' :=
  ⟨var_below h.pow hb (fun g hg => by rw [gPow] at hg; obtain rfl := Option.some.inj hg; exact World.block_lt_of_cell? w ⟨5, 0, none⟩ (h.pow.cell gPow 0 (by rw [Lib.pow10Tab_length]; omega))), h.tz.at_below hb⟩
theorem grow_belowC (w : World) (k : Nat) (os : Array Obj) : Below w.heap.size w (Go.Sort.grow (w.drewN k) os) :=
  ⟨rfl, rfl, rfl, by show w.heap.size ≤ (w.heap ++ os).size; simp, fun b hb => by show (w.heap ++ os)[b]? = w.heap[b]?; exact Array.getElem?_append_left hb⟩
theorem itoa_any (n : Int) (h0 : -9223372036854775808 ≤ n) (h1 : n ≤ 9223372036854775807) (w : World) (h : Tabs w) : Calls Tryz.prog 88 #[.int .i64 n] w fun e w' => e = .returned (.string ⟨(Lib.itoa n).toArray⟩) ∧ Below w.heap.size w w' := by
  refine (Tryz.strconv_Itoa n h0 h1 w h.pow).mono ?_
  rintro e w' ⟨rfl, k, os, rfl⟩
  exact ⟨rfl, grow_belowC w k os⟩
def Txt (x : Ins) (f : Fk) (w : World) (e : Ending) (w' : World) : Prop := e = .returned (.string ⟨(txtF f x).toArray⟩) ∧ Below w.heap.size w w'
set_option maxRecDepth 100000 in
set_option maxHeartbeats 1000000 in
theorem txA_any (lo hi : Int) (s : ByteArray) (b3 b0 : Nat) (x : Ins) (hx : x.Ok) (w : World) (hT : Tabs w) (c0 : w.cell? ⟨b0, 0, none⟩ = some (.func (.func 47) #[] #[])) (c3 : w.cell? ⟨b3, 0, none⟩ = some (.string s)) (z0 : b0 < w.heap.size) (z3 : b3 < w.heap.size) (hs1 : s.size ≤ 1) :
    Calls Tryz.prog 87 #[.agg (insC x).toArray, ptr b3, ptr b0] w fun e w' => e = .returned (.string (s ++ ⟨(Lib.itoa x.a).toArray⟩)) ∧ Below w.heap.size w w' := by
  have HX := Lib.hid hx.a
  have hln : (Lib.itoa x.a).length ≤ 20 := itoa_len hx.a.1 hx.a.2
  obtain ⟨op, a, b, n, imm⟩ := x
  have HT := Lib.hid hT
  have hnot : ¬ 9223372036854775807 < s.size + (Lib.itoa a).length := by simp only at hln; omega
  clear hT hx
  unfold insC
  go_enter Tryz.func87, Tryz.ntmps87
  go_wp2_with fail
  go_region_law (first
    | (go_simp; go_at_call 47; refine (fieldA_any _ _ _).mono ?_; rintro e w1 ⟨rfl, rfl⟩)
    | (go_simp; go_at_call 88; refine (itoa_any a HX.out.1 HX.out.2 _ (HT.out.at_below (by exact (by repeat' (first | (with_reducible assumption) | (with_reducible refine Below.setCell ?_ ?_ _) | (with_reducible refine Below.alloc ?_ ?_ _) | (with_reducible refine Below.drew ?_) | (with_reducible refine below_drewN ?_ _) | (with_reducible exact Below.refl _ _) | (show _ ≤ _; (try simp); (try omega); done) | exact Below.refl _ _ | assumption))))).mono ?_; rintro e w1 ⟨rfl, hb⟩; have hB : Below w.heap.size w w1 := Below.trans (by repeat' (first | (with_reducible assumption) | (with_reducible refine Below.setCell ?_ ?_ _) | (with_reducible refine Below.alloc ?_ ?_ _) | (with_reducible refine Below.drew ?_) | (with_reducible refine below_drewN ?_ _) | (with_reducible exact Below.refl _ _) | (show _ ≤ _; (try simp); (try omega); done) | exact Below.refl _ _ | assumption)) (hb.mono (by (try simp); (try omega))); have k3 : w1.cell? ⟨b3, 0, none⟩ = some (.string s) := (hB.cell (p := ⟨b3, 0, none⟩) z3).trans c3; have zb : b3 < w1.heap.size := Nat.lt_of_lt_of_le z3 hB.size; have HB := Lib.hid hB; clear hb hB))
  all_goals
    go_wp2
    go_ret
    exact ⟨rfl, by have := HB.out; exact (by repeat' (first | (with_reducible assumption) | (with_reducible refine Below.setCell ?_ ?_ _) | (with_reducible refine Below.alloc ?_ ?_ _) | (with_reducible refine Below.drew ?_) | (with_reducible refine below_drewN ?_ _) | (with_reducible exact Below.refl _ _) | (show _ ≤ _; (try simp); (try omega); done) | exact Below.refl _ _ | assumption))⟩
set_option maxRecDepth 100000 in
set_option maxHeartbeats 1000000 in
theorem txB_any (lo hi : Int) (s : ByteArray) (b3 b0 : Nat) (x : Ins) (hx : x.Ok) (w : World) (hT : Tabs w) (c0 : w.cell? ⟨b0, 0, none⟩ = some (.func (.func 48) #[] #[])) (c3 : w.cell? ⟨b3, 0, none⟩ = some (.string s)) (z0 : b0 < w.heap.size) (z3 : b3 < w.heap.size) (hs1 : s.size ≤ 1) :
    Calls Tryz.prog 87 #[.agg (insC x).toArray, ptr b3, ptr b0] w fun e w' => e = .returned (.string (s ++ ⟨(Lib.itoa x.b).toArray⟩)) ∧ Below w.heap.size w w' := by
  have HX := Lib.hid hx.b
  have hln : (Lib.itoa x.b).length ≤ 20 := itoa_len hx.b.1 hx.b.2
  obtain ⟨op, a, b, n, imm⟩ := x
  have HT := Lib.hid hT
  have hnot : ¬ 9223372036854775807 < s.size + (Lib.itoa b).length := by simp only at hln; omega
  clear hT hx
  unfold insC
  go_enter Tryz.func87, Tryz.ntmps87
  go_wp2_with fail
  go_region_law (first
    | (go_simp; go_at_call 48; refine (fieldB_any _ _ _).mono ?_; rintro e w1 ⟨rfl, rfl⟩)
    | (go_simp; go_at_call 88; refine (itoa_any b HX.out.1 HX.out.2 _ (HT.out.at_below (by exact (by repeat' (first | (with_reducible assumption) | (with_reducible refine Below.setCell ?_ ?_ _) | (with_reducible refine Below.alloc ?_ ?_ _) | (with_reducible refine Below.drew ?_) | (with_reducible refine below_drewN ?_ _) | (with_reducible exact Below.refl _ _) | (show _ ≤ _; (try simp); (try omega); done) | exact Below.refl _ _ | assumption))))).mono ?_; rintro e w1 ⟨rfl, hb⟩; have hB : Below w.heap.size w w1 := Below.trans (by repeat' (first | (with_reducible assumption) | (with_reducible refine Below.setCell ?_ ?_ _) | (with_reducible refine Below.alloc ?_ ?_ _) | (with_reducible refine Below.drew ?_) | (with_reducible refine below_drewN ?_ _) | (with_reducible exact Below.refl _ _) | (show _ ≤ _; (try simp); (try omega); done) | exact Below.refl _ _ | assumption)) (hb.mono (by (try simp); (try omega))); have k3 : w1.cell? ⟨b3, 0, none⟩ = some (.string s) := (hB.cell (p := ⟨b3, 0, none⟩) z3).trans c3; have zb : b3 < w1.heap.size := Nat.lt_of_lt_of_le z3 hB.size; have HB := Lib.hid hB; clear hb hB))
  all_goals
    go_wp2
    go_ret
    exact ⟨rfl, by have := HB.out; exact (by repeat' (first | (with_reducible assumption) | (with_reducible refine Below.setCell ?_ ?_ _) | (with_reducible refine Below.alloc ?_ ?_ _) | (with_reducible refine Below.drew ?_) | (with_reducible refine below_drewN ?_ _) | (with_reducible exact Below.refl _ _) | (show _ ≤ _; (try simp); (try omega); done) | exact Below.refl _ _ | assumption))⟩
set_option maxRecDepth 100000 in
set_option maxHeartbeats 1000000 in
theorem txN_any (lo hi : Int) (s : ByteArray) (b3 b0 : Nat) (x : Ins) (hx : x.Ok) (w : World) (hT : Tabs w) (c0 : w.cell? ⟨b0, 0, none⟩ = some (.func (.func 101) #[] #[])) (c3 : w.cell? ⟨b3, 0, none⟩ = some (.string s)) (z0 : b0 < w.heap.size) (z3 : b3 < w.heap.size) (hs1 : s.size ≤ 1) :
    Calls Tryz.prog 87 #[.agg (insC x).toArray, ptr b3, ptr b0] w fun e w' => e = .returned (.string (s ++ ⟨(Lib.itoa x.n).toArray⟩)) ∧ Below w.heap.size w w' := by
  have HX := Lib.hid hx.n
  have hln : (Lib.itoa x.n).length ≤ 20 := itoa_len hx.n.1 hx.n.2
  obtain ⟨op, a, b, n, imm⟩ := x
  have HT := Lib.hid hT
  have hnot : ¬ 9223372036854775807 < s.size + (Lib.itoa n).length := by simp only at hln; omega
  clear hT hx
  unfold insC
  go_enter Tryz.func87, Tryz.ntmps87
  go_wp2_with fail
  go_region_law (first
    | (go_simp; go_at_call 101; refine (fieldN_any _ _ _).mono ?_; rintro e w1 ⟨rfl, rfl⟩)
    | (go_simp; go_at_call 88; refine (itoa_any n HX.out.1 HX.out.2 _ (HT.out.at_below (by exact (by repeat' (first | (with_reducible assumption) | (with_reducible refine Below.setCell ?_ ?_ _) | (with_reducible refine Below.alloc ?_ ?_ _) | (with_reducible refine Below.drew ?_) | (with_reducible refine below_drewN ?_ _) | (with_reducible exact Below.refl _ _) | (show _ ≤ _; (try simp); (try omega); done) | exact Below.refl _ _ | assumption))))).mono ?_; rintro e w1 ⟨rfl, hb⟩; have hB : Below w.heap.size w w1 := Below.trans (by repeat' (first | (with_reducible assumption) | (with_reducible refine Below.setCell ?_ ?_ _) | (with_reducible refine Below.alloc ?_ ?_ _) | (with_reducible refine Below.drew ?_) | (with_reducible refine below_drewN ?_ _) | (with_reducible exact Below.refl _ _) | (show _ ≤ _; (try simp); (try omega); done) | exact Below.refl _ _ | assumption)) (hb.mono (by (try simp); (try omega))); have k3 : w1.cell? ⟨b3, 0, none⟩ = some (.string s) := (hB.cell (p := ⟨b3, 0, none⟩) z3).trans c3; have zb : b3 < w1.heap.size := Nat.lt_of_lt_of_le z3 hB.size; have HB := Lib.hid hB; clear hb hB))
  all_goals
    go_wp2
    go_ret
    exact ⟨rfl, by have := HB.out; exact (by repeat' (first | (with_reducible assumption) | (with_reducible refine Below.setCell ?_ ?_ _) | (with_reducible refine Below.alloc ?_ ?_ _) | (with_reducible refine Below.drew ?_) | (with_reducible refine below_drewN ?_ _) | (with_reducible exact Below.refl _ _) | (show _ ≤ _; (try simp); (try omega); done) | exact Below.refl _ _ | assumption))⟩
set_option maxRecDepth 100000 in
set_option maxHeartbeats 1000000 in
theorem txNum_any (x : Ins) (hx : x.Ok) (w : World) (hT : Tabs w) :
    Calls Tryz.prog 97 #[.agg (insC x).toArray] w (Txt x .number w) := by
  obtain ⟨q, hq⟩ : ∃ q : Nat, q = x.imm.toNat := ⟨_, rfl⟩
  have him := hx.imm
  have HF := Lib.hid (fun (W : World) (hb : Below w.heap.size w W) => hexW.fmt16_any q (by omega) W (hT.at_below hb).tz)
  have HE : Hid ((⟨#[48, 120]⟩ : ByteArray) ++ ⟨(hexs q).toArray⟩ = ⟨(txtF .number x).toArray⟩) := Lib.hid (by
    have := strAppT [48, 120] (hexs q)
    rw [show (⟨#[48, 120]⟩ : ByteArray) = ⟨[48, 120].toArray⟩ from rfl, this, hq]; rfl)
  have HQ := Lib.hid (show x.imm = (q : Int) by omega)
  have hln : (hexs q).length ≤ 16 := hexs_len (k := 16) (by rw [show (16 : Nat) ^ 16 = 18446744073709551616 from by decide]; omega) (by decide)
  unfold Txt
  obtain ⟨T, hT2⟩ : ∃ T : ByteArray, T = ⟨(txtF .number x).toArray⟩ := ⟨_, rfl⟩
  rw [← hT2] at HE ⊢
  obtain ⟨op, a, b, n, imm⟩ := x
  simp only at HQ
  obtain rfl : imm = (q : Int) := HQ.out
  clear hT hx hq him hT2 HQ
  unfold insC
  go_enter Tryz.func97, Tryz.ntmps97
  go_wp2_with (go_at_call 98; refine (HF.out _ (by exact (by repeat' (first | (with_reducible assumption) | (with_reducible refine Below.setCell ?_ ?_ _) | (with_reducible refine Below.alloc ?_ ?_ _) | (with_reducible refine Below.drew ?_) | (with_reducible refine below_drewN ?_ _) | (with_reducible exact Below.refl _ _) | (show _ ≤ _; (try simp); (try omega); done) | exact Below.refl _ _ | assumption)))).mono ?_; rintro e w1 ⟨rfl, hb⟩; have hB : Below w.heap.size w w1 := Below.trans (by repeat' (first | (with_reducible assumption) | (with_reducible refine Below.setCell ?_ ?_ _) | (with_reducible refine Below.alloc ?_ ?_ _) | (with_reducible refine Below.drew ?_) | (with_reducible refine below_drewN ?_ _) | (with_reducible exact Below.refl _ _) | (show _ ≤ _; (try simp); (try omega); done) | exact Below.refl _ _ | assumption)) (hb.mono (by (try simp); (try omega))); have HB := Lib.hid hB; clear hb hB)
  go_ret
  exact ⟨by rw [← HE.out]; rfl, HB.out⟩
end codeW
end Go.Proofs.YtbbfpbmogklomaaGreatDoor

namespace Go.Proofs.YtbbfpbmogklomaaGreatDoor
open Go.RowKit Go.Bus Go.Bus.cellK Go.Bus.codeK Go.Bus.hexK
set_option linter.unusedVariables false
set_option linter.unusedSimpArgs false
namespace codeW
set_option maxRecDepth 100000 in
set_option maxHeartbeats 1000000 in
theorem txSign_any (x : Ins) (w : World) :
    Calls Tryz.prog 126 #[.agg (insC x).toArray] w (Txt x .sign w) := by
  obtain ⟨op, a, b, n, imm⟩ := x
  by_cases h1 : imm = 1
  · have HE : Hid (txtF .sign ⟨op, a, b, n, imm⟩ = signedT) := Lib.hid (by simp [txtF, h1])
    have e1 : (imm == 1) = true := by simpa using h1
    clear h1
    unfold insC Txt
    rw [HE.out]
    go_enter Tryz.func126, Tryz.ntmps126
    go_wp2
    go_ret
    exact ⟨rfl, (by repeat' (first | (with_reducible assumption) | (with_reducible refine Below.setCell ?_ ?_ _) | (with_reducible refine Below.alloc ?_ ?_ _) | (with_reducible refine Below.drew ?_) | (with_reducible refine below_drewN ?_ _) | (with_reducible exact Below.refl _ _) | (show _ ≤ _; (try simp); (try omega); done) | exact Below.refl _ _ | assumption))⟩
  · have HE : Hid (txtF .sign ⟨op, a, b, n, imm⟩ = unsignedT) := Lib.hid (by simp [txtF, h1])
    have e1 : (imm == 1) = false := by simpa using h1
    clear h1
    unfold insC Txt
    rw [HE.out]
    go_enter Tryz.func126, Tryz.ntmps126
    go_wp2
    go_ret
    exact ⟨rfl, (by repeat' (first | (with_reducible assumption) | (with_reducible refine Below.setCell ?_ ?_ _) | (with_reducible refine Below.alloc ?_ ?_ _) | (with_reducible refine Below.drew ?_) | (with_reducible refine below_drewN ?_ _) | (with_reducible exact Below.refl _ _) | (show _ ≤ _; (try simp); (try omega); done) | exact Below.refl _ _ | assumption))⟩
theorem strTxt (s : ByteArray) (l : List UInt8) : s ++ (⟨l.toArray⟩ : ByteArray) = ⟨(s.data.toList ++ l).toArray⟩ := by
  rw [show s = ⟨s.data.toList.toArray⟩ from strDataT s, strAppT]
theorem txSmall_any (h : Wh) (hI : h ≠ .I) (lo hi : Int) (s : ByteArray) (hs : s.size ≤ 1) (b0 b1 b2 b3 : Nat) (F : Foot) (x : Ins) (hx : x.Ok) (w : World) (hT : Tabs w) (hB : Boxes w F h lo hi s b0 b1 b2 b3) :
    Calls Tryz.prog 87 #[.agg (insC x).toArray, ptr b3, ptr b0] w fun e w' => e = .returned (.string ⟨(s.data.toList ++ Lib.itoa (x.at_ h)).toArray⟩) ∧ Below w.heap.size w w' := by
  have c0 := hB.h0.cell 0
  have c3 := hB.h3.cell 0
  rw [← strTxt]
  cases h with
  | A => exact txA_any lo hi s b3 b0 x hx w hT c0 c3 hB.h0.lt hB.h3.lt hs
  | B => exact txB_any lo hi s b3 b0 x hx w hT c0 c3 hB.h0.lt hB.h3.lt hs
  | N => exact txN_any lo hi s b3 b0 x hx w hT c0 c3 hB.h0.lt hB.h3.lt hs
  | I => exact absurd rfl hI
theorem txSmallE_any (lo hi : Int) (b0 b1 b2 b3 : Nat) (F : Foot) (x : Ins) (hx : x.Ok) (w : World) (hT : Tabs w) (hB : Boxes w F .N lo hi eS b0 b1 b2 b3) :
    Calls Tryz.prog 87 #[.agg (insC x).toArray, ptr b3, ptr b0] w fun e w' => e = .returned (.string ⟨(Lib.itoa x.n).toArray⟩) ∧ Below w.heap.size w w' :=
  txSmall_any .N (by decide) lo hi eS (by decide) b0 b1 b2 b3 F x hx w hT hB
theorem tx_does (f : Fk) (hf : f.ok) (cs : List Value) (F : Foot) (x : Ins) (hx : x.Ok) (w : World) (hT : Tabs w) (hE : FieldE w F cs f) :
    ∃ c0 c1 c2 c3 c4, cs = [c0, c1, c2, c3, c4] ∧ Does Tryz.prog c3 #[.agg (insC x).toArray] w (Txt x f w) := by
  obtain ⟨b0, b1, b2, b3, rfl, hB⟩ := hE
  refine ⟨_, _, _, _, _, rfl, ?_⟩
  cases f with
  | small h lo hi s => exact callFunc_of _ (fun _ _ => by kernel_rfl) _ _ _ _ (txSmall_any h hf.1 lo hi s hf.2.2.2 b0 b1 b2 b3 F x hx w hT (hB _ _ _ _ rfl))
  | skip => exact callFunc_of _ (fun _ _ => by kernel_rfl) _ _ _ _ (txSmallE_any 0 16384 b0 b1 b2 b3 F x hx w hT (hB _ _ _ _ rfl))
  | bytes => exact callFunc_of _ (fun _ _ => by kernel_rfl) _ _ _ _ (txSmallE_any 1 8 b0 b1 b2 b3 F x hx w hT (hB _ _ _ _ rfl))
  | number => exact callFunc_of _ (fun _ _ => by kernel_rfl) _ _ _ _ (txNum_any x hx w hT)
  | sign => exact callFunc_of _ (fun _ _ => by kernel_rfl) _ _ _ _ (txSign_any x w)
theorem cTx_clos (f : Fk) (b3 b0 : Nat) : ∃ fn cap, cTx f b3 b0 = clos fn cap := by cases f <;> exact ⟨_, _, rfl⟩
theorem tx_do {f : Fk} {c0 c1 c2 c3 c4 : Value} {F : Foot} {x : Ins} {w : World} (hE : FieldE w F [c0, c1, c2, c3, c4] f) (hf : f.ok) (hx : x.Ok) (hT : Tabs w) : Do c3 #[.agg (insC x).toArray] w (Txt x f w) := by
  obtain ⟨d0, d1, d2, d3, d4, hcs, hD⟩ := tx_does f hf _ F x hx w hT hE
  cases hcs
  obtain ⟨b0, b1, b2, b3, hc, _⟩ := hE
  obtain ⟨fn, cap, h⟩ := cTx_clos f b3 b0
  have hc3 : c3 = cTx f b3 b0 := by injection hc with _ hc; injection hc with _ hc; injection hc with _ hc; injection hc
  exact do_of (hc3.trans h) hD
theorem tx_shape {f : Fk} {c0 c1 c2 c3 c4 : Value} {F : Foot} {w : World} (hE : FieldE w F [c0, c1, c2, c3, c4] f) : ∃ fn0 cap0 fn1 cap1 fn2 cap2 fn3 cap3 fn4 cap4, c0 = .func (.func fn0) #[] cap0 ∧ c1 = .func (.func fn1) #[] cap1 ∧ c2 = .func (.func fn2) #[] cap2 ∧ c3 = .func (.func fn3) #[] cap3 ∧ c4 = .func (.func fn4) #[] cap4 ∧
    (∀ xs w, (callFunc fn3 xs).run Tryz.prog w = .ok (.enter fn3 xs) w) ∧ (∀ xs w, (callFunc fn4 xs).run Tryz.prog w = .ok (.enter fn4 xs) w) := by
  obtain ⟨b0, b1, b2, b3, hc, _⟩ := hE
  injection hc with h0 hc
  injection hc with h1 hc
  injection hc with h2 hc
  injection hc with h3 hc
  injection hc with h4 hc
  subst h0 h1 h2 h3 h4
  cases f <;> exact ⟨_, _, _, _, _, _, _, _, _, _, rfl, rfl, rfl, rfl, rfl, fun _ _ => by kernel_rfl, fun _ _ => by kernel_rfl⟩
theorem txt_len {f : Fk} {x : Ins} (hf : f.ok) (hx : x.Ok) : (txtF f x).length ≤ 30 := by
  cases f with
  | small h lo hi s =>
    have hs : s.size ≤ 1 := hf.2.2.2
    have hd : s.data.toList.length ≤ 1 := by rw [Array.length_toList]; exact hs
    have hv : (Lib.itoa (x.at_ h)).length ≤ 20 := by
      cases h with
      | A => exact itoa_len hx.a.1 hx.a.2
      | B => exact itoa_len hx.b.1 hx.b.2
      | N => exact itoa_len hx.n.1 hx.n.2
      | I => exact absurd rfl hf.1
    simp only [txtF, List.length_append]; omega
  | skip => have := itoa_len hx.n.1 hx.n.2; simp only [txtF]; omega
  | bytes => have := itoa_len hx.n.1 hx.n.2; simp only [txtF]; omega
  | number =>
    have := hexs_len (n := x.imm.toNat) (k := 16) (by have := hx.imm; rw [show (16 : Nat) ^ 16 = 18446744073709551616 from by decide]; omega) (by decide)
    simp only [txtF, List.length_append]; simp; omega
  | sign => simp only [txtF]; split <;> decide
end codeW
end Go.Proofs.YtbbfpbmogklomaaGreatDoor
