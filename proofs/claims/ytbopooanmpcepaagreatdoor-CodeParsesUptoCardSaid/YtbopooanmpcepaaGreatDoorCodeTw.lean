/- The fourth closure of any field: its text. Condition: the library's two tables are laid. -/
import Derived.Test.YtbopooanmpcepaaGreatDoorCodeTx
import Derived.Test.YtbopooanmpcepaaGreatDoorCodeDo
import Derived.Test.YtbopooanmpcepaaGreatDoorFmt16
import Derived.Test.YtbopooanmpcepaaGreatDoorShelf
import Derived.Lib.LaidTab
import Derived.Deep.RegionWith
import Derived.RegionTactic
namespace Go.Proofs.YtbopooanmpcepaaGreatDoor
open Go.RowKit Go.Bus Go.Bus.cellK Go.Bus.codeK Go.Bus.hexK
set_option linter.unusedVariables false
set_option linter.unusedSimpArgs false
namespace codeW
theorem strApp (s t : List UInt8) : (⟨s.toArray⟩ : ByteArray) ++ ⟨t.toArray⟩ = ⟨(s ++ t).toArray⟩ := by
  apply ByteArray.ext
  simp
theorem strData (s : ByteArray) : s = ⟨s.data.toList.toArray⟩ := by
  apply ByteArray.ext
  simp
/-- The tables of the library that printing reads. -/
structure Tabs (w : World) : Prop where
  pow : Lib.TabIs Tryz.prog w "internal/strconv.uint64pow10" .u64 Lib.pow10Tab
  tz : hexW.Tz w
theorem gPow : Tryz.prog.globalNamed "internal/strconv.uint64pow10" = some 6 := by kernel_rfl
theorem var_below {B : Nat} {w w' : World} {n : String} {cs : Array Value} (h : w.var? Tryz.prog n = some cs) (hb : Below B w w') (hB : ∀ g, Tryz.prog.globalNamed n = some g → g < B) : w'.var? Tryz.prog n = some cs := by
  unfold World.var? at *
  cases hg : Tryz.prog.globalNamed n with
  | none => simp [hg] at h
  | some g =>
    simp only [hg, Option.bind_some] at h ⊢
    rw [hb.block g (hB g hg)]
    exact h
theorem Tabs.at_below {w w' : World} (h : Tabs w) (hb : Below w.heap.size w w') : Tabs w' :=
  ⟨var_below h.pow hb (fun g hg => by rw [gPow] at hg; obtain rfl := Option.some.inj hg; exact World.block_lt_of_cell? w ⟨6, 0, none⟩ (h.pow.cell gPow 0 (by rw [Lib.pow10Tab_length]; omega))), h.tz.at_below hb⟩
theorem grow_belowC (w : World) (k : Nat) (os : Array Obj) : Below w.heap.size w (Go.Sort.grow (w.drewN k) os) :=
  ⟨rfl, rfl, rfl, by show w.heap.size ≤ (w.heap ++ os).size; simp, fun b hb => by show (w.heap ++ os)[b]? = w.heap[b]?; exact Array.getElem?_append_left hb⟩
theorem itoa_any (n : Int) (h0 : -9223372036854775808 ≤ n) (h1 : n ≤ 9223372036854775807) (w : World) (h : Tabs w) : Calls Tryz.prog 61 #[.int .i64 n] w fun e w' => e = .returned (.string ⟨(Lib.itoa n).toArray⟩) ∧ Below w.heap.size w w' := by
  refine (Tryz.strconv_Itoa n h0 h1 w h.pow).mono ?_
  rintro e w' ⟨rfl, k, os, rfl⟩
  exact ⟨rfl, grow_belowC w k os⟩
def Txt (x : Ins) (f : Fk) (w : World) (e : Ending) (w' : World) : Prop := e = .returned (.string ⟨(txtF f x).toArray⟩) ∧ Below w.heap.size w w'
set_option maxRecDepth 100000 in
set_option maxHeartbeats 1000000 in
theorem txA_any (lo hi : Int) (s : ByteArray) (b3 b0 : Nat) (x : Ins) (hx : x.Ok) (w : World) (hT : Tabs w) (c0 : w.cell? ⟨b0, 0, none⟩ = some (.func (.func 30) #[] #[])) (c3 : w.cell? ⟨b3, 0, none⟩ = some (.string s)) (z0 : b0 < w.heap.size) (z3 : b3 < w.heap.size) (hs1 : s.size ≤ 1) :
    Calls Tryz.prog 60 #[.agg (insC x).toArray, ptr b3, ptr b0] w fun e w' => e = .returned (.string (s ++ ⟨(Lib.itoa x.a).toArray⟩)) ∧ Below w.heap.size w w' := by
  have HX := Lib.hid hx.a
  have hln : (Lib.itoa x.a).length ≤ 20 := itoa_len hx.a.1 hx.a.2
  obtain ⟨op, a, b, n, imm⟩ := x
  have HT := Lib.hid hT
  have hnot : ¬ 9223372036854775807 < s.size + (Lib.itoa a).length := by simp only at hln; omega
  clear hT hx
  unfold insC
  go_enter Tryz.func60, Tryz.ntmps60
  go_wp2_with fail
  go_region_law (first
    | (go_simp; go_at_call 30; refine (fieldA_any _ _ _).mono ?_; rintro e w1 ⟨rfl, rfl⟩)
    | (go_simp; go_at_call 61; refine (itoa_any a HX.out.1 HX.out.2 _ (HT.out.at_below (by exact (by repeat' (first | (with_reducible assumption) | (with_reducible refine Below.setCell ?_ ?_ _) | (with_reducible refine Below.alloc ?_ ?_ _) | (with_reducible refine Below.drew ?_) | (with_reducible refine below_drewN ?_ _) | (with_reducible exact Below.refl _ _) | (show _ ≤ _; (try simp); (try omega); done) | exact Below.refl _ _ | assumption))))).mono ?_; rintro e w1 ⟨rfl, hb⟩; have hB : Below w.heap.size w w1 := Below.trans (by repeat' (first | (with_reducible assumption) | (with_reducible refine Below.setCell ?_ ?_ _) | (with_reducible refine Below.alloc ?_ ?_ _) | (with_reducible refine Below.drew ?_) | (with_reducible refine below_drewN ?_ _) | (with_reducible exact Below.refl _ _) | (show _ ≤ _; (try simp); (try omega); done) | exact Below.refl _ _ | assumption)) (hb.mono (by (try simp); (try omega))); have k3 : w1.cell? ⟨b3, 0, none⟩ = some (.string s) := (hB.cell (p := ⟨b3, 0, none⟩) z3).trans c3; have zb : b3 < w1.heap.size := Nat.lt_of_lt_of_le z3 hB.size; have HB := Lib.hid hB; clear hb hB))
  all_goals
    go_wp2
    go_ret
    exact ⟨rfl, by have := HB.out; exact (by repeat' (first | (with_reducible assumption) | (with_reducible refine Below.setCell ?_ ?_ _) | (with_reducible refine Below.alloc ?_ ?_ _) | (with_reducible refine Below.drew ?_) | (with_reducible refine below_drewN ?_ _) | (with_reducible exact Below.refl _ _) | (show _ ≤ _; (try simp); (try omega); done) | exact Below.refl _ _ | assumption))⟩
set_option maxRecDepth 100000 in
set_option maxHeartbeats 1000000 in
theorem txB_any (lo hi : Int) (s : ByteArray) (b3 b0 : Nat) (x : Ins) (hx : x.Ok) (w : World) (hT : Tabs w) (c0 : w.cell? ⟨b0, 0, none⟩ = some (.func (.func 31) #[] #[])) (c3 : w.cell? ⟨b3, 0, none⟩ = some (.string s)) (z0 : b0 < w.heap.size) (z3 : b3 < w.heap.size) (hs1 : s.size ≤ 1) :
    Calls Tryz.prog 60 #[.agg (insC x).toArray, ptr b3, ptr b0] w fun e w' => e = .returned (.string (s ++ ⟨(Lib.itoa x.b).toArray⟩)) ∧ Below w.heap.size w w' := by
  have HX := Lib.hid hx.b
  have hln : (Lib.itoa x.b).length ≤ 20 := itoa_len hx.b.1 hx.b.2
  obtain ⟨op, a, b, n, imm⟩ := x
  have HT := Lib.hid hT
  have hnot : ¬ 9223372036854775807 < s.size + (Lib.itoa b).length := by simp only at hln; omega
  clear hT hx
  unfold insC
  go_enter Tryz.func60, Tryz.ntmps60
  go_wp2_with fail
  go_region_law (first
    | (go_simp; go_at_call 31; refine (fieldB_any _ _ _).mono ?_; rintro e w1 ⟨rfl, rfl⟩)
    | (go_simp; go_at_call 61; refine (itoa_any b HX.out.1 HX.out.2 _ (HT.out.at_below (by exact (by repeat' (first | (with_reducible assumption) | (with_reducible refine Below.setCell ?_ ?_ _) | (with_reducible refine Below.alloc ?_ ?_ _) | (with_reducible refine Below.drew ?_) | (with_reducible refine below_drewN ?_ _) | (with_reducible exact Below.refl _ _) | (show _ ≤ _; (try simp); (try omega); done) | exact Below.refl _ _ | assumption))))).mono ?_; rintro e w1 ⟨rfl, hb⟩; have hB : Below w.heap.size w w1 := Below.trans (by repeat' (first | (with_reducible assumption) | (with_reducible refine Below.setCell ?_ ?_ _) | (with_reducible refine Below.alloc ?_ ?_ _) | (with_reducible refine Below.drew ?_) | (with_reducible refine below_drewN ?_ _) | (with_reducible exact Below.refl _ _) | (show _ ≤ _; (try simp); (try omega); done) | exact Below.refl _ _ | assumption)) (hb.mono (by (try simp); (try omega))); have k3 : w1.cell? ⟨b3, 0, none⟩ = some (.string s) := (hB.cell (p := ⟨b3, 0, none⟩) z3).trans c3; have zb : b3 < w1.heap.size := Nat.lt_of_lt_of_le z3 hB.size; have HB := Lib.hid hB; clear hb hB))
  all_goals
    go_wp2
    go_ret
    exact ⟨rfl, by have := HB.out; exact (by repeat' (first | (with_reducible assumption) | (with_reducible refine Below.setCell ?_ ?_ _) | (with_reducible refine Below.alloc ?_ ?_ _) | (with_reducible refine Below.drew ?_) | (with_reducible refine below_drewN ?_ _) | (with_reducible exact Below.refl _ _) | (show _ ≤ _; (try simp); (try omega); done) | exact Below.refl _ _ | assumption))⟩
set_option maxRecDepth 100000 in
set_option maxHeartbeats 1000000 in
theorem txN_any (lo hi : Int) (s : ByteArray) (b3 b0 : Nat) (x : Ins) (hx : x.Ok) (w : World) (hT : Tabs w) (c0 : w.cell? ⟨b0, 0, none⟩ = some (.func (.func 74) #[] #[])) (c3 : w.cell? ⟨b3, 0, none⟩ = some (.string s)) (z0 : b0 < w.heap.size) (z3 : b3 < w.heap.size) (hs1 : s.size ≤ 1) :
    Calls Tryz.prog 60 #[.agg (insC x).toArray, ptr b3, ptr b0] w fun e w' => e = .returned (.string (s ++ ⟨(Lib.itoa x.n).toArray⟩)) ∧ Below w.heap.size w w' := by
  have HX := Lib.hid hx.n
  have hln : (Lib.itoa x.n).length ≤ 20 := itoa_len hx.n.1 hx.n.2
  obtain ⟨op, a, b, n, imm⟩ := x
  have HT := Lib.hid hT
  have hnot : ¬ 9223372036854775807 < s.size + (Lib.itoa n).length := by simp only at hln; omega
  clear hT hx
  unfold insC
  go_enter Tryz.func60, Tryz.ntmps60
  go_wp2_with fail
  go_region_law (first
    | (go_simp; go_at_call 74; refine (fieldN_any _ _ _).mono ?_; rintro e w1 ⟨rfl, rfl⟩)
    | (go_simp; go_at_call 61; refine (itoa_any n HX.out.1 HX.out.2 _ (HT.out.at_below (by exact (by repeat' (first | (with_reducible assumption) | (with_reducible refine Below.setCell ?_ ?_ _) | (with_reducible refine Below.alloc ?_ ?_ _) | (with_reducible refine Below.drew ?_) | (with_reducible refine below_drewN ?_ _) | (with_reducible exact Below.refl _ _) | (show _ ≤ _; (try simp); (try omega); done) | exact Below.refl _ _ | assumption))))).mono ?_; rintro e w1 ⟨rfl, hb⟩; have hB : Below w.heap.size w w1 := Below.trans (by repeat' (first | (with_reducible assumption) | (with_reducible refine Below.setCell ?_ ?_ _) | (with_reducible refine Below.alloc ?_ ?_ _) | (with_reducible refine Below.drew ?_) | (with_reducible refine below_drewN ?_ _) | (with_reducible exact Below.refl _ _) | (show _ ≤ _; (try simp); (try omega); done) | exact Below.refl _ _ | assumption)) (hb.mono (by (try simp); (try omega))); have k3 : w1.cell? ⟨b3, 0, none⟩ = some (.string s) := (hB.cell (p := ⟨b3, 0, none⟩) z3).trans c3; have zb : b3 < w1.heap.size := Nat.lt_of_lt_of_le z3 hB.size; have HB := Lib.hid hB; clear hb hB))
  all_goals
    go_wp2
    go_ret
    exact ⟨rfl, by have := HB.out; exact (by repeat' (first | (with_reducible assumption) | (with_reducible refine Below.setCell ?_ ?_ _) | (with_reducible refine Below.alloc ?_ ?_ _) | (with_reducible refine Below.drew ?_) | (with_reducible refine below_drewN ?_ _) | (with_reducible exact Below.refl _ _) | (show _ ≤ _; (try simp); (try omega); done) | exact Below.refl _ _ | assumption))⟩
set_option maxRecDepth 100000 in
set_option maxHeartbeats 1000000 in
theorem txNum_any (x : Ins) (hx : x.Ok) (w : World) (hT : Tabs w) :
    Calls Tryz.prog 70 #[.agg (insC x).toArray] w (Txt x .number w) := by
  obtain ⟨q, hq⟩ : ∃ q : Nat, q = x.imm.toNat := ⟨_, rfl⟩
  have him := hx.imm
  have HF := Lib.hid (fun (W : World) (hb : Below w.heap.size w W) => hexW.fmt16_any q (by omega) W (hT.at_below hb).tz)
  have HE : Hid ((⟨#[48, 120]⟩ : ByteArray) ++ ⟨(hexs q).toArray⟩ = ⟨(txtF .number x).toArray⟩) := Lib.hid (by
    have := strApp [48, 120] (hexs q)
    rw [show (⟨#[48, 120]⟩ : ByteArray) = ⟨[48, 120].toArray⟩ from rfl, this, hq]; rfl)
  have HQ := Lib.hid (show x.imm = (q : Int) by omega)
  have hln : (hexs q).length ≤ 16 := hexs_len (k := 16) (by rw [show (16 : Nat) ^ 16 = 18446744073709551616 from by decide]; omega) (by decide)
  unfold Txt
  obtain ⟨T, hT2⟩ : ∃ T : ByteArray, T = ⟨(txtF .number x).toArray⟩ := ⟨_, rfl⟩
  rw [← hT2] at HE ⊢
  obtain ⟨op, a, b, n, imm⟩ := x
  simp only at HQ
  obtain rfl : imm = (q : Int) := HQ.out
  clear hT hx hq him hT2 HQ
  unfold insC
  go_enter Tryz.func70, Tryz.ntmps70
  go_wp2_with (go_at_call 71; refine (HF.out _ (by exact (by repeat' (first | (with_reducible assumption) | (with_reducible refine Below.setCell ?_ ?_ _) | (with_reducible refine Below.alloc ?_ ?_ _) | (with_reducible refine Below.drew ?_) | (with_reducible refine below_drewN ?_ _) | (with_reducible exact Below.refl _ _) | (show _ ≤ _; (try simp); (try omega); done) | exact Below.refl _ _ | assumption)))).mono ?_; rintro e w1 ⟨rfl, hb⟩; have hB : Below w.heap.size w w1 := Below.trans (by repeat' (first | (with_reducible assumption) | (with_reducible refine Below.setCell ?_ ?_ _) | (with_reducible refine Below.alloc ?_ ?_ _) | (with_reducible refine Below.drew ?_) | (with_reducible refine below_drewN ?_ _) | (with_reducible exact Below.refl _ _) | (show _ ≤ _; (try simp); (try omega); done) | exact Below.refl _ _ | assumption)) (hb.mono (by (try simp); (try omega))); have HB := Lib.hid hB; clear hb hB)
  go_ret
  exact ⟨by rw [← HE.out]; rfl, HB.out⟩
end codeW
end Go.Proofs.YtbopooanmpcepaaGreatDoor
