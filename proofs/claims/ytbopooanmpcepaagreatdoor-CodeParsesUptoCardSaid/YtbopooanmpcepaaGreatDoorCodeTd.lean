/- The fourth closure of any field as a call of a known function. Condition: the library's two tables are laid. -/
import Derived.Test.YtbopooanmpcepaaGreatDoorCodeTw
import Derived.Test.YtbopooanmpcepaaGreatDoorCodeR
namespace Go.Proofs.YtbopooanmpcepaaGreatDoor
open Go.RowKit Go.Bus Go.Bus.cellK Go.Bus.codeK Go.Bus.hexK
set_option linter.unusedVariables false
set_option linter.unusedSimpArgs false
namespace codeW
set_option maxRecDepth 100000 in
set_option maxHeartbeats 1000000 in
theorem txSign_any (x : Ins) (w : World) :
    Calls Tryz.prog 95 #[.agg (insC x).toArray] w (Txt x .sign w) := by
  obtain ⟨op, a, b, n, imm⟩ := x
  by_cases h1 : imm = 1
  · have HE : Hid (txtF .sign ⟨op, a, b, n, imm⟩ = signedT) := Lib.hid (by simp [txtF, h1])
    have e1 : (imm == 1) = true := by simpa using h1
    clear h1
    unfold insC Txt
    rw [HE.out]
    go_enter Tryz.func95, Tryz.ntmps95
    go_wp2
    go_ret
    exact ⟨rfl, (by repeat' (first | (with_reducible assumption) | (with_reducible refine Below.setCell ?_ ?_ _) | (with_reducible refine Below.alloc ?_ ?_ _) | (with_reducible refine Below.drew ?_) | (with_reducible refine below_drewN ?_ _) | (with_reducible exact Below.refl _ _) | (show _ ≤ _; (try simp); (try omega); done) | exact Below.refl _ _ | assumption))⟩
  · have HE : Hid (txtF .sign ⟨op, a, b, n, imm⟩ = unsignedT) := Lib.hid (by simp [txtF, h1])
    have e1 : (imm == 1) = false := by simpa using h1
    clear h1
    unfold insC Txt
    rw [HE.out]
    go_enter Tryz.func95, Tryz.ntmps95
    go_wp2
    go_ret
    exact ⟨rfl, (by repeat' (first | (with_reducible assumption) | (with_reducible refine Below.setCell ?_ ?_ _) | (with_reducible refine Below.alloc ?_ ?_ _) | (with_reducible refine Below.drew ?_) | (with_reducible refine below_drewN ?_ _) | (with_reducible exact Below.refl _ _) | (show _ ≤ _; (try simp); (try omega); done) | exact Below.refl _ _ | assumption))⟩
theorem strTxt (s : ByteArray) (l : List UInt8) : s ++ (⟨l.toArray⟩ : ByteArray) = ⟨(s.data.toList ++ l).toArray⟩ := by
  rw [show s = ⟨s.data.toList.toArray⟩ from strData s, strApp]
theorem txSmall_any (h : Wh) (hI : h ≠ .I) (lo hi : Int) (s : ByteArray) (hs : s.size ≤ 1) (b0 b1 b2 b3 : Nat) (F : Foot) (x : Ins) (hx : x.Ok) (w : World) (hT : Tabs w) (hB : Boxes w F h lo hi s b0 b1 b2 b3) :
    Calls Tryz.prog 60 #[.agg (insC x).toArray, ptr b3, ptr b0] w fun e w' => e = .returned (.string ⟨(s.data.toList ++ Lib.itoa (x.at_ h)).toArray⟩) ∧ Below w.heap.size w w' := by
  have c0 := hB.h0.cell 0
  have c3 := hB.h3.cell 0
  rw [← strTxt]
  cases h with
  | A => exact txA_any lo hi s b3 b0 x hx w hT c0 c3 hB.h0.lt hB.h3.lt hs
  | B => exact txB_any lo hi s b3 b0 x hx w hT c0 c3 hB.h0.lt hB.h3.lt hs
  | N => exact txN_any lo hi s b3 b0 x hx w hT c0 c3 hB.h0.lt hB.h3.lt hs
  | I => exact absurd rfl hI
theorem txSmallE_any (lo hi : Int) (b0 b1 b2 b3 : Nat) (F : Foot) (x : Ins) (hx : x.Ok) (w : World) (hT : Tabs w) (hB : Boxes w F .N lo hi eS b0 b1 b2 b3) :
    Calls Tryz.prog 60 #[.agg (insC x).toArray, ptr b3, ptr b0] w fun e w' => e = .returned (.string ⟨(Lib.itoa x.n).toArray⟩) ∧ Below w.heap.size w w' :=
  txSmall_any .N (by decide) lo hi eS (by decide) b0 b1 b2 b3 F x hx w hT hB
theorem tx_does (f : Fk) (hf : f.ok) (cs : List Value) (F : Foot) (x : Ins) (hx : x.Ok) (w : World) (hT : Tabs w) (hE : FieldE w F cs f) :
    ∃ c0 c1 c2 c3 c4, cs = [c0, c1, c2, c3, c4] ∧ Does Tryz.prog c3 #[.agg (insC x).toArray] w (Txt x f w) := by
  obtain ⟨b0, b1, b2, b3, rfl, hB⟩ := hE
  refine ⟨_, _, _, _, _, rfl, ?_⟩
  cases f with
  | small h lo hi s => exact callFunc_of _ (fun _ _ => by kernel_rfl) _ _ _ _ (txSmall_any h hf.1 lo hi s hf.2.2.2 b0 b1 b2 b3 F x hx w hT (hB _ _ _ _ rfl))
  | skip => exact callFunc_of _ (fun _ _ => by kernel_rfl) _ _ _ _ (txSmallE_any 0 16384 b0 b1 b2 b3 F x hx w hT (hB _ _ _ _ rfl))
  | bytes => exact callFunc_of _ (fun _ _ => by kernel_rfl) _ _ _ _ (txSmallE_any 1 8 b0 b1 b2 b3 F x hx w hT (hB _ _ _ _ rfl))
  | number => exact callFunc_of _ (fun _ _ => by kernel_rfl) _ _ _ _ (txNum_any x hx w hT)
  | sign => exact callFunc_of _ (fun _ _ => by kernel_rfl) _ _ _ _ (txSign_any x w)
theorem cTx_clos (f : Fk) (b3 b0 : Nat) : ∃ fn cap, cTx f b3 b0 = clos fn cap := by cases f <;> exact ⟨_, _, rfl⟩
theorem tx_do {f : Fk} {c0 c1 c2 c3 c4 : Value} {F : Foot} {x : Ins} {w : World} (hE : FieldE w F [c0, c1, c2, c3, c4] f) (hf : f.ok) (hx : x.Ok) (hT : Tabs w) : Do c3 #[.agg (insC x).toArray] w (Txt x f w) := by
  obtain ⟨d0, d1, d2, d3, d4, hcs, hD⟩ := tx_does f hf _ F x hx w hT hE
  cases hcs
  obtain ⟨b0, b1, b2, b3, hc, _⟩ := hE
  obtain ⟨fn, cap, h⟩ := cTx_clos f b3 b0
  have hc3 : c3 = cTx f b3 b0 := by injection hc with _ hc; injection hc with _ hc; injection hc with _ hc; injection hc
  exact do_of (hc3.trans h) hD
theorem tx_shape {f : Fk} {c0 c1 c2 c3 c4 : Value} {F : Foot} {w : World} (hE : FieldE w F [c0, c1, c2, c3, c4] f) : ∃ fn0 cap0 fn1 cap1 fn2 cap2 fn3 cap3 fn4 cap4, c0 = .func (.func fn0) #[] cap0 ∧ c1 = .func (.func fn1) #[] cap1 ∧ c2 = .func (.func fn2) #[] cap2 ∧ c3 = .func (.func fn3) #[] cap3 ∧ c4 = .func (.func fn4) #[] cap4 ∧
    (∀ xs w, (callFunc fn3 xs).run Tryz.prog w = .ok (.enter fn3 xs) w) ∧ (∀ xs w, (callFunc fn4 xs).run Tryz.prog w = .ok (.enter fn4 xs) w) := by
  obtain ⟨b0, b1, b2, b3, hc, _⟩ := hE
  injection hc with h0 hc
  injection hc with h1 hc
  injection hc with h2 hc
  injection hc with h3 hc
  injection hc with h4 hc
  subst h0 h1 h2 h3 h4
  cases f <;> exact ⟨_, _, _, _, _, _, _, _, _, _, rfl, rfl, rfl, rfl, rfl, fun _ _ => by kernel_rfl, fun _ _ => by kernel_rfl⟩
theorem txt_len {f : Fk} {x : Ins} (hf : f.ok) (hx : x.Ok) : (txtF f x).length ≤ 30 := by
  cases f with
  | small h lo hi s =>
    have hs : s.size ≤ 1 := hf.2.2.2
    have hd : s.data.toList.length ≤ 1 := by rw [Array.length_toList]; exact hs
    have hv : (Lib.itoa (x.at_ h)).length ≤ 20 := by
      cases h with
      | A => exact itoa_len hx.a.1 hx.a.2
      | B => exact itoa_len hx.b.1 hx.b.2
      | N => exact itoa_len hx.n.1 hx.n.2
      | I => exact absurd rfl hf.1
    simp only [txtF, List.length_append]; omega
  | skip => have := itoa_len hx.n.1 hx.n.2; simp only [txtF]; omega
  | bytes => have := itoa_len hx.n.1 hx.n.2; simp only [txtF]; omega
  | number =>
    have := hexs_len (n := x.imm.toNat) (k := 16) (by have := hx.imm; rw [show (16 : Nat) ^ 16 = 18446744073709551616 from by decide]; omega) (by decide)
    simp only [txtF, List.length_append]; simp; omega
  | sign => simp only [txtF]; split <;> decide
end codeW
end Go.Proofs.YtbopooanmpcepaaGreatDoor
