/- The first closures of the fields: is an instruction's field right? For bytes: where the place they begin at is right. Else no condition. -/
import Derived.Test.YtbbfpbmogklomaaGreatDoorZCodeF
import Derived.Deep.QuietTactic
import Derived.BigQuiet
import Derived.Outline
namespace Go.Proofs.YtbbfpbmogklomaaGreatDoor
open Go.RowKit Go.Bus Go.Bus.cellK Go.Bus.codeK
set_option linter.unusedVariables false
set_option linter.unusedSimpArgs false
namespace codeW
def Okd (x : Ins) (f : Fk) (w : World) (e : Ending) (w' : World) : Prop := e = .returned (.bool (okF f x)) ∧ Below w.heap.size w w'
set_option maxRecDepth 100000 in
set_option maxHeartbeats 1000000 in
theorem okA_any (lo hi : Int) (s : ByteArray) (b0 b1 b2 : Nat) (x : Ins) (w : World) (c0 : w.cell? ⟨b0, 0, none⟩ = some (.func (.func 47) #[] #[])) (c1 : w.cell? ⟨b1, 0, none⟩ = some (.int .i64 lo)) (c2 : w.cell? ⟨b2, 0, none⟩ = some (.int .i64 hi))
    (z0 : b0 < w.heap.size) (z1 : b1 < w.heap.size) (z2 : b2 < w.heap.size) :
    Calls Tryz.prog 83 #[.agg (insC x).toArray, ptr b0, ptr b1, ptr b2] w (Okd x (.small .A lo hi s) w) := by
  obtain ⟨op, a, b, n, imm⟩ := x
  by_cases h1 : lo ≤ a
  · have d1 : decide (lo ≤ a) = true := by simpa using h1
    have HE : Hid (okF (.small .A lo hi s) ⟨op, a, b, n, imm⟩ = decide (a ≤ hi)) := Lib.hid (by show (decide (lo ≤ a) && decide (a ≤ hi)) = _; rw [d1]; rfl)
    clear h1
    unfold insC
    go_enter Tryz.func83, Tryz.ntmps83
    go_wp2
    go_quiet ((go_at_call 47; exact Calls.quiet_of_same ((fieldA_any _ _ _).mono fun e w' h => ⟨h.1, h.2.symm⟩)))
    go_wp2
    go_ret
    exact ⟨by rw [HE.out]; rfl, (by repeat' (first | (with_reducible assumption) | (with_reducible refine Below.setCell ?_ ?_ _) | (with_reducible refine Below.alloc ?_ ?_ _) | (with_reducible refine Below.drew ?_) | (with_reducible refine below_drewN ?_ _) | (with_reducible exact Below.refl _ _) | (show _ ≤ _; (try simp); (try omega); done) | exact Below.refl _ _ | assumption))⟩
  · have d1 : decide (lo ≤ a) = false := by simpa using h1
    have HE : Hid (okF (.small .A lo hi s) ⟨op, a, b, n, imm⟩ = false) := Lib.hid (by show (decide (lo ≤ a) && decide (a ≤ hi)) = _; rw [d1]; rfl)
    clear h1
    unfold insC
    go_enter Tryz.func83, Tryz.ntmps83
    go_wp2
    go_quiet ((go_at_call 47; exact Calls.quiet_of_same ((fieldA_any _ _ _).mono fun e w' h => ⟨h.1, h.2.symm⟩)))
    go_wp2
    go_ret
    exact ⟨by rw [HE.out]; rfl, (by repeat' (first | (with_reducible assumption) | (with_reducible refine Below.setCell ?_ ?_ _) | (with_reducible refine Below.alloc ?_ ?_ _) | (with_reducible refine Below.drew ?_) | (with_reducible refine below_drewN ?_ _) | (with_reducible exact Below.refl _ _) | (show _ ≤ _; (try simp); (try omega); done) | exact Below.refl _ _ | assumption))⟩
set_option maxRecDepth 100000 in
set_option maxHeartbeats 1000000 in
theorem okB_any (lo hi : Int) (s : ByteArray) (b0 b1 b2 : Nat) (x : Ins) (w : World) (c0 : w.cell? ⟨b0, 0, none⟩ = some (.func (.func 48) #[] #[])) (c1 : w.cell? ⟨b1, 0, none⟩ = some (.int .i64 lo)) (c2 : w.cell? ⟨b2, 0, none⟩ = some (.int .i64 hi))
    (z0 : b0 < w.heap.size) (z1 : b1 < w.heap.size) (z2 : b2 < w.heap.size) :
    Calls Tryz.prog 83 #[.agg (insC x).toArray, ptr b0, ptr b1, ptr b2] w (Okd x (.small .B lo hi s) w) := by
  obtain ⟨op, a, b, n, imm⟩ := x
  by_cases h1 : lo ≤ b
  · have d1 : decide (lo ≤ b) = true := by simpa using h1
    have HE : Hid (okF (.small .B lo hi s) ⟨op, a, b, n, imm⟩ = decide (b ≤ hi)) := Lib.hid (by show (decide (lo ≤ b) && decide (b ≤ hi)) = _; rw [d1]; rfl)
    clear h1
    unfold insC
    go_enter Tryz.func83, Tryz.ntmps83
    go_wp2
    go_quiet ((go_at_call 48; exact Calls.quiet_of_same ((fieldB_any _ _ _).mono fun e w' h => ⟨h.1, h.2.symm⟩)))
    go_wp2
    go_ret
    exact ⟨by rw [HE.out]; rfl, (by repeat' (first | (with_reducible assumption) | (with_reducible refine Below.setCell ?_ ?_ _) | (with_reducible refine Below.alloc ?_ ?_ _) | (with_reducible refine Below.drew ?_) | (with_reducible refine below_drewN ?_ _) | (with_reducible exact Below.refl _ _) | (show _ ≤ _; (try simp); (try omega); done) | exact Below.refl _ _ | assumption))⟩
  · have d1 : decide (lo ≤ b) = false := by simpa using h1
    have HE : Hid (okF (.small .B lo hi s) ⟨op, a, b, n, imm⟩ = false) := Lib.hid (by show (decide (lo ≤ b) && decide (b ≤ hi)) = _; rw [d1]; rfl)
    clear h1
    unfold insC
    go_enter Tryz.func83, Tryz.ntmps83
    go_wp2
    go_quiet ((go_at_call 48; exact Calls.quiet_of_same ((fieldB_any _ _ _).mono fun e w' h => ⟨h.1, h.2.symm⟩)))
    go_wp2
    go_ret
    exact ⟨by rw [HE.out]; rfl, (by repeat' (first | (with_reducible assumption) | (with_reducible refine Below.setCell ?_ ?_ _) | (with_reducible refine Below.alloc ?_ ?_ _) | (with_reducible refine Below.drew ?_) | (with_reducible refine below_drewN ?_ _) | (with_reducible exact Below.refl _ _) | (show _ ≤ _; (try simp); (try omega); done) | exact Below.refl _ _ | assumption))⟩
set_option maxRecDepth 100000 in
set_option maxHeartbeats 1000000 in
theorem okN_any (lo hi : Int) (s : ByteArray) (b0 b1 b2 : Nat) (x : Ins) (w : World) (c0 : w.cell? ⟨b0, 0, none⟩ = some (.func (.func 101) #[] #[])) (c1 : w.cell? ⟨b1, 0, none⟩ = some (.int .i64 lo)) (c2 : w.cell? ⟨b2, 0, none⟩ = some (.int .i64 hi))
    (z0 : b0 < w.heap.size) (z1 : b1 < w.heap.size) (z2 : b2 < w.heap.size) :
    Calls Tryz.prog 83 #[.agg (insC x).toArray, ptr b0, ptr b1, ptr b2] w (Okd x (.small .N lo hi s) w) := by
  obtain ⟨op, a, b, n, imm⟩ := x
  by_cases h1 : lo ≤ n
  · have d1 : decide (lo ≤ n) = true := by simpa using h1
    have HE : Hid (okF (.small .N lo hi s) ⟨op, a, b, n, imm⟩ = decide (n ≤ hi)) := Lib.hid (by show (decide (lo ≤ n) && decide (n ≤ hi)) = _; rw [d1]; rfl)
    clear h1
    unfold insC
    go_enter Tryz.func83, Tryz.ntmps83
    go_wp2
    go_quiet ((go_at_call 101; exact Calls.quiet_of_same ((fieldN_any _ _ _).mono fun e w' h => ⟨h.1, h.2.symm⟩)))
    go_wp2
    go_ret
    exact ⟨by rw [HE.out]; rfl, (by repeat' (first | (with_reducible assumption) | (with_reducible refine Below.setCell ?_ ?_ _) | (with_reducible refine Below.alloc ?_ ?_ _) | (with_reducible refine Below.drew ?_) | (with_reducible refine below_drewN ?_ _) | (with_reducible exact Below.refl _ _) | (show _ ≤ _; (try simp); (try omega); done) | exact Below.refl _ _ | assumption))⟩
  · have d1 : decide (lo ≤ n) = false := by simpa using h1
    have HE : Hid (okF (.small .N lo hi s) ⟨op, a, b, n, imm⟩ = false) := Lib.hid (by show (decide (lo ≤ n) && decide (n ≤ hi)) = _; rw [d1]; rfl)
    clear h1
    unfold insC
    go_enter Tryz.func83, Tryz.ntmps83
    go_wp2
    go_quiet ((go_at_call 101; exact Calls.quiet_of_same ((fieldN_any _ _ _).mono fun e w' h => ⟨h.1, h.2.symm⟩)))
    go_wp2
    go_ret
    exact ⟨by rw [HE.out]; rfl, (by repeat' (first | (with_reducible assumption) | (with_reducible refine Below.setCell ?_ ?_ _) | (with_reducible refine Below.alloc ?_ ?_ _) | (with_reducible refine Below.drew ?_) | (with_reducible refine below_drewN ?_ _) | (with_reducible exact Below.refl _ _) | (show _ ≤ _; (try simp); (try omega); done) | exact Below.refl _ _ | assumption))⟩
set_option maxRecDepth 100000 in
set_option maxHeartbeats 1000000 in
theorem okBytes_any (x : Ins) (w : World) (h0 : 0 ≤ x.b) (h7 : x.b ≤ 7) : Calls Tryz.prog 124 #[.agg (insC x).toArray] w (Okd x .bytes w) := by
  obtain ⟨op, a, b, n, imm⟩ := x
  simp only at h0 h7
  unfold insC
  by_cases h1 : 1 ≤ n
  · by_cases h2 : n ≤ 8
    · have d1 : decide (1 ≤ n) = true := by simpa using h1
      have d2 : decide (n ≤ 8) = true := by simpa using h2
      have HE : Hid (okF .bytes ⟨op, a, b, n, imm⟩ = decide (b + n ≤ 8)) := Lib.hid (by show (decide (1 ≤ n) && decide (n ≤ 8) && decide (b + n ≤ 8)) = _; rw [d1, d2]; rfl)
      go_enter Tryz.func124, Tryz.ntmps124
      go_wp2
      go_ret
      exact ⟨by rw [HE.out]; rfl, (by repeat' (first | (with_reducible assumption) | (with_reducible refine Below.setCell ?_ ?_ _) | (with_reducible refine Below.alloc ?_ ?_ _) | (with_reducible refine Below.drew ?_) | (with_reducible refine below_drewN ?_ _) | (with_reducible exact Below.refl _ _) | (show _ ≤ _; (try simp); (try omega); done) | exact Below.refl _ _ | assumption))⟩
    · have d1 : decide (1 ≤ n) = true := by simpa using h1
      have d2 : decide (n ≤ 8) = false := by simpa using h2
      have HE : Hid (okF .bytes ⟨op, a, b, n, imm⟩ = false) := Lib.hid (by show (decide (1 ≤ n) && decide (n ≤ 8) && decide (b + n ≤ 8)) = _; rw [d1, d2]; rfl)
      clear h1 h2
      go_enter Tryz.func124, Tryz.ntmps124
      go_wp2
      go_ret
      exact ⟨by rw [HE.out]; rfl, (by repeat' (first | (with_reducible assumption) | (with_reducible refine Below.setCell ?_ ?_ _) | (with_reducible refine Below.alloc ?_ ?_ _) | (with_reducible refine Below.drew ?_) | (with_reducible refine below_drewN ?_ _) | (with_reducible exact Below.refl _ _) | (show _ ≤ _; (try simp); (try omega); done) | exact Below.refl _ _ | assumption))⟩
  · have d1 : decide (1 ≤ n) = false := by simpa using h1
    have HE : Hid (okF .bytes ⟨op, a, b, n, imm⟩ = false) := Lib.hid (by show (decide (1 ≤ n) && decide (n ≤ 8) && decide (b + n ≤ 8)) = _; rw [d1]; rfl)
    clear h1
    go_enter Tryz.func124, Tryz.ntmps124
    go_wp2
    go_ret
    exact ⟨by rw [HE.out]; rfl, (by repeat' (first | (with_reducible assumption) | (with_reducible refine Below.setCell ?_ ?_ _) | (with_reducible refine Below.alloc ?_ ?_ _) | (with_reducible refine Below.drew ?_) | (with_reducible refine below_drewN ?_ _) | (with_reducible exact Below.refl _ _) | (show _ ≤ _; (try simp); (try omega); done) | exact Below.refl _ _ | assumption))⟩
set_option maxRecDepth 100000 in
set_option maxHeartbeats 1000000 in
theorem okNumber_any (x : Ins) (w : World) : Calls Tryz.prog 92 #[.agg (insC x).toArray] w (Okd x .number w) := by
  obtain ⟨op, a, b, n, imm⟩ := x
  unfold insC
  go_enter Tryz.func92, Tryz.ntmps92
  go_wp2
  go_ret
  exact ⟨rfl, (by repeat' (first | (with_reducible assumption) | (with_reducible refine Below.setCell ?_ ?_ _) | (with_reducible refine Below.alloc ?_ ?_ _) | (with_reducible refine Below.drew ?_) | (with_reducible refine below_drewN ?_ _) | (with_reducible exact Below.refl _ _) | (show _ ≤ _; (try simp); (try omega); done) | exact Below.refl _ _ | assumption))⟩
set_option maxRecDepth 100000 in
set_option maxHeartbeats 1000000 in
theorem okSign_any (x : Ins) (w : World) : Calls Tryz.prog 125 #[.agg (insC x).toArray] w (Okd x .sign w) := by
  obtain ⟨op, a, b, n, imm⟩ := x
  unfold insC
  go_enter Tryz.func125, Tryz.ntmps125
  go_wp2
  go_ret
  exact ⟨rfl, (by repeat' (first | (with_reducible assumption) | (with_reducible refine Below.setCell ?_ ?_ _) | (with_reducible refine Below.alloc ?_ ?_ _) | (with_reducible refine Below.drew ?_) | (with_reducible refine below_drewN ?_ _) | (with_reducible exact Below.refl _ _) | (show _ ≤ _; (try simp); (try omega); done) | exact Below.refl _ _ | assumption))⟩
theorem okSmall_any (h : Wh) (hh : h ≠ .I) (lo hi : Int) (s : ByteArray) (b0 b1 b2 b3 : Nat) (F : Foot) (x : Ins) (w : World) (hB : Boxes w F h lo hi s b0 b1 b2 b3) :
    Calls Tryz.prog 83 #[.agg (insC x).toArray, ptr b0, ptr b1, ptr b2] w (Okd x (.small h lo hi s) w) := by
  have c0 : w.cell? ⟨b0, 0, none⟩ = some (clos (whF h) #[]) := hB.h0.cell 0
  cases h with
  | A => exact okA_any lo hi s b0 b1 b2 x w c0 (hB.h1.cell 0) (hB.h2.cell 0) hB.h0.lt hB.h1.lt hB.h2.lt
  | B => exact okB_any lo hi s b0 b1 b2 x w c0 (hB.h1.cell 0) (hB.h2.cell 0) hB.h0.lt hB.h1.lt hB.h2.lt
  | N => exact okN_any lo hi s b0 b1 b2 x w c0 (hB.h1.cell 0) (hB.h2.cell 0) hB.h0.lt hB.h1.lt hB.h2.lt
  | I => exact absurd rfl hh
theorem callFunc_of (f : FuncId) (h : ∀ xs w, (callFunc f xs).run Tryz.prog w = .ok (.enter f xs) w) (args : Array Value) (caps : Array Value) (w : World) (R : Ending → World → Prop) (hC : Calls Tryz.prog f (args ++ caps) w R) : Does Tryz.prog (clos f caps) args w R :=
  ⟨f, #[], caps, rfl, h, by simpa using hC⟩
/-- The first closure of any field. -/
theorem ok_does (f : Fk) (hf : f.ok) (cs : List Value) (F : Foot) (x : Ins) (w : World) (hE : FieldE w F cs f) (hb : f = .bytes → 0 ≤ x.b ∧ x.b ≤ 7) :
    ∃ c0 c1 c2 c3 c4, cs = [c0, c1, c2, c3, c4] ∧ Does Tryz.prog c0 #[.agg (insC x).toArray] w (Okd x f w) := by
  obtain ⟨b0, b1, b2, b3, rfl, hB⟩ := hE
  refine ⟨_, _, _, _, _, rfl, ?_⟩
  cases f with
  | small h lo hi s => exact callFunc_of _ (fun _ _ => by kernel_rfl) _ _ _ _ (okSmall_any h hf.1 lo hi s b0 b1 b2 b3 F x w (hB _ _ _ _ rfl))
  | skip => exact callFunc_of _ (fun _ _ => by kernel_rfl) _ _ _ _ (okSmall_any .N (by decide) 0 16384 eS b0 b1 b2 b3 F x w (hB _ _ _ _ rfl))
  | bytes => exact callFunc_of _ (fun _ _ => by kernel_rfl) _ _ _ _ (okBytes_any x w (hb rfl).1 (hb rfl).2)
  | number => exact callFunc_of _ (fun _ _ => by kernel_rfl) _ _ _ _ (okNumber_any x w)
  | sign => exact callFunc_of _ (fun _ _ => by kernel_rfl) _ _ _ _ (okSign_any x w)
end codeW
end Go.Proofs.YtbbfpbmogklomaaGreatDoor
