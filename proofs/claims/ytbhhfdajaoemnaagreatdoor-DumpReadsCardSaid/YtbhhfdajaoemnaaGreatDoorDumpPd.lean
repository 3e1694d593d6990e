/- dump.padded, dump.most. Conditions: two tables of the library are laid, numbers have room. -/
import Derived.Test.YtbhhfdajaoemnaaGreatDoorDumpDg
import Derived.Test.YtbhhfdajaoemnaaGreatDoorFmt10
import Derived.Test.YtbhhfdajaoemnaaGreatDoorFmt16
import Derived.Test.YtbhhfdajaoemnaaGreatDoorShelf2
namespace Go.Bus.dumpK
open Go.Bus.textK Go.Bus.hexK Go.Lib
set_option linter.unusedVariables false
theorem padN_len {n : Nat} {t : List UInt8} (h : t.length ≤ n) : (padN n t).length = n := by
  unfold padN
  rw [List.length_append, repeatL_length]
  simp; omega
theorem dec_ascii (u : Nat) : ∀ c ∈ decDigits u, c.toNat < 128 := by
  intro c hc
  have := List.all_eq_true.1 (dec_all u) c hc
  have := isDig_iff.1 this
  omega
theorem hexs_ascii (n : Nat) : ∀ c ∈ hexs n, c.toNat < 128 := by
  have key : ∀ d : Fin 16, (hexd d.val).toNat < 128 := by decide
  induction n using Nat.strongRecOn with
  | ind n ih =>
    by_cases h : n < 16
    · rw [hexs_lt h]
      intro c hc
      obtain rfl := List.mem_singleton.1 hc
      exact key ⟨n, h⟩
    · rw [hexs_ge h]
      intro c hc
      rcases List.mem_append.1 hc with hc | hc
      · exact ih (n / 16) (by omega) c hc
      · obtain rfl := List.mem_singleton.1 hc
        exact key ⟨n % 16, by omega⟩
end Go.Bus.dumpK
namespace Go.Proofs.YtbhhfdajaoemnaaGreatDoor
open Go.RowKit Go.Bus Go.Bus.dumpK Go.Bus.textK Go.Bus.hexK
set_option linter.unusedVariables false
set_option linter.unusedSimpArgs false
namespace dumpW
theorem strApp (s t : List UInt8) : (⟨s.toArray⟩ : ByteArray) ++ ⟨t.toArray⟩ = ⟨(s ++ t).toArray⟩ := by
  apply ByteArray.ext
  simp
theorem most_any (b : Bool) (w : World) : Calls Tryz.prog 29 #[.bool b] w fun e w' => e = .returned (.tuple #[.int .u32 (most b : Nat), .int .i64 (wid b : Nat)]) ∧ w = w' := by
  cases b
  · go_enter Tryz.func29, Tryz.ntmps29
    go_wp2
    go_ret2
    exact ⟨rfl, rfl⟩
  · go_enter Tryz.func29, Tryz.ntmps29
    go_wp2
    go_ret2
    exact ⟨rfl, rfl⟩
set_option maxRecDepth 100000 in
set_option maxHeartbeats 1000000 in
theorem padded_w (base v n : Nat) (T : List UInt8) (w : World) (hT : ∀ c ∈ T, c.toNat < 128) (hlen : T.length ≤ n) (hn : n ≤ 8)
    (hF : Calls Tryz.prog 31 #[.int .u64 (v : Nat), .int .i64 (base : Nat)] w fun e w' => e = .returned (.string ⟨T.toArray⟩) ∧ Below w.heap.size w w') :
    Calls Tryz.prog 32 #[.int .u64 (v : Nat), .int .i64 (base : Nat), .int .i64 (n : Nat)] w fun e w' => e = .returned (.string ⟨(padN n (Lib.toUpperA T)).toArray⟩) ∧ Below w.heap.size w w' := by
  have HF := Lib.hid hF
  obtain ⟨U, hU⟩ : ∃ U, U = Lib.toUpperA T := ⟨_, rfl⟩
  have hul : U.length = T.length := by rw [hU]; simp [Lib.toUpperA]
  have HUP : Hid (∀ W, Calls Tryz.prog 67 #[.string ⟨T.toArray⟩] W fun e w' => e = .returned (.string ⟨U.toArray⟩) ∧ Below W.heap.size W w') := Lib.hid (fun W => (Tryz.strings_ToUpper_ascii ⟨T.toArray⟩ W (by show T.toArray.size ≤ _; simp; omega) (fun j b hj => hT b (by have h := List.mem_of_getElem? hj; simpa using h))).mono (fun e w' h => ⟨by rw [h.1, hU], h.2⟩))
  obtain ⟨R, hR⟩ : ∃ R, R = Lib.repeatL [48] (n - U.length) := ⟨_, rfl⟩
  have hrl : R.length = n - U.length := by rw [hR, Lib.repeatL_length]; simp
  have HRP : Hid (∀ (x : Int) W, x = ((n - U.length : Nat) : Int) → Calls Tryz.prog 68 #[.string ⟨#[48]⟩, .int .i64 x] W fun e w' => e = .returned (.string ⟨R.toArray⟩) ∧ Below W.heap.size W w') := Lib.hid (fun x W hx => by
    subst hx
    have h1 : (⟨#[48]⟩ : ByteArray).size = 1 := rfl
    exact (Tryz.strings_Repeat ⟨#[48]⟩ (n - U.length) W (by omega) (by rw [h1]; omega)).mono (fun e w' h => ⟨by rw [h.1, hR], h.2⟩))
  have HE : Hid (padN n (Lib.toUpperA T) = R ++ U) := Lib.hid (by unfold padN; rw [← hU, ← hR])
  rw [HE.out]
  have hul2 : U.length ≤ n := by omega
  have hno : ¬ 9223372036854775807 < R.length + U.length := by omega
  have hsub : IntKind.i64.wrap ((n : Int) - (U.length : Int)) = (n : Int) - (U.length : Int) := IntWalk.i64_in _ ⟨by omega, by omega⟩
  clear hF hU hR hT hul hrl HE
  go_enter Tryz.func32, Tryz.ntmps32
  go_wp2_with (first
    | (go_at_call 31; refine (HF.out).mono ?_; rintro e w1 ⟨rfl, hb⟩; have HB1 := Lib.hid hb; clear hb)
    | (go_at_call 67; refine (HUP.out _).mono ?_; rintro e w2 ⟨rfl, hb⟩; have HB2 := Lib.hid (HB1.out.trans (hb.mono HB1.out.size)); clear hb)
    | (go_at_call 68; refine (HRP.out _ _ (by omega)).mono ?_; rintro e w3 ⟨rfl, hb⟩; have HB3 := Lib.hid (HB2.out.trans (hb.mono HB2.out.size)); clear hb))
  go_ret
  exact ⟨congrArg (fun s : ByteArray => Ending.returned (Value.string s)) (strApp R U), HB3.out⟩
theorem padded10 (v : Nat) (h : v < 1000000) (w : World) (hT : fmtK.Tab w) : Calls Tryz.prog 32 #[.int .u64 (v : Nat), .int .i64 10, .int .i64 6] w fun e w' => e = .returned (.string ⟨(numN 10 6 v).toArray⟩) ∧ Below w.heap.size w w' := by
  obtain ⟨h1, h2⟩ := pad10 h
  have := padded_w 10 v 6 (Lib.decDigits v) w (dec_ascii v) h1 (by decide) (fmtK.fmt_any v (by omega) w hT)
  rw [h2] at this
  exact this
theorem padded16 (v n : Nat) (h : v < 16 ^ n) (hn : 1 ≤ n) (hn8 : n ≤ 8) (w : World) (hT : hexW.Tz w) : Calls Tryz.prog 32 #[.int .u64 (v : Nat), .int .i64 16, .int .i64 (n : Nat)] w fun e w' => e = .returned (.string ⟨(numN 16 n v).toArray⟩) ∧ Below w.heap.size w w' := by
  obtain ⟨h1, h2⟩ := pad16 h hn
  have hv : v < 18446744073709551616 := by
    have : 16 ^ n ≤ 16 ^ 8 := Nat.pow_le_pow_right (by decide) hn8
    have e : (16 : Nat) ^ 8 = 4294967296 := by decide
    omega
  have := padded_w 16 v n (hexs v) w (hexs_ascii v) h1 hn8 (hexW.fmt16_any v hv w hT)
  rw [h2] at this
  exact this
end dumpW
end Go.Proofs.YtbhhfdajaoemnaaGreatDoor
