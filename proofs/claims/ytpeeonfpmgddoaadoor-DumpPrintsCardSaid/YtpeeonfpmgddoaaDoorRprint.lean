/- busbarref10.Print of any number. Condition: the number's bounds. -/
import Derived.Test.YtpeeonfpmgddoaaDoorBase
import Derived.Test.YtpeeonfpmgddoaaDoorTextLaw
import Derived.Test.YtpeeonfpmgddoaaDoorProg
import Derived.WalkSpells
import Derived.WalkLawsBesides
namespace Go.Proofs.YtpeeonfpmgddoaaDoor
open Go.RowKit Go.Bus Go.Bus.textK
set_option linter.unusedVariables false
namespace rprK
set_option maxRecDepth 100000 in
set_option maxHeartbeats 1000000 in
theorem rnumber_plain (v : Int) (s : Bool) (w : World) (hv : 0 ≤ v) (hv' : v < 18446744073709551616) (h : (s && decide (9223372036854775808 ≤ v)) = false) :
    Calls Tryd.prog 34 #[.int .u64 v, .bool s] w fun e w' => e = .returned (.tuple #[.bool false, .int .u64 v]) ∧ w = w' := by
  cases s
  · go_enter Tryd.func34, Tryd.ntmps34
    go_wp2
    go_ret2
    exact ⟨rfl, rfl⟩
  · have h' : v < 9223372036854775808 := by simpa using h
    clear h
    have d : (v / 9223372036854775808 == 1) = false := by simp; omega
    clear h'
    go_enter Tryd.func34, Tryd.ntmps34
    go_wp2
    go_ret2
    exact ⟨rfl, rfl⟩

set_option maxRecDepth 100000 in
set_option maxHeartbeats 1000000 in
theorem rnumber_neg (v : Int) (w : World) (hv : 9223372036854775808 ≤ v) (hv' : v < 18446744073709551616) :
    Calls Tryd.prog 34 #[.int .u64 v, .bool true] w fun e w' => e = .returned (.tuple #[.bool true, .int .u64 (18446744073709551616 - v)]) ∧ w = w' := by
  have d : (v / 9223372036854775808 == 1) = true := by simp; omega
  have hw : IntKind.u64.wrap (-v) = 18446744073709551616 - v := by rw [IntKind.wrap_u64]; omega
  have h0 : 0 ≤ v := by omega
  go_enter Tryd.func34, Tryd.ntmps34
  go_wp2
  go_ret2
  exact ⟨rfl, rfl⟩

theorem conv_dgt (m : Nat) (wr : World) : (convert 24 9 (.slice (some ⟨wr.heap.size, 0, none⟩) 1 1)).run Tryd.prog (wr.alloc (.cells #[.int .u8 (48 + (m : Int) % 10)] 5)) = .ok (.string ⟨[dgt m].toArray⟩) (wr.alloc (.cells #[.int .u8 (48 + (m : Int) % 10)] 5)) :=
  run_convert_bytes_back (P := Tryd.prog) (wr.alloc (.cells #[.int .u8 (48 + (m : Int) % 10)] 5)) 24 9 5 ⟨wr.heap.size, 0, none⟩ 1 [dgt m] Tryd.underlying24 Tryd.underlying5 Tryd.underlying9
    (fun j hj => by
      obtain rfl : j = 0 := by simpa using hj
      simp [dgt_toNat, Addr.add])

theorem str_cons (c : UInt8) (t : List UInt8) : (⟨#[c]⟩ : ByteArray) ++ ⟨t.toArray⟩ = ⟨(c :: t).toArray⟩ := by
  apply ByteArray.ext
  simp

set_option maxRecDepth 100000 in
set_option maxHeartbeats 1000000 in
theorem rprint_any (v : Int) (s : Bool) (w : World) (hv : 0 ≤ v) (hv' : v < 18446744073709551616) :
    Calls Tryd.prog 19 #[.int .u64 v, .bool s] w fun e w' => e = .returned (.string ⟨(prt v s).toArray⟩) ∧ Below w.heap.size w w' := by
  obtain ⟨b, u, hN, hfin, hu64⟩ : ∃ (b : Bool) (u : Nat), (∀ W, Calls Tryd.prog 34 #[.int .u64 v, .bool s] W fun e w' => e = .returned (.tuple #[.bool b, .int .u64 (u : Int)]) ∧ W = w') ∧ prt v s = (if b then 45 :: Lib.decDigits u else Lib.decDigits u) ∧ u < 18446744073709551616 := by
    obtain ⟨n, rfl⟩ := Int.eq_ofNat_of_zero_le hv
    cases s
    · exact ⟨false, n, fun W => rnumber_plain _ _ _ hv hv' rfl, by simp [prt], by omega⟩
    · by_cases h : 9223372036854775808 ≤ n
      · refine ⟨true, 18446744073709551616 - n, fun W => ?_, ?_, by omega⟩
        · have := rnumber_neg (n : Int) W (by omega) hv'
          rw [show ((18446744073709551616 - n : Nat) : Int) = 18446744073709551616 - (n : Int) by omega]
          exact this
        · simp only [prt, if_true]
          rw [i64_wrap _ hv hv', if_neg (by omega), Lib.itoa, if_pos (by omega)]
          congr 2; omega
      · refine ⟨false, n, fun W => rnumber_plain _ _ _ hv hv' (by simp; omega), ?_, by omega⟩
        simp only [prt, if_true, Bool.false_eq_true, if_false]
        rw [i64_wrap _ hv hv', if_pos (by omega), Lib.itoa, if_neg (by omega)]
        congr 1
  have HF := Lib.hid hfin; clear hfin
  have HN := Lib.hid hN; clear hN
  go_enter Tryd.func19, Tryd.ntmps19
  go_wp2_with fail
  refine (HN.out _).mono ?_
  rintro e w1 ⟨rfl, rfl⟩
  go_wp2
  go_loopw [6, 7, 8] (fun n st i wr => ∃ (k m : Nat) (t : List UInt8), Tel u k m t ∧ k ≤ 20 ∧ m ≤ u ∧ i = .int .i64 k ∧ n = .int .u64 m ∧ st = .string ⟨t.toArray⟩ ∧ Below w.heap.size w wr) (fun _ _ i _ => 20 - (intOf i).toNat)
  case atStart => exact ⟨0, u, [], Tel.start (by omega), by omega, Nat.le_refl _, rfl, rfl, rfl, Below.refl _ _⟩
  case round =>
    obtain ⟨k, m, t, hT, hk, hmu, rfl, rfl, rfl, hB⟩ := hrel
    have hm64 : m < 18446744073709551616 := by omega
    have hcv := conv_dgt m wr
    have hBA : Below w.heap.size w (wr.alloc (.cells #[.int .u8 (48 + (m : Int) % 10)] 5)) := hB.alloc hB.size _
    have hlen : t.length = k := hT.1
    have HLEN := Lib.hid hlen
    have hsz : (9223372036854775807 < 1 + t.length) = False := by simp; omega
    have HB := Lib.hid hB; have HBA := Lib.hid hBA; clear hB hBA hlen
    by_cases hlt : k < 20
    · by_cases hm : 0 < m
      · have HN := Lib.hid (hT.step hlt (.inl hm))
        clear hT
        go_wp2
        go_roundw
        case rel => exact ⟨k + 1, m / 10, dgt m :: t, HN.out, by omega, by omega, by go_num, by go_num, congrArg Value.string (str_cons _ _), HBA.out⟩
        case measure => first | (simp [intOf]; done) | (simp [intOf]; omega)
      · by_cases hk0 : k = 0
        · have HN := Lib.hid (hT.step hlt (.inr hk0))
          have d1 : decide (0 < m) = false := by simpa using hm
          have d2 : ((k : Int) == 0) = true := by simp [hk0]
          clear hm hk0
          clear hT
          go_wp2
          go_roundw
          case rel => exact ⟨k + 1, m / 10, dgt m :: t, HN.out, by omega, by omega, by go_num, by go_num, congrArg Value.string (str_cons _ _), HBA.out⟩
          case measure => first | (simp [intOf]; done) | (simp [intOf]; omega)
        · have HD := Lib.hid (hT.done (.inr ⟨by omega, by omega⟩))
          have d1 : decide (0 < m) = false := by simpa using hm
          have d2 : ((k : Int) == 0) = false := by simp; omega
          clear hm hk0 hT
          cases b
          · go_wp2
            go_ret
            exact ⟨by rw [HF.out, HD.out]; rfl, HB.out⟩
          · go_wp2
            go_ret
            exact ⟨by rw [HF.out, HD.out]; exact congrArg (fun z => Ending.returned (Value.string z)) (str_cons _ _), HB.out⟩
    · have HD := Lib.hid (hT.done (.inl (by omega)))
      clear hT
      cases b
      · go_wp2
        go_ret
        exact ⟨by rw [HF.out, HD.out]; rfl, HB.out⟩
      · go_wp2
        go_ret
        exact ⟨by rw [HF.out, HD.out]; exact congrArg (fun z => Ending.returned (Value.string z)) (str_cons _ _), HB.out⟩

end rprK
end Go.Proofs.YtpeeonfpmgddoaaDoor
