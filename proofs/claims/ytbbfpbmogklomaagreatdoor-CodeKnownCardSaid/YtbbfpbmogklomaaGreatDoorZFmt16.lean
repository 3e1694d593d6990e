/- FormatUint to the base 16. Condition: the table of bits.TrailingZeros64 is laid. -/
import Derived.Test.YtbbfpbmogklomaaGreatDoorZKc
import Derived.Test.YtbbfpbmogklomaaGreatDoorZK0
import Derived.Test.YtbbfpbmogklomaaGreatDoorProg
import Derived.Lib.LaidTab
import Derived.Laws.BytesArg
import Derived.Deep.MidRow
import Derived.WalkSpells
import Derived.WalkLawsBesides
namespace Go.Proofs.YtbbfpbmogklomaaGreatDoor
open Go.RowKit Go.Bus Go.Bus.hexK
set_option linter.unusedVariables false
set_option linter.unusedSimpArgs false
namespace hexW
/-- One cell of the table of bits.TrailingZeros64. -/
def Tz (w : World) : Prop := w.cell? ⟨10, 15, none⟩ = some (.int .u8 4)
theorem Tz.lt {w : World} (h : Tz w) : 10 < w.heap.size := World.block_lt_of_cell? w _ h
theorem Tz.at_below {w w' : World} (h : Tz w) (hb : Below w.heap.size w w') : Tz w' := (hb.cell (p := ⟨10, 15, none⟩) h.lt).trans h
set_option maxRecDepth 100000 in
set_option maxHeartbeats 1000000 in
theorem tz64 (w : World) (h : Tz w) : Calls Tryz.prog 164 #[.int .u64 16] w fun e w' => e = .returned (.int .i64 4) ∧ w = w' := by
  have hc : w.cell? ⟨10, 15, none⟩ = some (.int .u8 4) := h
  have hz := h.lt
  clear h
  have e0 : bits BinOp.and IntKind.u64 16 (IntKind.u64.wrap (-16)) = 16 := by decide +kernel
  go_enter Tryz.func164, Tryz.ntmps164
  go_wp2
  go_ret
  exact ⟨rfl, rfl⟩
set_option maxRecDepth 100000 in
set_option maxHeartbeats 1000000 in
theorem tz_any (w : World) (h : Tz w) : Calls Tryz.prog 157 #[.int .u64 16] w fun e w' => e = .returned (.int .i64 4) ∧ w = w' := by
  have H := Lib.hid (tz64 w h)
  clear h
  go_enter Tryz.func157, Tryz.ntmps157
  go_wp2_with (go_at_call 164; refine H.out.mono ?_; rintro e w1 ⟨rfl, rfl⟩)
  go_ret
  exact ⟨rfl, rfl⟩
set_option maxRecDepth 100000 in
set_option maxHeartbeats 1000000 in
theorem pow2_any (w : World) : Calls Tryz.prog 156 #[.int .i64 16] w fun e w' => e = .returned (.bool true) ∧ w = w' := by
  have e0 : bits BinOp.and IntKind.i64 16 15 = 0 := by decide +kernel
  go_enter Tryz.func156, Tryz.ntmps156
  go_wp2
  go_ret
  exact ⟨rfl, rfl⟩
abbrev dig36 : ByteArray := ⟨#[48, 49, 50, 51, 52, 53, 54, 55, 56, 57, 97, 98, 99, 100, 101, 102, 103, 104, 105, 106, 107, 108, 109, 110, 111, 112, 113, 114, 115, 116, 117, 118, 119, 120, 121, 122]⟩
theorem dig_at (d : Nat) (h : d < 16) (h' : d < dig36.size) : dig36[d]'h' = hexd d := by
  have key : ∀ d : Fin 16, dig36.data[d.val]? = some (hexd d.val) := by decide
  have := key ⟨d, h⟩
  exact (Array.getElem?_eq_some_iff.1 this).2
theorem and15 {u : Nat} (h : u < 18446744073709551616) : bits BinOp.and IntKind.u64 (u : Int) 15 = ((u % 16 : Nat) : Int) := by
  have h1 := bits_and_u64_nat u 15 h (by decide)
  rw [show ((15 : Nat) : Int) = 15 from rfl] at h1
  rw [h1, show (15 : Nat) = 2 ^ 4 - 1 from rfl, Nat.and_two_pow_sub_one_eq_mod]
def z8 : Value := .int .u8 0
abbrev b8 (c : UInt8) : Value := .int .u8 (c.toNat : Nat)
set_option maxRecDepth 100000 in
set_option maxHeartbeats 2000000 in
theorem fbits_any (m : Nat) (hm : m < 18446744073709551616) (w : World) (h : Tz w) : Calls Tryz.prog 145 #[.slice none 0 0, .int .u64 (m : Nat), .int .i64 16, .bool false, .bool false] w fun e w' => e = .returned (.tuple #[.slice none 0 0, .string ⟨(hexs m).toArray⟩]) ∧ Below w.heap.size w w' := by
  have HT := Lib.hid (fun (W : World) (hb : Below w.heap.size w W) => tz_any W (h.at_below hb))
  clear h
  obtain ⟨T, hT⟩ : ∃ T, T = hexs m := ⟨_, rfl⟩
  rw [← hT]
  have HTE := Lib.hid hT
  clear hT
  go_enter Tryz.func145, Tryz.ntmps145
  go_wp2_with (first
    | (go_at_call 156; refine (pow2_any _).mono ?_; rintro e w1 ⟨rfl, rfl⟩)
    | (go_at_call 157; refine (HT.out _ (by exact (by repeat' (first | (with_reducible assumption) | (with_reducible refine Below.setCell ?_ ?_ _) | (with_reducible refine Below.alloc ?_ ?_ _) | (with_reducible refine Below.drew ?_) | (with_reducible refine below_drewN ?_ _) | (with_reducible exact Below.refl _ _) | (show _ ≤ _; (try simp); (try omega); done) | exact Below.refl _ _ | assumption)))).mono ?_; rintro e w1 ⟨rfl, rfl⟩))
  obtain ⟨cs0, hcs0, hz0⟩ : ∃ cs : Array Value, Has (w.alloc (.cells Tryz.zeroCells212 212)) w.heap.size 212 cs ∧ cs.size = 65 := ⟨_, Has.new w _ _, by kernel_rfl⟩
  have HC0 := Lib.hid hcs0
  have HTL : Hid (T.length ≤ 16) := Lib.hid (by rw [HTE.out]; exact hexs_len (k := 16) hm (by decide))
  clear hcs0
  go_loopw [1, 13] (fun uv iv wr => ∃ (u n : Nat) (rest : List UInt8) (cs : Array Value), uv = .int .u64 (u : Nat) ∧ u < 18446744073709551616 ∧ iv = .int .i64 (n : Nat) ∧ n + rest.length = 65 ∧ Hid (hexs u ++ rest = T) ∧ Hid (Has wr w.heap.size 212 cs) ∧ cs.size = 65 ∧ Hid (cs.toList.drop n = rest.map b8) ∧ Hid (Below w.heap.size w wr)) (fun uv _ _ => (intOf uv).toNat)
  case atStart => exact ⟨m, 65, [], cs0, rfl, hm, rfl, rfl, Lib.hid (by rw [List.append_nil, HTE.out]), HC0, hz0, Lib.hid (List.drop_of_length_le (by rw [Array.length_toList, hz0]; exact Nat.le_refl _)), Lib.hid ((Below.refl _ _).alloc (Nat.le_refl _) _)⟩
  case round =>
    obtain ⟨u, n, rest, cs, rfl, hu, rfl, hn, HE, HC, hsz, HD, HB⟩ := hrel
    clear HC0
    have hpos := hexs_pos u
    have hlen : (hexs u).length + rest.length ≤ 16 := by have h := HTL.out; rw [← HE.out, List.length_append] at h; exact h
    have hn1 : 1 ≤ n := by omega
    have hn2 : n ≤ 65 := by omega
    have zA : w.heap.size < wr.heap.size := HC.out.lt
    obtain ⟨v, hv⟩ : ∃ v, cs[n - 1]? = some v := ⟨_, Array.getElem?_eq_getElem (by omega)⟩
    have hc : wr.cell? ⟨w.heap.size, n - 1, none⟩ = some v := (HC.out.cell (n - 1)).trans hv
    have hf : wr.frozen? ⟨w.heap.size, n - 1, none⟩ = false := HC.out.frozen (n - 1)
    have t1 : ((n : Int) - 1).toNat = n - 1 := by omega
    clear hv
    have hst : ∀ x : Value, ((cs.setIfInBounds (n - 1) x).toList.drop (n - 1)) = x :: rest.map b8 := fun x => by
      rw [Array.toList_setIfInBounds, List.drop_eq_getElem_cons (by rw [List.length_set, Array.length_toList]; omega), List.getElem_set_self, List.drop_set_of_lt (by omega), show n - 1 + 1 = n from by omega, HD.out]
    have HST := Lib.hid hst
    clear hst
    by_cases hlt : u < 16
    · have dlt : decide ((16 : Int) ≤ (u : Int)) = false := by simp; omega
      have hu36 : u < 36 := by omega
      have hdz : u < dig36.size := hu36
      have HV : Hid (b8 (dig36[u]'hdz) = b8 (hexd u)) := Lib.hid (by rw [dig_at u hlt hdz])
      have HTT : Hid (T = hexd u :: rest) := Lib.hid (by rw [← HE.out, hexs_lt hlt]; rfl)
      have hTl : 65 - (n - 1) = T.length := by rw [HTT.out, List.length_cons]; omega
      have hsl : ∀ W, (Instr.sliceAt 212 (.pointer (some ⟨w.heap.size, 0, none⟩)) (some (.int .i64 ((n : Int) - 1))) none none).run Tryz.prog W = .ok (.slice (some ⟨w.heap.size, n - 1, none⟩) T.length T.length) W := fun W => by
        rw [run_sliceAt_array_l W 212 ⟨w.heap.size, 0, none⟩ (by kernel_rfl) .i64 ((n : Int) - 1) (by omega) (by rw [show Tryz.prog.arrayLen 212 = 65 from by kernel_rfl]; omega)]
        rw [show Tryz.prog.arrayLen 212 = 65 from by kernel_rfl, show (sizeOf (Tryz.prog.elem 212)).run Tryz.prog W = .ok 1 W from by kernel_rfl, t1]
        simp only [Result.andThen, slicedAt]
        rw [if_neg (by omega), hTl, Nat.mul_one]
        have : (⟨w.heap.size, 0, none⟩ : Addr).add (n - 1) = ⟨w.heap.size, n - 1, none⟩ := by rw [Addr.add_mid, Nat.zero_add]
        rw [this]
      have hcv : ∀ (W : World), Has W w.heap.size 212 (cs.setIfInBounds (n - 1) (b8 (dig36[u]'hdz))) → (convert 28 9 (.slice (some ⟨w.heap.size, n - 1, none⟩) T.length T.length)).run Tryz.prog W = .ok (.string ⟨T.toArray⟩) W := fun W hW =>
        run_convert_bytes_back (P := Tryz.prog) W 28 9 5 ⟨w.heap.size, n - 1, none⟩ T.length T Tryz.underlying28 Tryz.underlying5 Tryz.underlying9 (fun j hj => by
          rw [Addr.add_mid, hW.cell (n - 1 + j), ← Array.getElem?_toList, ← List.getElem?_drop, HST.out, HV.out]
          have h2 : (b8 (hexd u) :: rest.map b8) = T.map b8 := by rw [HTT.out]; rfl
          rw [h2, List.getElem?_map, List.getElem?_eq_getElem hj]; rfl)
      have HCV := Lib.hid (hcv _ (HC.out.set (n - 1) (b8 (dig36[u]'hdz))))
      have hcv2 : (convert 28 9 (.slice (some ⟨w.heap.size, n - 1, none⟩) T.length T.length)).run Tryz.prog (wr.setCell ⟨w.heap.size, n - 1, none⟩ (.int .u8 (((⟨#[48, 49, 50, 51, 52, 53, 54, 55, 56, 57, 97, 98, 99, 100, 101, 102, 103, 104, 105, 106, 107, 108, 109, 110, 111, 112, 113, 114, 115, 116, 117, 118, 119, 120, 121, 122]⟩ : ByteArray)[u]'hdz).toNat : Nat))) = .ok (.string ⟨T.toArray⟩) (wr.setCell ⟨w.heap.size, n - 1, none⟩ (.int .u8 (((⟨#[48, 49, 50, 51, 52, 53, 54, 55, 56, 57, 97, 98, 99, 100, 101, 102, 103, 104, 105, 106, 107, 108, 109, 110, 111, 112, 113, 114, 115, 116, 117, 118, 119, 120, 121, 122]⟩ : ByteArray)[u]'hdz).toNat : Nat))) := HCV.out
      clear hcv
      go_wp2
      go_ret2
      exact ⟨rfl, by have := HB.out; exact (by repeat' (first | (with_reducible assumption) | (with_reducible refine Below.setCell ?_ ?_ _) | (with_reducible refine Below.alloc ?_ ?_ _) | (with_reducible refine Below.drew ?_) | (with_reducible refine below_drewN ?_ _) | (with_reducible exact Below.refl _ _) | (show _ ≤ _; (try simp); (try omega); done) | exact Below.refl _ _ | assumption))⟩
    · have dlt : decide ((16 : Int) ≤ (u : Int)) = true := by simp; omega
      have e15 : bits BinOp.and IntKind.u64 (u : Int) 15 = ((u % 16 : Nat) : Int) := and15 hu
      have hd16 : u % 16 < 16 := by omega
      have hd36 : u % 16 < 36 := by omega
      have hdz : u % 16 < dig36.size := hd36
      have HV : Hid (b8 (dig36[u % 16]'hdz) = b8 (hexd (u % 16))) := Lib.hid (by rw [dig_at _ hd16 hdz])
      have HEN : Hid (hexs (u / 16) ++ (hexd (u % 16) :: rest) = T) := Lib.hid (by rw [← HE.out, hexs_ge hlt, List.append_assoc]; rfl)
      go_wp2
      go_roundw
      case rel => exact ⟨u / 16, n - 1, hexd (u % 16) :: rest, cs.setIfInBounds (n - 1) (b8 (dig36[u % 16]'hdz)), by first | rfl | go_num, by omega, by first | rfl | go_num | (congr 1; omega), by simp; omega, HEN, Lib.hid (by exact HC.out.set (n - 1) _), by simp [hsz], Lib.hid (by rw [HST.out, HV.out]; rfl), Lib.hid (by have := HB.out; exact (by repeat' (first | (with_reducible assumption) | (with_reducible refine Below.setCell ?_ ?_ _) | (with_reducible refine Below.alloc ?_ ?_ _) | (with_reducible refine Below.drew ?_) | (with_reducible refine below_drewN ?_ _) | (with_reducible exact Below.refl _ _) | (show _ ≤ _; (try simp); (try omega); done) | exact Below.refl _ _ | assumption)))⟩
      case measure => simp [intOf]; omega
set_option maxRecDepth 100000 in
set_option maxHeartbeats 1000000 in
theorem ifmt16_any (m : Nat) (hm : m < 18446744073709551616) (w : World) (h : Tz w) : Calls Tryz.prog 122 #[.int .u64 (m : Nat), .int .i64 16] w fun e w' => e = .returned (.string ⟨(hexs m).toArray⟩) ∧ Below w.heap.size w w' := by
  have H := Lib.hid (fun (W : World) (hb : Below w.heap.size w W) => fbits_any m hm W (h.at_below hb))
  clear h
  go_enter Tryz.func122, Tryz.ntmps122
  go_wp2_with (go_at_call 145; refine (H.out _ (by exact (by repeat' (first | (with_reducible assumption) | (with_reducible refine Below.setCell ?_ ?_ _) | (with_reducible refine Below.alloc ?_ ?_ _) | (with_reducible refine Below.drew ?_) | (with_reducible refine below_drewN ?_ _) | (with_reducible exact Below.refl _ _) | (show _ ≤ _; (try simp); (try omega); done) | exact Below.refl _ _ | assumption)))).mono ?_; rintro e w1 ⟨rfl, hb⟩; have HB := Lib.hid hb; clear hb)
  go_ret
  exact ⟨rfl, HB.out⟩
set_option maxRecDepth 100000 in
set_option maxHeartbeats 1000000 in
theorem fmt16_any (m : Nat) (hm : m < 18446744073709551616) (w : World) (h : Tz w) : Calls Tryz.prog 98 #[.int .u64 (m : Nat), .int .i64 16] w fun e w' => e = .returned (.string ⟨(hexs m).toArray⟩) ∧ Below w.heap.size w w' := by
  have H := Lib.hid (ifmt16_any m hm w h)
  clear h
  go_enter Tryz.func98, Tryz.ntmps98
  go_wp2_with (go_at_call 122; refine H.out.mono ?_; rintro e w1 ⟨rfl, hb⟩; have HB := Lib.hid hb; clear hb)
  go_ret
  exact ⟨rfl, HB.out⟩
end hexW
end Go.Proofs.YtbbfpbmogklomaaGreatDoor
