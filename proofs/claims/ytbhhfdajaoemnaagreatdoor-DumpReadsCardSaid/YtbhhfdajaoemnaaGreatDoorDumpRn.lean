/- strings.IndexRune of a rune that is no ASCII, among the sixteen digits: none. No condition. -/
import Derived.Test.YtbhhfdajaoemnaaGreatDoorDumpNm
import Derived.Test.YtbhhfdajaoemnaaGreatDoorShelf4
import Derived.Laws.Runes
import Derived.RegionTactic
import Derived.Outline
import Derived.WalkMore
import Derived.Laws.Strings3
namespace Go.Proofs.YtbhhfdajaoemnaaGreatDoor
open Go.RowKit Go.Bus Go.Bus.dumpK Go.Bus.textK
set_option linter.unusedVariables false
set_option linter.unusedSimpArgs false
namespace dumpW
abbrev dgS : ByteArray := ⟨#[48, 49, 50, 51, 52, 53, 54, 55, 56, 57, 65, 66, 67, 68, 69, 70]⟩
theorem dg_ascii : ∀ b ∈ dgS.data.toList, b.toNat < 128 := by decide
theorem indexByte_no : ∀ (l : List UInt8) (c : UInt8), c ∉ l → Lib.indexByte l c = -1
  | [], _, _ => rfl
  | b :: l, c, h => by
    have h1 : (b == c) = false := by rw [beq_eq_false_iff_ne]; intro e; exact h (by rw [e]; exact List.mem_cons_self ..)
    rw [Lib.indexByte, h1, indexByte_no l c (fun e => h (List.mem_cons_of_mem _ e))]; rfl
theorem ixb_high (s : ByteArray) (c : Nat) (hs : ∀ b ∈ s.data.toList, b.toNat < 128) (h1 : 128 ≤ c) (h2 : c < 256) (w : World) : Calls Tryz.prog 133 #[.string s, .int .u8 (c : Nat)] w fun e w' => e = .returned (.int .i64 (-1)) ∧ w = w' := by
  refine (Tryz.strings_IndexByte s (c : Nat) w).mono ?_
  rintro e w' ⟨rfl, rfl⟩
  refine ⟨?_, rfl⟩
  rw [indexByte_no]
  intro hm
  have := hs _ hm
  have e : (((c : Nat) : Int).toNat.toUInt8).toNat = c := by
    rw [Int.toNat_natCast]
    show (UInt8.ofNat c).toNat = c
    rw [UInt8.toNat_ofNat']; omega
  omega
set_option maxRecDepth 100000 in
set_option maxHeartbeats 2000000 in
theorem ixr_bad (w : World) : Calls Tryz.prog 108 #[.string dgS, .int .i32 65533] w fun e w' => e = .returned (.int .i64 (-1)) ∧ Below w.heap.size w w' := by
  obtain ⟨SB, hSB⟩ : ∃ SB : ByteArray, SB = dgS := ⟨_, rfl⟩
  have hsz : SB.size = 16 := by rw [hSB]; rfl
  have HA : Hid (∀ pos (h : pos < SB.size), (SB[pos]'h).toNat < 128) := Lib.hid (by
    subst hSB
    intro pos h
    exact dg_ascii _ (Array.getElem_mem_toList (xs := dgS.data) h))
  rw [← hSB]
  clear hSB
  go_enter Tryz.func108, Tryz.ntmps108
  go_wp2
  go_loopw [] (fun wr => ∃ pos : Nat, wr.heap[w.heap.size]? = some (.stringIter SB pos) ∧ Below w.heap.size w wr) (fun wr => 16 - wr.iterPos w.heap.size)
  case atStart =>
    refine ⟨0, ?_, (Below.refl _ w).alloc (Nat.le_refl _) _⟩
    have := World.iter_heap w SB 0
    simpa using this
  case round =>
    obtain ⟨pos, hit, hbw⟩ := hrel
    have hk : w.heap.size < wr.heap.size := (Array.getElem?_eq_some_iff.1 hit).1
    by_cases hp : pos < SB.size
    · have ha := HA.out pos hp
      have hnx : ∀ ty, (Instr.next (.pointer (some ⟨w.heap.size, 0, none⟩)) true ty).run Tryz.prog wr = _ := fun ty => Lib.run_next_ascii_at wr w.heap.size SB pos ty hit hp ha
      have hit2 := Lib.iterAt_heap wr w.heap.size SB pos (pos + 1) hit
      have hbw2 := Lib.below_iterAt hbw (k := w.heap.size) (Nat.le_refl _) SB (pos + 1)
      obtain ⟨r, hr⟩ : ∃ r : Nat, (SB[pos]'hp).toNat = r := ⟨_, rfl⟩
      rw [hr] at hnx ha
      have e0 : ((r : Int) == 65533) = false := by simp; omega
      clear hr
      go_wp2
      go_roundw
      case rel => exact ⟨pos + 1, hit2, hbw2⟩
      case measure => rw [iterPos_of hit2, iterPos_of hit]; omega
    · have hnx : ∀ ty, (Instr.next (.pointer (some ⟨w.heap.size, 0, none⟩)) true ty).run Tryz.prog wr = _ := fun ty => Lib.run_next_end_at wr w.heap.size SB pos ty hit hp
      go_wp2
      go_ret
      exact ⟨rfl, hbw⟩
set_option maxRecDepth 100000 in
set_option maxHeartbeats 2000000 in
theorem ixr_high (r : Nat) (h1 : 128 ≤ r) (h2 : r ≤ 2147483647) (w : World) : Calls Tryz.prog 108 #[.string dgS, .int .i32 (r : Nat)] w fun e w' => e = .returned (.int .i64 (-1)) ∧ Below w.heap.size w w' := by
  by_cases hb : r = 65533
  · subst hb; exact ixr_bad w
  have e0 : ((r : Int) == 65533) = false := by simp; omega
  have d1 : decide ((r : Int) < 128) = false := by simp; omega
  have HV : Hid (∀ W, Calls Tryz.prog 134 #[.int .i32 (r : Nat)] W fun e w' => e = .returned (.bool (Lib.validRune (r : Nat))) ∧ w' = W) := Lib.hid (fun W => Tryz.utf8_ValidRune (r : Nat) W)
  cases hv : Lib.validRune (r : Nat) with
  | false =>
    rw [hv] at HV
    clear hb hv
    go_enter Tryz.func108, Tryz.ntmps108
    go_wp2_with (go_at_call 134; refine (HV.out _).mono ?_; rintro e w1 ⟨rfl, rfl⟩)
    go_ret
    exact ⟨rfl, Below.refl _ _⟩
  | true =>
    rw [hv] at HV
    obtain ⟨f1, f2, f3⟩ := encode_facts (r : Nat) ((validRune_eq _).trans hv) (by omega)
    obtain ⟨RS, hRS⟩ : ∃ RS, Utf8.encode ((r : Nat) : Int) = RS := ⟨_, rfl⟩
    rw [hRS] at f1 f2 f3
    have hcv : ∀ W, (convert 21 9 (.int .i32 (r : Nat))).run Tryz.prog W = .ok (.string RS) W := fun W => by rw [run_convert_int_string W _ _ _ _ (by kernel_rfl) Tryz.underlying9, hRS]
    clear hb hv
    obtain ⟨SB, hSB⟩ : ∃ SB : ByteArray, SB = dgS := ⟨_, rfl⟩
    have hsz : SB.size = 16 := by rw [hSB]; rfl
    have HA : Hid (∀ b ∈ SB.data.toList, b.toNat < 128) := Lib.hid (by rw [hSB]; exact dg_ascii)
    have hs1 : ((SB[1]'(by rw [hsz]; decide)).toNat : Int) = 49 := by subst hSB; rfl
    have hs2 : ((SB[2]'(by rw [hsz]; decide)).toNat : Int) = 50 := by subst hSB; rfl
    have hs3 : ((SB[3]'(by rw [hsz]; decide)).toNat : Int) = 51 := by subst hSB; rfl
    rw [← hSB]
    clear hSB
    have hn : RS.size = 2 ∨ RS.size = 3 ∨ RS.size = 4 := by omega
    rcases hn with hn | hn | hn
    all_goals
      have hlt : RS.size - 1 < RS.size := by omega
      have hlb := f3 hlt
      obtain ⟨c, hc⟩ : ∃ c : Nat, (RS[RS.size - 1]'hlt).toNat = c := ⟨_, rfl⟩
      have hc256 : c < 256 := by rw [← hc]; exact UInt8.toNat_lt _
      rw [hc] at hlb
    · have hg : ((RS[1]'(by rw [hn]; decide)).toNat : Int) = c := by rw [← hc]; simp only [hn]
      have e1 : ((49 : Int) != (c : Int)) = true := by simp; omega
      have e2 : ((49 : Int) == (c : Int)) = false := by simp; omega
      have hsl : ∀ W, (Instr.slice 9 (.string SB) (some (.int .i64 2)) none none).run Tryz.prog W = .ok (.string (SB.extract 2 16)) W := fun W => by
        rw [run_slice_string_from_if _ _ _ _ _ Tryz.underlying9, if_pos ⟨by omega, by rw [hsz]; omega⟩, hsz]; rfl
      have hw : IntKind.i64.wrap 2 = 2 := by decide
      clear f1 f2 f3 hc hlt
      go_enter Tryz.func108, Tryz.ntmps108
      go_wp2_with (go_at_call 134; refine (HV.out _).mono ?_; rintro e w1 ⟨rfl, rfl⟩)
      go_step3
      go_wp2
      go_loop [9] (fun i => i = .int .i64 1) (fun i => 0)
      case atStart => exact rfl
      case round =>
        obtain rfl := hrel
        go_wp2
        go_step3
        go_wp2_with fail
        go_region
        all_goals go_wp2_with fail
        all_goals go_region_law (go_simp; go_at_call 133; refine (ixb_high _ c (fun b hb => HA.out b (mem_extract hb)) hlb hc256 _).mono ?_; rintro e w2 ⟨rfl, rfl⟩)
        all_goals go_wp2
        all_goals change bodyPost Tryz.prog Tryz.f108 (fun e w' => e = .returned (.int .i64 (-1)) ∧ Below w1.heap.size w1 w') Exit.ret _ _
        all_goals go_ret
        all_goals exact ⟨rfl, (by repeat' (first | (with_reducible assumption) | (with_reducible refine Below.setCell ?_ ?_ _) | (with_reducible refine Below.alloc ?_ ?_ _) | (with_reducible refine Below.drew ?_) | (with_reducible refine below_drewN ?_ _) | (with_reducible exact Below.refl _ _) | (show _ ≤ _; (try simp); (try omega); done) | exact Below.refl _ _ | assumption))⟩
    · have hg : ((RS[2]'(by rw [hn]; decide)).toNat : Int) = c := by rw [← hc]; simp only [hn]
      have e1 : ((50 : Int) != (c : Int)) = true := by simp; omega
      have e2 : ((50 : Int) == (c : Int)) = false := by simp; omega
      have hsl : ∀ W, (Instr.slice 9 (.string SB) (some (.int .i64 3)) none none).run Tryz.prog W = .ok (.string (SB.extract 3 16)) W := fun W => by
        rw [run_slice_string_from_if _ _ _ _ _ Tryz.underlying9, if_pos ⟨by omega, by rw [hsz]; omega⟩, hsz]; rfl
      have hw : IntKind.i64.wrap 3 = 3 := by decide
      clear f1 f2 f3 hc hlt
      go_enter Tryz.func108, Tryz.ntmps108
      go_wp2_with (go_at_call 134; refine (HV.out _).mono ?_; rintro e w1 ⟨rfl, rfl⟩)
      go_step3
      go_wp2
      go_loop [9] (fun i => i = .int .i64 2) (fun i => 0)
      case atStart => exact rfl
      case round =>
        obtain rfl := hrel
        go_wp2
        go_step3
        go_wp2_with fail
        go_region
        all_goals go_wp2_with fail
        all_goals go_region_law (go_simp; go_at_call 133; refine (ixb_high _ c (fun b hb => HA.out b (mem_extract hb)) hlb hc256 _).mono ?_; rintro e w2 ⟨rfl, rfl⟩)
        all_goals go_wp2
        all_goals change bodyPost Tryz.prog Tryz.f108 (fun e w' => e = .returned (.int .i64 (-1)) ∧ Below w1.heap.size w1 w') Exit.ret _ _
        all_goals go_ret
        all_goals exact ⟨rfl, (by repeat' (first | (with_reducible assumption) | (with_reducible refine Below.setCell ?_ ?_ _) | (with_reducible refine Below.alloc ?_ ?_ _) | (with_reducible refine Below.drew ?_) | (with_reducible refine below_drewN ?_ _) | (with_reducible exact Below.refl _ _) | (show _ ≤ _; (try simp); (try omega); done) | exact Below.refl _ _ | assumption))⟩
    · have hg : ((RS[3]'(by rw [hn]; decide)).toNat : Int) = c := by rw [← hc]; simp only [hn]
      have e1 : ((51 : Int) != (c : Int)) = true := by simp; omega
      have e2 : ((51 : Int) == (c : Int)) = false := by simp; omega
      have hsl : ∀ W, (Instr.slice 9 (.string SB) (some (.int .i64 4)) none none).run Tryz.prog W = .ok (.string (SB.extract 4 16)) W := fun W => by
        rw [run_slice_string_from_if _ _ _ _ _ Tryz.underlying9, if_pos ⟨by omega, by rw [hsz]; omega⟩, hsz]; rfl
      have hw : IntKind.i64.wrap 4 = 4 := by decide
      clear f1 f2 f3 hc hlt
      go_enter Tryz.func108, Tryz.ntmps108
      go_wp2_with (go_at_call 134; refine (HV.out _).mono ?_; rintro e w1 ⟨rfl, rfl⟩)
      go_step3
      go_wp2
      go_loop [9] (fun i => i = .int .i64 3) (fun i => 0)
      case atStart => exact rfl
      case round =>
        obtain rfl := hrel
        go_wp2
        go_step3
        go_wp2_with fail
        go_region
        all_goals go_wp2_with fail
        all_goals go_region_law (go_simp; go_at_call 133; refine (ixb_high _ c (fun b hb => HA.out b (mem_extract hb)) hlb hc256 _).mono ?_; rintro e w2 ⟨rfl, rfl⟩)
        all_goals go_wp2
        all_goals change bodyPost Tryz.prog Tryz.f108 (fun e w' => e = .returned (.int .i64 (-1)) ∧ Below w1.heap.size w1 w') Exit.ret _ _
        all_goals go_ret
        all_goals exact ⟨rfl, (by repeat' (first | (with_reducible assumption) | (with_reducible refine Below.setCell ?_ ?_ _) | (with_reducible refine Below.alloc ?_ ?_ _) | (with_reducible refine Below.drew ?_) | (with_reducible refine below_drewN ?_ _) | (with_reducible exact Below.refl _ _) | (show _ ≤ _; (try simp); (try omega); done) | exact Below.refl _ _ | assumption))⟩
end dumpW
end Go.Proofs.YtbhhfdajaoemnaaGreatDoor
