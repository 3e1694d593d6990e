/- Walks of raw.Print, the document's Print, FormatUint. Condition: the table of powers of ten is laid. -/
import Derived.Test.YtfigkgpolpggcaaDoorBase
import Derived.Test.YtfigkgpolpggcaaDoorTextLaw
import Derived.Test.YtfigkgpolpggcaaDoorShelf
import Derived.Test.YtfigkgpolpggcaaDoorLaid
import Derived.Test.YtfigkgpolpggcaaDoorRawLow
import Derived.WalkSpells
import Derived.WalkLawsBesides
namespace Go.Proofs.YtfigkgpolpggcaaDoor
open Go.RowKit Go.Bus Go.Bus.rawK Go.Bus.textK
set_option linter.unusedVariables false
namespace rawP
/-- The table of powers of ten, as it is laid. -/
def Tab (w : World) : Prop := Lib.TabIs Tryd.prog w "internal/strconv.uint64pow10" .u64 Lib.pow10Tab
theorem gT : Tryd.prog.globalNamed "internal/strconv.uint64pow10" = some 1 := laidK.gT
theorem Tab.lt {w : World} (h : Tab w) : 1 < w.heap.size := World.block_lt_of_cell? w ⟨1, 0, none⟩ (h.cell gT 0 (by rw [Lib.pow10Tab_length]; omega))
theorem Tab.at_below {w w' : World} (h : Tab w) (hb : Below w.heap.size w w') : Tab w' :=
  laidK.var_below h hb (fun g hg => by rw [gT] at hg; obtain rfl := Option.some.inj hg; exact h.lt)

theorem grow_below0 (w : World) (os : Array Obj) : Below w.heap.size w (Go.Sort.grow w os) :=
  ⟨rfl, rfl, rfl, by show w.heap.size ≤ (w.heap ++ os).size; simp, fun b hb => by show (w.heap ++ os)[b]? = w.heap[b]?; exact Array.getElem?_append_left hb⟩
theorem grow_below (w : World) (k : Nat) (os : Array Obj) : Below w.heap.size w (Go.Sort.grow (w.drewN k) os) :=
  ⟨rfl, rfl, rfl, by show w.heap.size ≤ (w.heap ++ os).size; simp, fun b hb => by show (w.heap ++ os)[b]? = w.heap[b]?; exact Array.getElem?_append_left hb⟩

set_option maxRecDepth 100000 in
set_option maxHeartbeats 1000000 in
theorem rnumber_plain (v : Int) (s : Bool) (w : World) (hv : 0 ≤ v) (hv' : v < 18446744073709551616) (h : (s && decide (9223372036854775808 ≤ v)) = false) :
    Calls Tryd.prog 57 #[.int .u64 v, .bool s] w fun e w' => e = .returned (.tuple #[.bool false, .int .u64 v]) ∧ w = w' := by
  cases s
  · go_enter Tryd.func57, Tryd.ntmps57
    go_wp2
    go_ret2
    exact ⟨rfl, rfl⟩
  · have h' : v < 9223372036854775808 := by simpa using h
    clear h
    have d : (v / 9223372036854775808 == 1) = false := by simp; omega
    clear h'
    go_enter Tryd.func57, Tryd.ntmps57
    go_wp2
    go_ret2
    exact ⟨rfl, rfl⟩

set_option maxRecDepth 100000 in
set_option maxHeartbeats 1000000 in
theorem rnumber_neg (v : Int) (w : World) (hv : 9223372036854775808 ≤ v) (hv' : v < 18446744073709551616) :
    Calls Tryd.prog 57 #[.int .u64 v, .bool true] w fun e w' => e = .returned (.tuple #[.bool true, .int .u64 (18446744073709551616 - v)]) ∧ w = w' := by
  have d : (v / 9223372036854775808 == 1) = true := by simp; omega
  have hw : IntKind.u64.wrap (-v) = 18446744073709551616 - v := by rw [IntKind.wrap_u64]; omega
  have h0 : 0 ≤ v := by omega
  go_enter Tryd.func57, Tryd.ntmps57
  go_wp2
  go_ret2
  exact ⟨rfl, rfl⟩

theorem conv_dgt (m : Nat) (wr : World) : (convert 59 9 (.slice (some ⟨wr.heap.size, 0, none⟩) 1 1)).run Tryd.prog (wr.alloc (.cells #[.int .u8 (48 + (m : Int) % 10)] 5)) = .ok (.string ⟨[dgt m].toArray⟩) (wr.alloc (.cells #[.int .u8 (48 + (m : Int) % 10)] 5)) :=
  run_convert_bytes_back (P := Tryd.prog) (wr.alloc (.cells #[.int .u8 (48 + (m : Int) % 10)] 5)) 59 9 5 ⟨wr.heap.size, 0, none⟩ 1 [dgt m] Tryd.underlying59 Tryd.underlying5 Tryd.underlying9
    (fun j hj => by
      obtain rfl : j = 0 := by simpa using hj
      simp [dgt_toNat, Addr.add])

theorem str_cons (c : UInt8) (t : List UInt8) : (⟨#[c]⟩ : ByteArray) ++ ⟨t.toArray⟩ = ⟨(c :: t).toArray⟩ := by
  apply ByteArray.ext
  simp

set_option maxRecDepth 100000 in
set_option maxHeartbeats 1000000 in
theorem rprint_any (v : Int) (s : Bool) (w : World) (hv : 0 ≤ v) (hv' : v < 18446744073709551616) :
    Calls Tryd.prog 15 #[.int .u64 v, .bool s] w fun e w' => e = .returned (.string ⟨(prt v s).toArray⟩) ∧ Below w.heap.size w w' := by
  obtain ⟨b, u, hN, hfin, hu64⟩ : ∃ (b : Bool) (u : Nat), (∀ W, Calls Tryd.prog 57 #[.int .u64 v, .bool s] W fun e w' => e = .returned (.tuple #[.bool b, .int .u64 (u : Int)]) ∧ W = w') ∧ prt v s = (if b then 45 :: Lib.decDigits u else Lib.decDigits u) ∧ u < 18446744073709551616 := by
    obtain ⟨n, rfl⟩ := Int.eq_ofNat_of_zero_le hv
    cases s
    · exact ⟨false, n, fun W => rnumber_plain _ _ _ hv hv' rfl, by simp [prt], by omega⟩
    · by_cases h : 9223372036854775808 ≤ n
      · refine ⟨true, 18446744073709551616 - n, fun W => ?_, ?_, by omega⟩
        · have := rnumber_neg (n : Int) W (by omega) hv'
          rw [show ((18446744073709551616 - n : Nat) : Int) = 18446744073709551616 - (n : Int) by omega]
          exact this
        · simp only [prt, if_true]
          rw [i64_wrap _ hv hv', if_neg (by omega), Lib.itoa, if_pos (by omega)]
          congr 2; omega
      · refine ⟨false, n, fun W => rnumber_plain _ _ _ hv hv' (by simp; omega), ?_, by omega⟩
        simp only [prt, if_true, Bool.false_eq_true, if_false]
        rw [i64_wrap _ hv hv', if_pos (by omega), Lib.itoa, if_neg (by omega)]
        congr 1
  have HF := Lib.hid hfin; clear hfin
  have HN := Lib.hid hN; clear hN
  go_enter Tryd.func15, Tryd.ntmps15
  go_wp2_with fail
  refine (HN.out _).mono ?_
  rintro e w1 ⟨rfl, rfl⟩
  go_wp2
  go_loopw [6, 7, 8] (fun n st i wr => ∃ (k m : Nat) (t : List UInt8), Tel u k m t ∧ k ≤ 20 ∧ m ≤ u ∧ i = .int .i64 k ∧ n = .int .u64 m ∧ st = .string ⟨t.toArray⟩ ∧ Below w.heap.size w wr) (fun _ _ i _ => 20 - (intOf i).toNat)
  case atStart => exact ⟨0, u, [], Tel.start (by omega), by omega, Nat.le_refl _, rfl, rfl, rfl, Below.refl _ _⟩
  case round =>
    obtain ⟨k, m, t, hT, hk, hmu, rfl, rfl, rfl, hB⟩ := hrel
    have hm64 : m < 18446744073709551616 := by omega
    have hcv := conv_dgt m wr
    have hBA : Below w.heap.size w (wr.alloc (.cells #[.int .u8 (48 + (m : Int) % 10)] 5)) := hB.alloc hB.size _
    have hlen : t.length = k := hT.1
    have HLEN := Lib.hid hlen
    have hsz : (9223372036854775807 < 1 + t.length) = False := by simp; omega
    have HB := Lib.hid hB; have HBA := Lib.hid hBA; clear hB hBA hlen
    by_cases hlt : k < 20
    · by_cases hm : 0 < m
      · have HN := Lib.hid (hT.step hlt (.inl hm))
        clear hT
        go_wp2
        go_roundw
        case rel => exact ⟨k + 1, m / 10, dgt m :: t, HN.out, by omega, by omega, by go_num, by go_num, congrArg Value.string (str_cons _ _), HBA.out⟩
        case measure => first | (simp [intOf]; done) | (simp [intOf]; omega)
      · by_cases hk0 : k = 0
        · have HN := Lib.hid (hT.step hlt (.inr hk0))
          have d1 : decide (0 < m) = false := by simpa using hm
          have d2 : ((k : Int) == 0) = true := by simp [hk0]
          clear hm hk0
          clear hT
          go_wp2
          go_roundw
          case rel => exact ⟨k + 1, m / 10, dgt m :: t, HN.out, by omega, by omega, by go_num, by go_num, congrArg Value.string (str_cons _ _), HBA.out⟩
          case measure => first | (simp [intOf]; done) | (simp [intOf]; omega)
        · have HD := Lib.hid (hT.done (.inr ⟨by omega, by omega⟩))
          have d1 : decide (0 < m) = false := by simpa using hm
          have d2 : ((k : Int) == 0) = false := by simp; omega
          clear hm hk0 hT
          cases b
          · go_wp2
            go_ret
            exact ⟨by rw [HF.out, HD.out]; rfl, HB.out⟩
          · go_wp2
            go_ret
            exact ⟨by rw [HF.out, HD.out]; exact congrArg (fun z => Ending.returned (Value.string z)) (str_cons _ _), HB.out⟩
    · have HD := Lib.hid (hT.done (.inl (by omega)))
      clear hT
      cases b
      · go_wp2
        go_ret
        exact ⟨by rw [HF.out, HD.out]; rfl, HB.out⟩
      · go_wp2
        go_ret
        exact ⟨by rw [HF.out, HD.out]; exact congrArg (fun z => Ending.returned (Value.string z)) (str_cons _ _), HB.out⟩

set_option maxRecDepth 100000 in
set_option maxHeartbeats 1000000 in
theorem ifmt_any (u : Nat) (hu64 : u < 18446744073709551616) (w : World) (htab : Tab w) :
    Calls Tryd.prog 100 #[.int .u64 u, .int .i64 10] w fun e w' => e = .returned (.string ⟨(Lib.decDigits u).toArray⟩) ∧ Below w.heap.size w w' := by
  by_cases hs : u < 100
  · go_enter Tryd.func100, Tryd.ntmps100
    go_wp2_with (go_at_call 129; refine (Tryd.internal_strconv_small u hs _).mono ?_; rintro e w' ⟨rfl, rfl⟩)
    go_ret
    exact ⟨rfl, Below.refl _ _⟩
  · have hu1 : 1 ≤ u := by omega
    have hnd20 : Lib.nDigits u ≤ 20 := by have := Lib.numDigits_eq u hu1 hu64; split at this <;> omega
    have hb3 : Lib.nDigits u ≤ 24 := by omega
    have HT := Lib.hid htab; clear htab
    have hsl1 : ∀ W, (Instr.sliceAt 168 (.pointer (some ⟨w.heap.size, 0, none⟩)) none (some (.int .i64 (Lib.nDigits u : Int))) none).run Tryd.prog W = .ok (.slice (some ⟨w.heap.size, 0, none⟩) (Lib.nDigits u) 24) W := fun W => by
      rw [run_sliceAt_array_h W 168 ⟨w.heap.size, 0, none⟩ (by kernel_rfl) .i64 (Lib.nDigits u : Int) (by omega) (by rw [show Tryd.prog.arrayLen 168 = 24 from by kernel_rfl]; omega)]
      rw [show Tryd.prog.arrayLen 168 = 24 from by kernel_rfl, show (sizeOf (Tryd.prog.elem 168)).run Tryd.prog W = .ok 1 W from by kernel_rfl]
      simp [Result.andThen, slicedAt]
      exact Lib.add_plain _ _ _
    have hH0 : Go.Sort.Holds (fun (b : UInt8) => Value.int .u8 (b.toNat : Int)) (w.alloc (.cells Lib.zeros24 168)) w.heap.size 0 (Array.replicate (Lib.nDigits u) (0 : UInt8)) := fun j hj => by
      have hj' : j < Lib.nDigits u := by simpa using hj
      refine ⟨?_, World.frozen?_alloc_new _ _ _ _⟩
      rw [World.cell?_alloc_new, Lib.zeros24_at _ (by omega), getElem!_pos _ j hj]
      simp
    have hfmt := Tryd.internal_strconv_formatBase10 w.heap.size 0 24 u (Array.replicate (Lib.nDigits u) 0) (w.alloc (.cells Lib.zeros24 168)) hH0 (by rw [Array.size_replicate]; exact Lib.lt_pow_nDigits u) hu64 (by rw [Array.size_replicate]; omega)
    rw [Array.size_replicate] at hfmt
    have HH0 := Lib.hid hH0
    clear hH0
    go_enter Tryd.func100, Tryd.ntmps100
    go_wp2_with (go_at_call 130; refine (Tryd.internal_strconv_numDigits u hu1 hu64 _ (Lib.tabIs_alloc HT.out _)).mono ?_; rintro e w' ⟨rfl, rfl⟩)
    go_at_call 131
    refine hfmt.mono ?_
    rintro e w' ⟨rfl, k, v', dk, rfl, hF⟩
    have hcv : (convert 59 9 (.slice (some ⟨w.heap.size, 0, none⟩) (Lib.nDigits u) 24)).run Tryd.prog ((Go.Sort.putRow (fun (b : UInt8) => Value.int .u8 (b.toNat : Int)) (w.alloc (.cells Lib.zeros24 168)) w.heap.size 0 dk).drewN k) = .ok (.string ⟨(Lib.decDigits u).toArray⟩) ((Go.Sort.putRow (fun (b : UInt8) => Value.int .u8 (b.toNat : Int)) (w.alloc (.cells Lib.zeros24 168)) w.heap.size 0 dk).drewN k) := by
      have h := run_convert_bytes_back (P := Tryd.prog) ((Go.Sort.putRow (fun (b : UInt8) => Value.int .u8 (b.toNat : Int)) (w.alloc (.cells Lib.zeros24 168)) w.heap.size 0 dk).drewN k) 59 9 5 ⟨w.heap.size, 0, none⟩ 24 (Lib.decDigits u) Tryd.underlying59 Tryd.underlying5 Tryd.underlying9 (fun j hj => by
        rw [Lib.add_plain, Lib.row_is_numeral hF j hj, World.cell?_drewN]
        exact Go.Sort.cell?_putRow (fun (b : UInt8) => Value.int .u8 (b.toNat : Int)) _ w.heap.size 0 _ dk HH0.out (by rw [hF.size, Array.size_replicate]) j (by rw [hF.size]; rw [Lib.decDigits_length] at hj; exact hj))
      rw [Lib.decDigits_length] at h
      exact h
    go_wp2
    go_ret
    refine ⟨rfl, ?_⟩
    rw [Go.Sort.alloc_eq_grow]
    obtain ⟨os', _, e⟩ := Go.Sort.putRow_grow_new (fun (b : UInt8) => Value.int .u8 (b.toNat : Int)) w #[.cells Lib.zeros24 168] w.heap.size 0 dk (Nat.le_refl _)
    rw [e]
    exact below_drewN (grow_below0 w os') k

set_option maxRecDepth 100000 in
set_option maxHeartbeats 1000000 in
theorem fmt_any (u : Nat) (hu64 : u < 18446744073709551616) (w : World) (htab : Tab w) :
    Calls Tryd.prog 56 #[.int .u64 u, .int .i64 10] w fun e w' => e = .returned (.string ⟨(Lib.decDigits u).toArray⟩) ∧ Below w.heap.size w w' := by
  have HT := Lib.hid htab; clear htab
  go_enter Tryd.func56, Tryd.ntmps56
  go_wp2_with fail
  refine (ifmt_any u hu64 _ HT.out).mono ?_
  rintro e w1 ⟨rfl, hb⟩
  go_wp2
  go_ret
  exact ⟨rfl, hb⟩

set_option maxRecDepth 100000 in
set_option maxHeartbeats 1000000 in
theorem print_any (v : Int) (s : Bool) (w : World) (hv : 0 ≤ v) (hv' : v < 18446744073709551616) (htab : Tab w) :
    Calls Tryd.prog 14 #[.int .u64 v, .bool s] w fun e w' => e = .returned (.string ⟨(prt v s).toArray⟩) ∧ Below w.heap.size w w' := by
  have HT := Lib.hid htab; clear htab
  cases s
  · obtain ⟨u, rfl⟩ := Int.eq_ofNat_of_zero_le hv
    go_enter Tryd.func14, Tryd.ntmps14
    go_wp2_with fail
    refine (fmt_any u (by omega) _ HT.out).mono ?_
    rintro e w1 ⟨rfl, hb⟩
    go_wp2
    go_ret
    exact ⟨by simp [prt], hb⟩
  · have hw := i64_wrap v hv hv'
    have hw2 : wrap64 v = IntKind.i64.wrap v := by rw [IntKind.wrap_i64]; unfold wrap64; omega
    have hlo : -9223372036854775808 ≤ wrap64 v := by rw [hw2, hw]; split <;> omega
    have hhi : wrap64 v ≤ 9223372036854775807 := by rw [hw2, hw]; split <;> omega
    have hp : prt v true = Lib.itoa (wrap64 v) := by rw [hw2]; rfl
    clear hw2
    have HW := Lib.hid hp; clear hw hp
    go_enter Tryd.func14, Tryd.ntmps14
    go_wp2_with fail
    refine (Tryd.strconv_FormatInt_10 _ hlo hhi _ HT.out).mono ?_
    rintro e w1 ⟨rfl, k, os, rfl⟩
    go_wp2
    go_ret
    exact ⟨by rw [HW.out]; rfl, grow_below _ _ _⟩
end rawP
end Go.Proofs.YtfigkgpolpggcaaDoor
