/- internal/strconv.ParseUint to the base 16, 64 bits. No condition but on length. -/
import Derived.Test.YtbbfpbmogklomaaGreatDoorZKc
import Derived.Test.YtbbfpbmogklomaaGreatDoorZK0
import Derived.Test.YtbbfpbmogklomaaGreatDoorProg
import Derived.WalkSpells
import Derived.WalkLawsBesides
import Derived.Laws.IdiomStrings
import Derived.Deep.MidRow
import Derived.Deep.QuietTactic
import Derived.BigQuiet
namespace Go.Proofs.YtbbfpbmogklomaaGreatDoor
open Go.RowKit Go.Bus Go.Bus.hexK
set_option linter.unusedVariables false
set_option linter.unusedSimpArgs false
namespace hexW
def lo (c : Nat) : Nat := c ||| 32
theorem or32 : ∀ c : Fin 256, bits BinOp.or IntKind.u8 ((c.val : Nat) : Int) 32 = ((lo c.val : Nat) : Int) := by decide +kernel
theorem lo_lt : ∀ c : Fin 256, lo c.val < 256 := by decide +kernel
theorem hexdig_lo : ∀ c : Fin 256, ¬ (48 ≤ c.val ∧ c.val ≤ 57) → hexdig (UInt8.ofNat c.val) = if 97 ≤ lo c.val ∧ lo c.val ≤ 102 then some (lo c.val - 87) else none := by decide +kernel
theorem lo_95 : ∀ c : Fin 256, c.val = 95 → 122 < lo c.val := by decide +kernel
set_option maxRecDepth 100000 in
set_option maxHeartbeats 1000000 in
theorem lower_any (c : Nat) (hc : c < 256) (w : World) : Calls Tryz.prog 146 #[.int .u8 (c : Nat)] w fun e w' => e = .returned (.int .u8 (lo c : Nat)) ∧ w = w' := by
  have h := or32 ⟨c, hc⟩
  simp only at h
  have H := Lib.hid h
  clear h
  go_enter Tryz.func146, Tryz.ntmps146
  go_wp2
  go_ret
  exact ⟨by rw [← H.out]; rfl, rfl⟩
/-- What ParseUint answers. -/
def PuPost (s : List UInt8) (w : World) (e : Ending) (w' : World) : Prop :=
  (match hexRd s 0 with
    | some v => e = .returned (.tuple #[.int .u64 (v : Nat), .nilIface])
    | none => ∃ n k : Int, e = .returned (.tuple #[.int .u64 n, .iface 188 (.int .i64 k)]) ∧ (k = 1 ∨ k = 2)) ∧ Below w.heap.size w w'
theorem PuPost.bad {s : List UInt8} {w w' : World} {n k : Int} (h : hexRd s 0 = none) (hk : k = 1 ∨ k = 2) (hb : Below w.heap.size w w') : PuPost s w (.returned (.tuple #[.int .u64 n, .iface 188 (.int .i64 k)])) w' := by
  unfold PuPost; rw [h]; exact ⟨⟨n, k, rfl, hk⟩, hb⟩
theorem PuPost.good {s : List UInt8} {w w' : World} {v : Nat} {n : Int} (h : hexRd s 0 = some v) (hn : n = v) (hb : Below w.heap.size w w') : PuPost s w (.returned (.tuple #[.int .u64 n, .nilIface])) w' := by
  unfold PuPost; rw [h, hn]; exact ⟨rfl, hb⟩
set_option maxRecDepth 100000 in
set_option maxHeartbeats 4000000 in
theorem ipu16_any (s : List UInt8) (hs : s ≠ []) (hl : s.length ≤ 140737488355328) (w : World) : Calls Tryz.prog 123 #[.string ⟨s.toArray⟩, .int .i64 16, .int .i64 64] w (PuPost s w) := by
  have hne : ((⟨s.toArray⟩ : ByteArray).toList == []) = false := by
    rw [ByteArray.toList_mk]
    simpa using hs
  have hne2 : (s == []) = false := by simpa using hs
  have hmx : IntKind.u64.wrap (IntKind.u64.wrap 18446744073709551616 - 1) = 18446744073709551615 := by decide +kernel
  obtain ⟨cap, W1, hcv, hB1, hz1, hcl⟩ : ∃ (cap : Nat) (W1 : World), (convert 9 28 (.string ⟨s.toArray⟩)).run Tryz.prog w = .ok (.slice (some ⟨w.heap.size, 0, none⟩) s.length cap) W1 ∧ Below w.heap.size w W1 ∧ w.heap.size < W1.heap.size ∧ ∀ k (h : k < s.length), W1.cell? ⟨w.heap.size, k, none⟩ = some (.int .u8 ((s[k].toNat : Nat) : Int)) := by
    refine ⟨_, _, run_bytes_of_string w 9 28 5 ⟨s.toArray⟩ Tryz.underlying9 Tryz.underlying28 Tryz.underlying5, ((Below.refl _ _).drew).alloc (Nat.le_refl _) _, by simp, fun k hk => ?_⟩
    have h1 := bytesRow_at ⟨s.toArray⟩ (grownCap w (⟨s.toArray⟩ : ByteArray).size 0 5) k (by simpa using hk)
    exact (cell_of_row _ w.heap.size k _ 5 _ (heap_alloc_new w.drew _)).trans (h1.trans (by simp))
  have HB1 := Lib.hid hB1
  have HCL := Lib.hid hcl
  clear hs hB1 hcl
  go_enter Tryz.func123, Tryz.ntmps123
  go_wp2
  go_loop [12, 13, 101] (fun us n i => ∃ k v : Nat, us = .bool false ∧ n = .int .u64 (v : Nat) ∧ i = .int .i64 (k : Nat) ∧ k ≤ s.length ∧ v < 18446744073709551616 ∧ Hid (hexRd s 0 = hexRd (s.drop k) v)) (fun _ _ i => s.length - (intOf i).toNat)
  case atStart => exact ⟨0, 0, rfl, rfl, rfl, Nat.zero_le _, by decide, Lib.hid rfl⟩
  case round =>
    obtain ⟨k, v, rfl, rfl, rfl, hk, hv, HE⟩ := hrel
    by_cases hlt : k < s.length
    · have hc := HCL.out k hlt
      obtain ⟨c, hcE⟩ : ∃ c, c = (s[k]).toNat := ⟨_, rfl⟩
      have hc256 : c < 256 := by rw [hcE]; exact UInt8.toNat_lt _
      have hcU : s[k] = UInt8.ofNat c := by rw [hcE]; simp
      rw [← hcE] at hc
      have HDR : Hid (s.drop k = UInt8.ofNat c :: s.drop (k + 1)) := Lib.hid (by rw [List.drop_eq_getElem_cons hlt, hcU])
      clear hcE hcU
      have HLW := Lib.hid (fun (W : World) => lower_any c hc256 W)
      have hL := lo_lt ⟨c, hc256⟩
      have hHD := hexdig_lo ⟨c, hc256⟩
      have h95 := lo_95 ⟨c, hc256⟩
      simp only at hL hHD h95
      obtain ⟨L, hLE⟩ : ∃ L, L = lo c := ⟨_, rfl⟩
      rw [← hLE] at HLW hL hHD h95
      clear hLE
      by_cases hdig : 48 ≤ c ∧ c ≤ 57
      · have HX : Hid (hexdig (UInt8.ofNat c) = some (c - 48)) := Lib.hid (by
          have e : (UInt8.ofNat c).toNat = c := by simp; omega
          unfold hexdig; rw [e, if_pos hdig])
        obtain ⟨hd1, hd2⟩ := hdig
        have e95 : ((c : Int) == 95) = false := by simp; omega
        clear hHD h95 HLW
        by_cases hcut : v < 1152921504606846976
        · have dcut : decide ((1152921504606846976 : Int) ≤ (v : Int)) = false := by simp; omega
          have hcut2 : (v : Int) * 16 ≤ 18446744073709551600 := by omega
          have HCUT := Lib.hid hcut
          have HN : Hid (hexRd s 0 = hexRd (s.drop (k + 1)) (v * 16 + (c - 48))) := Lib.hid (by rw [HE.out, HDR.out]; simp only [hexRd, HX.out]; rw [if_pos hcut])
          clear hcut
          go_wp2
          go_round
          case rel => exact ⟨k + 1, v * 16 + (c - 48), rfl, congrArg (Value.int .u64) (by push_cast; omega), by go_num, by omega, by have := HCUT.out; omega, HN⟩
          case measure => simp [intOf]; omega
        · have HN : Hid (hexRd s 0 = none) := Lib.hid (by rw [HE.out, HDR.out]; simp only [hexRd, HX.out]; rw [if_neg hcut])
          have dcut : decide ((1152921504606846976 : Int) ≤ (v : Int)) = true := by simp; omega
          clear hcut
          go_wp2
          go_ret2
          exact PuPost.bad HN.out (.inl rfl) HB1.out
      · have hHX := hHD hdig
        have hnd : c < 48 ∨ 57 < c := by omega
        clear hHD
        by_cases hlet : 97 ≤ L ∧ L ≤ 122
        · obtain ⟨hl1, hl2⟩ := hlet
          have e95 : ((c : Int) == 95) = false := by
            rw [beq_eq_false_iff_ne]; intro e; have := h95 (by omega); omega
          clear h95 hdig
          by_cases h102 : L ≤ 102
          · have HX : Hid (hexdig (UInt8.ofNat c) = some (L - 87)) := Lib.hid (by rw [hHX, if_pos ⟨hl1, h102⟩])
            clear hHX
            by_cases hcut : v < 1152921504606846976
            · have dcut : decide ((1152921504606846976 : Int) ≤ (v : Int)) = false := by simp; omega
              have hcut2 : (v : Int) * 16 ≤ 18446744073709551600 := by omega
              have HCUT := Lib.hid hcut
              have HN : Hid (hexRd s 0 = hexRd (s.drop (k + 1)) (v * 16 + (L - 87))) := Lib.hid (by rw [HE.out, HDR.out]; simp only [hexRd, HX.out]; rw [if_pos hcut])
              clear hcut
              rcases hnd with hnd | hnd
              all_goals
                go_wp2_with (go_at_call 146; refine (HLW.out _).mono ?_; rintro e w9 ⟨rfl, rfl⟩)
                go_round
              all_goals first
                | exact ⟨k + 1, v * 16 + (L - 87), rfl, congrArg (Value.int .u64) (by push_cast; omega), by go_num, by omega, by have := HCUT.out; omega, HN⟩
                | (simp [intOf]; omega)
            · have HN : Hid (hexRd s 0 = none) := Lib.hid (by rw [HE.out, HDR.out]; simp only [hexRd, HX.out]; rw [if_neg hcut])
              have dcut : decide ((1152921504606846976 : Int) ≤ (v : Int)) = true := by simp; omega
              clear hcut
              rcases hnd with hnd | hnd
              all_goals
                go_wp2_with (go_at_call 146; refine (HLW.out _).mono ?_; rintro e w9 ⟨rfl, rfl⟩)
                go_ret2
                exact PuPost.bad HN.out (.inl rfl) HB1.out
          · have HN : Hid (hexRd s 0 = none) := Lib.hid (by rw [HE.out, HDR.out]; simp only [hexRd]; rw [hHX, if_neg (fun h => h102 h.2)])
            clear hHX
            rcases hnd with hnd | hnd
            all_goals
              go_wp2_with (go_at_call 146; refine (HLW.out _).mono ?_; rintro e w9 ⟨rfl, rfl⟩)
              go_ret2
              exact PuPost.bad HN.out (.inr rfl) HB1.out
        · have HN : Hid (hexRd s 0 = none) := Lib.hid (by rw [HE.out, HDR.out]; simp only [hexRd]; rw [hHX, if_neg (fun h => hlet ⟨h.1, by omega⟩)])
          have hnl : L < 97 ∨ 122 < L := by omega
          clear hHX hlet h95 hdig
          rcases (by omega : c = 95 ∨ c ≠ 95) with h5 | h5 <;> rcases hnd with hnd | hnd <;> rcases hnl with hnl | hnl
          all_goals first
            | (exfalso; omega)
            | (have e95 : ((c : Int) == 95) = true := by simp; omega
               clear h5
               go_wp2_with (go_at_call 146; refine (HLW.out _).mono ?_; rintro e w9 ⟨rfl, rfl⟩)
               go_ret2
               exact PuPost.bad HN.out (.inr rfl) HB1.out)
            | (have e95 : ((c : Int) == 95) = false := by simp; omega
               clear h5
               go_wp2_with (go_at_call 146; refine (HLW.out _).mono ?_; rintro e w9 ⟨rfl, rfl⟩)
               go_ret2
               exact PuPost.bad HN.out (.inr rfl) HB1.out)
    · obtain rfl : k = s.length := by omega
      have HN : Hid (hexRd s 0 = some v) := Lib.hid (by rw [HE.out, List.drop_length]; rfl)
      go_wp2
      go_ret2
      exact PuPost.good HN.out rfl HB1.out
end hexW
end Go.Proofs.YtbbfpbmogklomaaGreatDoor
