/- reader.sevens. No condition. -/
import Derived.Test.YtbbfpbmogklomaaGreatDoorZKe
import Derived.Test.YtbbfpbmogklomaaGreatDoorShelf
import Derived.Deep.RegionHeld3
namespace Go.Proofs.YtbbfpbmogklomaaGreatDoor
open Go.RowKit Go.Bus Go.Bus.cellK Go.Bus.codeK
set_option linter.unusedVariables false
set_option linter.unusedSimpArgs false
namespace codeW
theorem and127 {c : Int} (h0 : 0 ≤ c) (h1 : c < 256) : bits BinOp.and IntKind.u64 c 127 = c % 128 := by
  have h : ∀ d : Fin 256, bits BinOp.and IntKind.u64 ((d.val : Nat) : Int) 127 = ((d.val % 128 : Nat) : Int) := by decide +kernel
  have h2 := h ⟨c.toNat, by omega⟩
  simp only at h2
  rw [show ((c.toNat : Nat) : Int) = c from by omega] at h2
  rw [h2]; omega
theorem bitLen_le (n : Nat) (h : n < 128) : Lib.bitLen n ≤ 7 := by
  have h2 : ∀ d : Fin 128, Lib.bitLen d.val ≤ 7 := by decide +kernel
  exact h2 ⟨n, h⟩
theorem bitLen_one (n : Nat) (h : n < 128) : (Lib.bitLen n ≤ 1 ↔ n ≤ 1) := by
  have h2 : ∀ d : Fin 128, (Lib.bitLen d.val ≤ 1 ↔ d.val ≤ 1) := by decide +kernel
  exact h2 ⟨n, h⟩
/-- What reading a number comes to: at p it began. -/
def SvPost (w : World) (g : Nat) (v : Value) (bs : List Int) (p : Nat) (x : Ins) (e : Ending) (w' : World) : Prop :=
  Only g w w' ∧ match sevGo (bs.drop p) 0 0 with
  | .ok m r => e = .returned (.int .u64 (m : Nat)) ∧ RdH w' g v (bs.length - r.length) x .nilIface
  | .short => e = .returned (.int .u64 0) ∧ ∃ q, RdH w' g v q x (faultV 2 bs.length)
  | .form => e = .returned (.int .u64 0) ∧ ∃ q, RdH w' g v q x (faultV 4 p)
theorem SvPost.form {w w' : World} {g p q : Nat} {v : Value} {bs : List Int} {x : Ins} (hE : sevGo (bs.drop p) 0 0 = .form) (hO : Only g w w') (hR : RdH w' g v q x (faultV 4 p)) : SvPost w g v bs p x (.returned (.int .u64 0)) w' :=
  ⟨hO, by rw [hE]; exact ⟨rfl, _, hR⟩⟩
theorem SvPost.short {w w' : World} {g p q : Nat} {v : Value} {bs : List Int} {x : Ins} (hE : sevGo (bs.drop p) 0 0 = .short) (hO : Only g w w') (hR : RdH w' g v q x (faultV 2 bs.length)) : SvPost w g v bs p x (.returned (.int .u64 0)) w' :=
  ⟨hO, by rw [hE]; exact ⟨rfl, _, hR⟩⟩
theorem SvPost.ok {w w' : World} {g p q m : Nat} {i : Int} {v : Value} {bs r : List Int} {x : Ins} (hE : sevGo (bs.drop p) 0 0 = .ok m r) (hi : i = m) (hO : Only g w w') (hq : q = bs.length - r.length) (hR : RdH w' g v q x .nilIface) : SvPost w g v bs p x (.returned (.int .u64 i)) w' :=
  ⟨hO, by rw [hE]; subst hq hi; exact ⟨rfl, hR⟩⟩
theorem or_sev {c : Int} {k u : Nat} (h0 : 0 ≤ c) (h1 : c < 256) (hk : k ≤ 9) (h9 : k = 9 → c % 128 ≤ 1) (hu : u < 128 ^ k) :
    bits BinOp.or IntKind.u64 (u : Int) (IntKind.u64.wrap (bits BinOp.and IntKind.u64 c 127 * 2 ^ (7 * k))) = ((u + (c % 128).toNat * 128 ^ k : Nat) : Int) ∧ u + (c % 128).toNat * 128 ^ k < 128 ^ (k + 1) := by
  rw [and127 h0 h1]
  obtain ⟨d, hd⟩ : ∃ d : Nat, c % 128 = d := ⟨(c % 128).toNat, by omega⟩
  have hd1 : d < 128 := by omega
  rw [hd, Int.toNat_natCast]
  have hp : (128 : Nat) ^ k = 2 ^ (7 * k) := by rw [Nat.pow_mul]
  have hlt : d * 128 ^ k < 18446744073709551616 := by
    rcases Nat.lt_or_ge k 9 with h | h
    · have h2 : 128 ^ k ≤ 128 ^ 8 := Nat.pow_le_pow_right (by decide) (by omega)
      exact Nat.lt_of_le_of_lt (Nat.mul_le_mul (show d ≤ 127 by omega) h2) (by decide)
    · obtain rfl : k = 9 := by omega
      have : d ≤ 1 := by have := h9 rfl; omega
      exact Nat.lt_of_le_of_lt (Nat.mul_le_mul_right _ this) (by decide)
  have hu2 : u < 18446744073709551616 := by
    have h2 : 128 ^ k ≤ 128 ^ 9 := Nat.pow_le_pow_right (by decide) hk
    exact Nat.lt_of_lt_of_le hu (Nat.le_trans h2 (by decide))
  have e1 : ((d : Int) * 2 ^ (7 * k)) = ((d * 128 ^ k : Nat) : Int) := by rw [hp]; push_cast; rfl
  have e2 : IntKind.u64.wrap ((d * 128 ^ k : Nat) : Int) = ((d * 128 ^ k : Nat) : Int) := by
    rw [IntKind.wrap_u64]; omega
  rw [e1, e2, bits_or_u64_nat _ _ hu2 hlt]
  have e3 : u ||| d * 128 ^ k = u + d * 128 ^ k := by
    rw [Nat.or_comm, Nat.mul_comm, hp]
    rw [hp] at hu
    have := Nat.two_pow_add_eq_or_of_lt hu d
    omega
  rw [e3]
  refine ⟨rfl, ?_⟩
  rw [Nat.pow_succ]
  have : (d + 1) * 128 ^ k ≤ 128 * 128 ^ k := Nat.mul_le_mul_right _ (by omega)
  rw [Nat.add_mul, Nat.one_mul] at this
  rw [Nat.mul_comm (128 ^ k)]
  omega
set_option maxRecDepth 100000 in
set_option maxHeartbeats 1000000 in
theorem rsevens_any {g p : Nat} {v : Value} {bs : List Int} {x : Ins} {w : World} (hR : RdH w g v p x .nilIface) (hs : Sl w g byteV v bs) (hp : p ≤ bs.length) (hb : ∀ c ∈ bs, Byte c) :
    Calls Tryz.prog 96 #[ptr g] w (SvPost w g v bs p x) := by
  have e1 : w.cell? ⟨g, 1, none⟩ = some (.int .i64 p) := Has.cell hR 1
  have ef : w.frozen? ⟨g, 1, none⟩ = false := Has.frozen hR 1
  have zg : g < w.heap.size := Has.lt hR
  have HR := Lib.hid hR
  have HS := Lib.hid hs
  have HB := Lib.hid hb
  have hlen : bs.length ≤ 9223372036854775807 := by
    obtain ⟨A, cap, rfl, n1, n2⟩ := hs.form
    unfold maxLen at n2; omega
  clear hR hs hb
  go_enter Tryz.func96, Tryz.ntmps96
  go_wp2
  go_loopw [4, 5] (fun a i wr => ∃ (k u : Nat), a = .int .u64 (u : Nat) ∧ i = .int .i64 (7 * k : Nat) ∧ k ≤ 9 ∧ u < 128 ^ k ∧ p + k ≤ bs.length ∧ Hid (sevGo (bs.drop p) 0 0 = sevGo (bs.drop (p + k)) k u) ∧ Hid (RdH wr g v (p + k) x .nilIface) ∧ Hid (Only g w wr)) (fun _ i _ => 64 - (intOf i).toNat)
  case atStart => exact ⟨0, 0, rfl, rfl, by omega, by simp, by omega, Lib.hid rfl, HR, Lib.hid (Only.refl (Nat.le_of_lt zg))⟩
  case round =>
    obtain ⟨k, u, rfl, rfl, hk, hu, hpk, HE, HRr, HO⟩ := hrel
    have HSr := Lib.hid (HS.out.below HO.out.below)
    clear e1 ef
    by_cases hlt : p + k < bs.length
    · obtain ⟨c, hc⟩ : ∃ c, bs[p + k]? = some c := ⟨_, List.getElem?_eq_getElem hlt⟩
      have HC := Lib.hid hc
      obtain ⟨hb0, hb1⟩ := HB.out c (List.mem_of_getElem? hc)
      clear hc
      obtain ⟨L, hL⟩ : ∃ L, L = Lib.bitLen (c % 128).toNat := ⟨_, rfl⟩
      have hLen : ∀ W, Calls Tryz.prog 121 #[.int .u64 (bits BinOp.and IntKind.u64 c 127)] W fun e w' => e = .returned (.int .i64 (L : Nat)) ∧ W = w' := fun W => by
        rw [and127 hb0 hb1, hL]
        exact (Tryz.bits_Len64 (c % 128) W (by omega) (by omega)).mono fun e w' h => ⟨h.1, h.2.symm⟩
      have HLen := Lib.hid hLen; clear hLen
      have HL7 : L ≤ 7 := by rw [hL]; exact bitLen_le _ (by omega)
      have hLL : (L ≤ 1 ↔ c % 128 ≤ 1) ∧ (c % 128 = 0 → L = 0) := by
        rw [hL]
        refine ⟨(bitLen_one _ (by omega)).trans (by omega), fun h => by rw [h]; rfl⟩
      clear hL
      have HE2 : Hid (sevGo (bs.drop p) 0 0 = if (k = 9 ∧ 1 < c) ∨ (c = 0 ∧ 0 < k) then .form else if c < 128 then .ok (u + c.toNat * 128 ^ k) (bs.drop (p + k + 1)) else sevGo (bs.drop (p + k + 1)) (k + 1) (u + (c.toNat - 128) * 128 ^ k)) := Lib.hid (by
        obtain ⟨h1, h2⟩ := List.getElem?_eq_some_iff.1 HC.out
        rw [HE.out, List.drop_eq_getElem_cons h1, h2]; rfl)
      have d63 : decide (63 < 7 * (k : Int)) = false := by simp; omega
      by_cases h9 : k = 9
      · by_cases hc2 : 2 ≤ c % 128
        · have dA : decide (64 < (L : Int) + 7 * (k : Int)) = true := by simp; omega
          have HB' : Hid ((k = 9 ∧ 1 < c) ∨ (c = 0 ∧ 0 < k)) := Lib.hid (by omega)
          clear hLL h9 hc2
          go_wp2_with (first | (go_at_call 121; refine (HLen.out _).mono ?_; rintro e w2 ⟨rfl, rfl⟩) | (go_at_call 86; refine (one_hit HRr.out HSr.out HC.out ⟨hb0, hb1⟩).mono ?_; rintro e w1 ⟨rfl, hR1, hO1⟩; have e7 : w1.cell? ⟨g, 7, none⟩ = some .nilIface := Has.cell hR1 7; have f7 : w1.frozen? ⟨g, 7, none⟩ = false := Has.frozen hR1 7; have z1 : g < w1.heap.size := Has.lt hR1; have HR1 := Lib.hid hR1; have HO1 := Lib.hid (HO.out.trans hO1); clear hR1 hO1) | (go_at_call 29; refine (fault_any _ _ _).mono ?_; unfold faultV; rintro e w3 ⟨rfl, rfl⟩))
          go_ret
          exact SvPost.form (by rw [HE2.out, if_pos HB'.out]) (HO1.out.set 7 _) (HR1.out.err _)
        · by_cases hc3 : 127 < c
          · have dA : decide (64 < (L : Int) + 7 * (k : Int)) = false := by simp; omega
            have dB : ((7 * (k : Int)) == 63) = true := by rw [beq_iff_eq]; omega
            have dC : decide (127 < c) = true := by simp; omega
            have HB' : Hid ((k = 9 ∧ 1 < c) ∨ (c = 0 ∧ 0 < k)) := Lib.hid (by omega)
            clear hLL h9 hc2 hc3
            go_wp2_with (first | (go_at_call 121; refine (HLen.out _).mono ?_; rintro e w2 ⟨rfl, rfl⟩) | (go_at_call 86; refine (one_hit HRr.out HSr.out HC.out ⟨hb0, hb1⟩).mono ?_; rintro e w1 ⟨rfl, hR1, hO1⟩; have e7 : w1.cell? ⟨g, 7, none⟩ = some .nilIface := Has.cell hR1 7; have f7 : w1.frozen? ⟨g, 7, none⟩ = false := Has.frozen hR1 7; have z1 : g < w1.heap.size := Has.lt hR1; have HR1 := Lib.hid hR1; have HO1 := Lib.hid (HO.out.trans hO1); clear hR1 hO1) | (go_at_call 29; refine (fault_any _ _ _).mono ?_; unfold faultV; rintro e w3 ⟨rfl, rfl⟩))
            go_ret
            exact SvPost.form (by rw [HE2.out, if_pos HB'.out]) (HO1.out.set 7 _) (HR1.out.err _)
          · by_cases hc4 : c = 0
            · have dA : decide (64 < (L : Int) + 7 * (k : Int)) = false := by simp; omega
              have dB : ((7 * (k : Int)) == 63) = true := by rw [beq_iff_eq]; omega
              have dC : decide (127 < c) = false := by simp; omega
              have dD : (c == 0) = true := by rw [beq_iff_eq]; omega
              have dE : decide (0 < 7 * (k : Int)) = true := by simp; omega
              have dE' : decide (0 < k) = true := by simp; omega
              have HB' : Hid ((k = 9 ∧ 1 < c) ∨ (c = 0 ∧ 0 < k)) := Lib.hid (by omega)
              clear hLL h9 hc2 hc3 hc4
              go_wp2_with (first | (go_at_call 121; refine (HLen.out _).mono ?_; rintro e w2 ⟨rfl, rfl⟩) | (go_at_call 86; refine (one_hit HRr.out HSr.out HC.out ⟨hb0, hb1⟩).mono ?_; rintro e w1 ⟨rfl, hR1, hO1⟩; have e7 : w1.cell? ⟨g, 7, none⟩ = some .nilIface := Has.cell hR1 7; have f7 : w1.frozen? ⟨g, 7, none⟩ = false := Has.frozen hR1 7; have z1 : g < w1.heap.size := Has.lt hR1; have HR1 := Lib.hid hR1; have HO1 := Lib.hid (HO.out.trans hO1); clear hR1 hO1) | (go_at_call 29; refine (fault_any _ _ _).mono ?_; unfold faultV; rintro e w3 ⟨rfl, rfl⟩))
              go_ret
              exact SvPost.form (by rw [HE2.out, if_pos HB'.out]) (HO1.out.set 7 _) (HR1.out.err _)
            · have dA : decide (64 < (L : Int) + 7 * (k : Int)) = false := by simp; omega
              have dB : ((7 * (k : Int)) == 63) = true := by rw [beq_iff_eq]; omega
              have dC : decide (127 < c) = false := by simp; omega
              have dD : (c == 0) = false := by rw [beq_eq_false_iff_ne]; omega
              have HB' : Hid ¬ ((k = 9 ∧ 1 < c) ∨ (c = 0 ∧ 0 < k)) := Lib.hid (by omega)
              have hos := or_sev hb0 hb1 hk (by omega) hu
              have HOS := Lib.hid hos; clear hos
              clear hLL h9 hc2 hc3 hc4
              by_cases h128 : c < 128
              · have dF : decide (c < 128) = true := by simpa using h128
                have H128 := Lib.hid h128; clear h128
                go_wp2_with (first | (go_at_call 121; refine (HLen.out _).mono ?_; rintro e w2 ⟨rfl, rfl⟩) | (go_at_call 86; refine (one_hit HRr.out HSr.out HC.out ⟨hb0, hb1⟩).mono ?_; rintro e w1 ⟨rfl, hR1, hO1⟩; have e7 : w1.cell? ⟨g, 7, none⟩ = some .nilIface := Has.cell hR1 7; have f7 : w1.frozen? ⟨g, 7, none⟩ = false := Has.frozen hR1 7; have z1 : g < w1.heap.size := Has.lt hR1; have HR1 := Lib.hid hR1; have HO1 := Lib.hid (HO.out.trans hO1); clear hR1 hO1) | (go_at_call 29; refine (fault_any _ _ _).mono ?_; unfold faultV; rintro e w3 ⟨rfl, rfl⟩))
                go_ret
                exact SvPost.ok (by rw [HE2.out, if_neg HB'.out, if_pos H128.out]) (by rw [HOS.out.1]; have := H128.out; congr 3 <;> omega) HO1.out (by rw [List.length_drop]; omega) HR1.out
              · have dF : decide (c < 128) = false := by simpa using h128
                have HE3 : Hid (sevGo (bs.drop p) 0 0 = sevGo (bs.drop (p + (k + 1))) (k + 1) (u + (c % 128).toNat * 128 ^ k)) := Lib.hid (by rw [HE2.out, if_neg HB'.out, if_neg h128, show (c % 128).toNat = c.toNat - 128 from by omega]; rfl)
                have hk9 : k ≤ 8 := by have := HB'.out; omega
                have H128 := Lib.hid h128; clear h128
                go_wp2_with (first | (go_at_call 121; refine (HLen.out _).mono ?_; rintro e w2 ⟨rfl, rfl⟩) | (go_at_call 86; refine (one_hit HRr.out HSr.out HC.out ⟨hb0, hb1⟩).mono ?_; rintro e w1 ⟨rfl, hR1, hO1⟩; have e7 : w1.cell? ⟨g, 7, none⟩ = some .nilIface := Has.cell hR1 7; have f7 : w1.frozen? ⟨g, 7, none⟩ = false := Has.frozen hR1 7; have z1 : g < w1.heap.size := Has.lt hR1; have HR1 := Lib.hid hR1; have HO1 := Lib.hid (HO.out.trans hO1); clear hR1 hO1) | (go_at_call 29; refine (fault_any _ _ _).mono ?_; unfold faultV; rintro e w3 ⟨rfl, rfl⟩))
                go_roundw
                case rel => exact ⟨k + 1, _, by rw [HOS.out.1], by first | omega | (congr 1; omega) | (congr 1), by omega, HOS.out.2, by omega, HE3, Lib.hid HR1.out, HO1⟩
                case measure => simp [intOf]; omega
      · by_cases hc4 : c = 0
        · by_cases hk0 : 0 < k
          · have dA : decide (64 < (L : Int) + 7 * (k : Int)) = false := by simp; omega
            have dB : ((7 * (k : Int)) == 63) = false := by rw [beq_eq_false_iff_ne]; omega
            have dC : decide (127 < c) = false := by simp; omega
            have dD : (c == 0) = true := by rw [beq_iff_eq]; omega
            have dE : decide (0 < 7 * (k : Int)) = true := by simp; omega
            have dE' : decide (0 < k) = true := by simp; omega
            have HB' : Hid ((k = 9 ∧ 1 < c) ∨ (c = 0 ∧ 0 < k)) := Lib.hid (by omega)
            clear hLL h9 hc4 hk0
            go_wp2_with (first | (go_at_call 121; refine (HLen.out _).mono ?_; rintro e w2 ⟨rfl, rfl⟩) | (go_at_call 86; refine (one_hit HRr.out HSr.out HC.out ⟨hb0, hb1⟩).mono ?_; rintro e w1 ⟨rfl, hR1, hO1⟩; have e7 : w1.cell? ⟨g, 7, none⟩ = some .nilIface := Has.cell hR1 7; have f7 : w1.frozen? ⟨g, 7, none⟩ = false := Has.frozen hR1 7; have z1 : g < w1.heap.size := Has.lt hR1; have HR1 := Lib.hid hR1; have HO1 := Lib.hid (HO.out.trans hO1); clear hR1 hO1) | (go_at_call 29; refine (fault_any _ _ _).mono ?_; unfold faultV; rintro e w3 ⟨rfl, rfl⟩))
            go_ret
            exact SvPost.form (by rw [HE2.out, if_pos HB'.out]) (HO1.out.set 7 _) (HR1.out.err _)
          · have dA : decide (64 < (L : Int) + 7 * (k : Int)) = false := by simp; omega
            have dB : ((7 * (k : Int)) == 63) = false := by rw [beq_eq_false_iff_ne]; omega
            have dC : decide (127 < c) = false := by simp; omega
            have dD : (c == 0) = true := by rw [beq_iff_eq]; omega
            have dE : decide (0 < 7 * (k : Int)) = false := by simp; omega
            have dE' : decide (0 < k) = false := by simp; omega
            have HB' : Hid ¬ ((k = 9 ∧ 1 < c) ∨ (c = 0 ∧ 0 < k)) := Lib.hid (by omega)
            have hos := or_sev hb0 hb1 hk (by omega) hu
            have HOS := Lib.hid hos; clear hos
            clear hLL h9 hc4 hk0
            by_cases h128 : c < 128
            · have dF : decide (c < 128) = true := by simpa using h128
              have H128 := Lib.hid h128; clear h128
              go_wp2_with (first | (go_at_call 121; refine (HLen.out _).mono ?_; rintro e w2 ⟨rfl, rfl⟩) | (go_at_call 86; refine (one_hit HRr.out HSr.out HC.out ⟨hb0, hb1⟩).mono ?_; rintro e w1 ⟨rfl, hR1, hO1⟩; have e7 : w1.cell? ⟨g, 7, none⟩ = some .nilIface := Has.cell hR1 7; have f7 : w1.frozen? ⟨g, 7, none⟩ = false := Has.frozen hR1 7; have z1 : g < w1.heap.size := Has.lt hR1; have HR1 := Lib.hid hR1; have HO1 := Lib.hid (HO.out.trans hO1); clear hR1 hO1) | (go_at_call 29; refine (fault_any _ _ _).mono ?_; unfold faultV; rintro e w3 ⟨rfl, rfl⟩))
              go_ret
              exact SvPost.ok (by rw [HE2.out, if_neg HB'.out, if_pos H128.out]) (by rw [HOS.out.1]; have := H128.out; congr 3 <;> omega) HO1.out (by rw [List.length_drop]; omega) HR1.out
            · have dF : decide (c < 128) = false := by simpa using h128
              have HE3 : Hid (sevGo (bs.drop p) 0 0 = sevGo (bs.drop (p + (k + 1))) (k + 1) (u + (c % 128).toNat * 128 ^ k)) := Lib.hid (by rw [HE2.out, if_neg HB'.out, if_neg h128, show (c % 128).toNat = c.toNat - 128 from by omega]; rfl)
              have hk9 : k ≤ 8 := by have := HB'.out; omega
              have H128 := Lib.hid h128; clear h128
              go_wp2_with (first | (go_at_call 121; refine (HLen.out _).mono ?_; rintro e w2 ⟨rfl, rfl⟩) | (go_at_call 86; refine (one_hit HRr.out HSr.out HC.out ⟨hb0, hb1⟩).mono ?_; rintro e w1 ⟨rfl, hR1, hO1⟩; have e7 : w1.cell? ⟨g, 7, none⟩ = some .nilIface := Has.cell hR1 7; have f7 : w1.frozen? ⟨g, 7, none⟩ = false := Has.frozen hR1 7; have z1 : g < w1.heap.size := Has.lt hR1; have HR1 := Lib.hid hR1; have HO1 := Lib.hid (HO.out.trans hO1); clear hR1 hO1) | (go_at_call 29; refine (fault_any _ _ _).mono ?_; unfold faultV; rintro e w3 ⟨rfl, rfl⟩))
              go_roundw
              case rel => exact ⟨k + 1, _, by rw [HOS.out.1], by first | omega | (congr 1; omega) | (congr 1), by omega, HOS.out.2, by omega, HE3, Lib.hid HR1.out, HO1⟩
              case measure => simp [intOf]; omega
        · have dA : decide (64 < (L : Int) + 7 * (k : Int)) = false := by simp; omega
          have dB : ((7 * (k : Int)) == 63) = false := by rw [beq_eq_false_iff_ne]; omega
          have dD : (c == 0) = false := by rw [beq_eq_false_iff_ne]; omega
          have HB' : Hid ¬ ((k = 9 ∧ 1 < c) ∨ (c = 0 ∧ 0 < k)) := Lib.hid (by omega)
          have hos := or_sev hb0 hb1 hk (by omega) hu
          have HOS := Lib.hid hos; clear hos
          clear hLL h9 hc4
          by_cases h128 : c < 128
          · have dF : decide (c < 128) = true := by simpa using h128
            have H128 := Lib.hid h128; clear h128
            go_wp2_with (first | (go_at_call 121; refine (HLen.out _).mono ?_; rintro e w2 ⟨rfl, rfl⟩) | (go_at_call 86; refine (one_hit HRr.out HSr.out HC.out ⟨hb0, hb1⟩).mono ?_; rintro e w1 ⟨rfl, hR1, hO1⟩; have e7 : w1.cell? ⟨g, 7, none⟩ = some .nilIface := Has.cell hR1 7; have f7 : w1.frozen? ⟨g, 7, none⟩ = false := Has.frozen hR1 7; have z1 : g < w1.heap.size := Has.lt hR1; have HR1 := Lib.hid hR1; have HO1 := Lib.hid (HO.out.trans hO1); clear hR1 hO1) | (go_at_call 29; refine (fault_any _ _ _).mono ?_; unfold faultV; rintro e w3 ⟨rfl, rfl⟩))
            go_ret
            exact SvPost.ok (by rw [HE2.out, if_neg HB'.out, if_pos H128.out]) (by rw [HOS.out.1]; have := H128.out; congr 3 <;> omega) HO1.out (by rw [List.length_drop]; omega) HR1.out
          · have dF : decide (c < 128) = false := by simpa using h128
            have HE3 : Hid (sevGo (bs.drop p) 0 0 = sevGo (bs.drop (p + (k + 1))) (k + 1) (u + (c % 128).toNat * 128 ^ k)) := Lib.hid (by rw [HE2.out, if_neg HB'.out, if_neg h128, show (c % 128).toNat = c.toNat - 128 from by omega]; rfl)
            have hk9 : k ≤ 8 := by have := HB'.out; omega
            have H128 := Lib.hid h128; clear h128
            go_wp2_with (first | (go_at_call 121; refine (HLen.out _).mono ?_; rintro e w2 ⟨rfl, rfl⟩) | (go_at_call 86; refine (one_hit HRr.out HSr.out HC.out ⟨hb0, hb1⟩).mono ?_; rintro e w1 ⟨rfl, hR1, hO1⟩; have e7 : w1.cell? ⟨g, 7, none⟩ = some .nilIface := Has.cell hR1 7; have f7 : w1.frozen? ⟨g, 7, none⟩ = false := Has.frozen hR1 7; have z1 : g < w1.heap.size := Has.lt hR1; have HR1 := Lib.hid hR1; have HO1 := Lib.hid (HO.out.trans hO1); clear hR1 hO1) | (go_at_call 29; refine (fault_any _ _ _).mono ?_; unfold faultV; rintro e w3 ⟨rfl, rfl⟩))
            go_roundw
            case rel => exact ⟨k + 1, _, by rw [HOS.out.1], by first | omega | (congr 1; omega) | (congr 1), by omega, HOS.out.2, by omega, HE3, Lib.hid HR1.out, HO1⟩
            case measure => simp [intOf]; omega
    · have HE2 : Hid (sevGo (bs.drop p) 0 0 = .short) := Lib.hid (by rw [HE.out, List.drop_eq_nil_of_le (by omega)]; rfl)
      go_wp2_with (go_at_call 86; refine (one_end HRr.out HSr.out (by omega) (by omega)).mono ?_; unfold faultV; rintro e w1 ⟨rfl, hR1, hO1⟩; have e7 : w1.cell? ⟨g, 7, none⟩ = some (.iface 89 (.agg #[.int .i64 2, .int .i64 0, .int .i64 (bs.length : Int)])) := Has.cell hR1 7; have f7 : w1.frozen? ⟨g, 7, none⟩ = false := Has.frozen hR1 7; have z1 : g < w1.heap.size := Has.lt hR1; have HR1 := Lib.hid hR1; have HO1 := Lib.hid (HO.out.trans hO1); clear hR1 hO1)
      go_ret
      exact SvPost.short HE2.out HO1.out HR1.out
end codeW
end Go.Proofs.YtbbfpbmogklomaaGreatDoor
