/- busbarref27.Parse of any text. Condition: the text's length. -/
import Derived.Test.YtbhhfdajaoemnaaGreatDoorDumpQs
import Derived.Test.YtbhhfdajaoemnaaGreatDoorDumpN3
import Derived.Test.YtbhhfdajaoemnaaGreatDoorDumpPa
import Derived.Deep.RegionLaw
import Derived.Deep.AppendLies
import Derived.Outline
namespace Go.Proofs.YtbhhfdajaoemnaaGreatDoor
open Go.RowKit Go.Bus Go.Bus.dumpK Go.Bus.textK
set_option linter.unusedVariables false
set_option linter.unusedSimpArgs false
namespace dumpW
def RPa (S : List UInt8) (w : World) (e : Ending) (w' : World) : Prop := Below w.heap.size w w' ∧
  match parseF S with
  | .error no => e = .returned (.tuple #[zeroL, .int .i64 no])
  | .ok l => ∃ v : Value, e = .returned (.tuple #[.agg (lnC l v).toArray, .int .i64 0]) ∧ w'.ownsRow w.heap.size 5 1 v l.data.length (l.data.map (Value.int .u8))
theorem RPa.bad {S : List UInt8} {w w' : World} {no : Int} (h : parseF S = .error no) (hb : Below w.heap.size w w') : RPa S w (.returned (.tuple #[.agg #[.int .u64 0, .string ⟨#[]⟩, .int .u32 0, .bool false, .slice none 0 0], .int .i64 no])) w' := ⟨hb, by rw [h]; rfl⟩
theorem index_at (S : List UInt8) (i : Nat) (h : i < S.length) (z : Int) (hz : z = (i : Nat)) (W : World) : (Instr.index 9 (.string ⟨S.toArray⟩) (.int .i64 z)).run Tryz.prog W = .ok (.int .u8 ((S[i]).toNat : Nat)) W := by
  subst hz
  have h2 : 0 ≤ (i : Int) ∧ (i : Int) < ((⟨S.toArray⟩ : ByteArray).size : Int) := ⟨Int.natCast_nonneg _, by show (i : Int) < (S.toArray.size : Int); simp; exact h⟩
  rw [run_index_string W _ _ _ _ Tryz.underlying9, dif_pos h2]
  rfl
set_option maxRecDepth 100000 in
theorem rmostq_any (b : Bool) (w : World) : Calls Tryz.prog 36 #[.bool b] w fun e w' => e = .returned (.int .u32 (most b : Nat)) ∧ w = w' := by
  cases b
  · go_enter Tryz.func36, Tryz.ntmps36
    go_wp2
    go_ret
    exact ⟨rfl, rfl⟩
  · go_enter Tryz.func36, Tryz.ntmps36
    go_wp2
    go_ret
    exact ⟨rfl, rfl⟩
theorem own_sliceQ {w : World} {base : Nat} {e : TypeId} {k n : Nat} {v : Value} {xs : List Value} (h : w.ownsRow base e k v n xs) : ∃ A c, v = .slice A n c := by
  rcases h.2 with ⟨rfl, h0⟩ | ⟨g, cap, cur, rfl, _, _, h1, h2, _⟩
  · exact ⟨none, 0, by rw [h0]⟩
  · exact ⟨_, _, rfl⟩
set_option maxRecDepth 100000 in
set_option maxHeartbeats 16000000 in
theorem rparse_any (S : List UInt8) (hl : S.length ≤ 16777216) (w : World) : Calls Tryz.prog 18 #[.string ⟨S.toArray⟩] w (RPa S w) := by
  obtain ⟨i0, hi, hz0, hz1, hz2⟩ := info_parts Tryz.infoB
  have HSP := Lib.hid (fun (W : World) => rsplit_any S hl W)
  have HLEN := Lib.hid hl
  obtain ⟨SB, hSB⟩ : ∃ SB : ByteArray, SB = ⟨S.toArray⟩ := ⟨_, rfl⟩
  rw [← hSB] at HSP ⊢
  clear hSB hl
  go_enter Tryz.func18, Tryz.ntmps18
  go_wp2_with fail
  refine (HSP.out _).mono ?_
  rintro e w1 ⟨hb, ⟨hbad, rfl⟩ | ⟨p, h1, h2, rfl⟩⟩
  · have hrw1 : Has w1 w.heap.size 43 #[.int .u64 0, .string ⟨#[]⟩, .int .u32 0, .bool false, .slice none 0 0] := (Has.new w _ _).below hb (by simp)
    have zr1 : w.heap.size < w1.heap.size := hrw1.lt
    have c0w1 : w1.cell? ⟨w.heap.size, 0, none⟩ = some (.int .u64 0) := hrw1.cell 0
    have f0w1 : w1.frozen? ⟨w.heap.size, 0, none⟩ = false := hrw1.frozen 0
    have c1w1 : w1.cell? ⟨w.heap.size, 1, none⟩ = some (.string ⟨#[]⟩) := hrw1.cell 1
    have f1w1 : w1.frozen? ⟨w.heap.size, 1, none⟩ = false := hrw1.frozen 1
    have c2w1 : w1.cell? ⟨w.heap.size, 2, none⟩ = some (.int .u32 0) := hrw1.cell 2
    have f2w1 : w1.frozen? ⟨w.heap.size, 2, none⟩ = false := hrw1.frozen 2
    have c3w1 : w1.cell? ⟨w.heap.size, 3, none⟩ = some (.bool false) := hrw1.cell 3
    have f3w1 : w1.frozen? ⟨w.heap.size, 3, none⟩ = false := hrw1.frozen 3
    have c4w1 : w1.cell? ⟨w.heap.size, 4, none⟩ = some (.slice none 0 0) := hrw1.cell 4
    have f4w1 : w1.frozen? ⟨w.heap.size, 4, none⟩ = false := hrw1.frozen 4
    have HR1 := Lib.hid hrw1
    have HB1 : Hid (Below w.heap.size w w1) := Lib.hid (((Below.refl _ _).alloc (Nat.le_refl _) _).trans (hb.mono (by simp)))
    clear hb hrw1
    have HPF : Hid (parseF S = .error 4) := Lib.hid (by
      unfold parseF
      rcases hbad with h | ⟨p, h, hs⟩
      · rw [h]
      · rw [h]; simp [hs])
    clear hbad
    go_wp2
    refine bodyPost_ret (results_block2 (g := w.heap.size) (T := 43) rfl rfl (by exact (((((HR1.out.set 0 _).set 1 _).set 2 _).set 3 _).set 4 _).alloc _) rfl Tryz.underlying43 rfl (by kernel_rfl)) rfl ?_
    exact RPa.bad HPF.out (by have hB := HB1.out; exact (by repeat' (first | (with_reducible assumption) | (with_reducible refine Below.setCell ?_ ?_ _) | (with_reducible refine Below.alloc ?_ ?_ _) | (with_reducible refine Below.drew ?_) | (with_reducible refine below_drewN ?_ _) | (with_reducible exact Below.refl _ _) | (show _ ≤ _; (try simp); (try omega); done) | exact Below.refl _ _ | assumption)))
  · have hrw1 : Has w1 w.heap.size 43 #[.int .u64 0, .string ⟨#[]⟩, .int .u32 0, .bool false, .slice none 0 0] := (Has.new w _ _).below hb (by simp)
    have zr1 : w.heap.size < w1.heap.size := hrw1.lt
    have c0w1 : w1.cell? ⟨w.heap.size, 0, none⟩ = some (.int .u64 0) := hrw1.cell 0
    have f0w1 : w1.frozen? ⟨w.heap.size, 0, none⟩ = false := hrw1.frozen 0
    have c1w1 : w1.cell? ⟨w.heap.size, 1, none⟩ = some (.string ⟨#[]⟩) := hrw1.cell 1
    have f1w1 : w1.frozen? ⟨w.heap.size, 1, none⟩ = false := hrw1.frozen 1
    have c2w1 : w1.cell? ⟨w.heap.size, 2, none⟩ = some (.int .u32 0) := hrw1.cell 2
    have f2w1 : w1.frozen? ⟨w.heap.size, 2, none⟩ = false := hrw1.frozen 2
    have c3w1 : w1.cell? ⟨w.heap.size, 3, none⟩ = some (.bool false) := hrw1.cell 3
    have f3w1 : w1.frozen? ⟨w.heap.size, 3, none⟩ = false := hrw1.frozen 3
    have c4w1 : w1.cell? ⟨w.heap.size, 4, none⟩ = some (.slice none 0 0) := hrw1.cell 4
    have f4w1 : w1.frozen? ⟨w.heap.size, 4, none⟩ = false := hrw1.frozen 4
    have HR1 := Lib.hid hrw1
    have HB1 : Hid (Below w.heap.size w w1) := Lib.hid (((Below.refl _ _).alloc (Nat.le_refl _) _).trans (hb.mono (by simp)))
    clear hb hrw1
    obtain ⟨hj, -, -, -, -⟩ := pieces_join h1
    have HJL : Hid (S.length = (joinP p).length) := Lib.hid (by rw [← hj])
    have HPP := Lib.hid h1
    have HSS := Lib.hid h2
    obtain ⟨⟨g1, g2, g3⟩, g4, g5, g6, g7, g8, g9, g10⟩ := (shaped_iff _).1 h2
    obtain ⟨pa, pb, pc, pd, pe⟩ := p
    simp only at g1 g2 g3 g4 g5 g6 g7 g8 g9 g10 ⊢
    have hpl : pa.length + pb.length + pc.length + pd.length + pe.length ≤ 16777216 := by
      have := HJL.out
      have := HLEN.out
      unfold joinP at *
      simp only [List.length_cons, List.length_append] at *
      omega
    have hab : allD 10 (pa ++ pb) = true := by
      unfold allD at g2 g5 ⊢
      rw [List.all_append, g2, g5]; rfl
    obtain ⟨V, hV⟩ : ∃ V, V = valN 10 (pa ++ pb) := ⟨_, rfl⟩
    obtain ⟨ID, hID⟩ : ∃ ID, ID = valN 16 pd := ⟨_, rfl⟩
    obtain ⟨WD, hWD⟩ : ∃ WD : Bool, WD = decide (pd.length = 8) := ⟨_, rfl⟩
    obtain ⟨M, hMm⟩ : ∃ M, M = most WD := ⟨_, rfl⟩
    have HPR : Hid (parseF S = if 18446744073709551616 ≤ V then .error 9 else if nameB pc = false then .error 11 else if M < ID then .error 26 else if 16 < pe.length then .error 15 else .ok ⟨V, pc, ID, WD, pairs pe⟩) := Lib.hid (by
      unfold parseF
      rw [HPP.out]
      simp only [HSS.out]
      rw [if_neg (by simp)]
      simp only [← hV, ← hID, ← hWD, ← hMm])
    have hid32 : (ID : Int) < 4294967296 := by
      have h1 := (numN_valN (b := 16) (by decide) _ pd rfl g8).2
      have h2 : 16 ^ pd.length ≤ 16 ^ 8 := Nat.pow_le_pow_right (by decide) (by omega)
      have h3 : (16 : Nat) ^ 8 = 4294967296 := by decide
      rw [← hID] at h1; omega
    have hM32 : (M : Int) < 4294967296 := by rw [hMm]; cases WD <;> decide
    have hwd : ((pd.length : Int) == 8) = WD := by
      rw [hWD]
      by_cases h : pd.length = 8
      · rw [h]; rfl
      · rw [decide_eq_false h]; simp; omega
    have HMS : Hid (∀ W, Calls Tryz.prog 36 #[.bool WD] W fun e w' => e = .returned (.int .u32 (M : Nat)) ∧ W = w') := Lib.hid (fun W => by rw [hMm]; exact rmostq_any WD W)
    have HNM : Hid (∀ W, Calls Tryz.prog 35 #[.string ⟨pc.toArray⟩] W fun e w' => e = .returned (.bool (nameB pc)) ∧ W = w') := Lib.hid (fun W => rname_any pc (by omega) W)
    have HN16 : Hid (∀ W, Calls Tryz.prog 34 #[.string ⟨pd.toArray⟩, .int .u64 16] W fun e w' => e = .returned (.tuple #[.int .u64 (ID : Nat), .bool true]) ∧ W = w') := Lib.hid (fun W => (number_any' pd (by omega) 16 (by decide) (by decide) g8 W).mono (by
      rintro e w' ⟨⟨-, rfl⟩ | ⟨h, -⟩, rfl⟩
      · rw [hID]; exact ⟨rfl, rfl⟩
      · exfalso; rw [← hID] at h; omega))
    have HN10 : Hid (∀ W, Calls Tryz.prog 34 #[.string ((⟨pa.toArray⟩ : ByteArray) ++ ⟨pb.toArray⟩), .int .u64 10] W fun e w' => ((V < 18446744073709551616 ∧ e = .returned (.tuple #[.int .u64 (V : Nat), .bool true])) ∨ (18446744073709551616 ≤ V ∧ e = .returned (.tuple #[.int .u64 0, .bool false]))) ∧ W = w') := Lib.hid (fun W => by
      rw [strApp, hV]
      exact number_any' (pa ++ pb) (by rw [List.length_append]; omega) 10 (by decide) (by decide) hab W)
    have HPE := Lib.hid g10
    have HEV := Lib.hid g9
    have hcat : ¬ 9223372036854775807 < pa.length + pb.length := by omega
    clear hj h1 h2 g1 g2 g3 g4 g5 g6 g7 g8 g9 g10 hab hV hID hWD hMm
    go_wp2_with fail
    refine (HN10.out _).mono ?_
    rintro e w2 ⟨⟨hV64, rfl⟩ | ⟨hV64, rfl⟩, rfl⟩
    · cases hnm : nameB pc with
      | false =>
        have HPF : Hid (parseF S = .error 11) := Lib.hid (by rw [HPR.out, if_neg (by omega), if_pos hnm])
        rw [hnm] at HNM
        clear hnm hV64
        go_wp2_with fail
        refine (HNM.out _).mono ?_
        rintro e w3 ⟨rfl, rfl⟩
        go_wp2
        refine bodyPost_ret (results_block2 (g := w.heap.size) (T := 43) rfl rfl (by exact (((((HR1.out.set 0 _).set 1 _).set 2 _).set 3 _).set 4 _).alloc _) rfl Tryz.underlying43 rfl (by kernel_rfl)) rfl ?_
        exact RPa.bad HPF.out (by have hB := HB1.out; exact (by repeat' (first | (with_reducible assumption) | (with_reducible refine Below.setCell ?_ ?_ _) | (with_reducible refine Below.alloc ?_ ?_ _) | (with_reducible refine Below.drew ?_) | (with_reducible refine below_drewN ?_ _) | (with_reducible exact Below.refl _ _) | (show _ ≤ _; (try simp); (try omega); done) | exact Below.refl _ _ | assumption)))
      | true =>
        rw [hnm] at HNM
        have HPR2 : Hid (parseF S = if M < ID then .error 26 else if 16 < pe.length then .error 15 else .ok ⟨V, pc, ID, WD, pairs pe⟩) := Lib.hid (by rw [HPR.out, if_neg (by omega), if_neg (by simp [hnm])])
        clear hnm HPR hV64
        by_cases hmi : M < ID
        · have HPF : Hid (parseF S = .error 26) := Lib.hid (by rw [HPR2.out, if_pos hmi])
          have d1 : decide ((M : Int) < (ID : Int)) = true := by simp; omega
          have d2 : decide (M < ID) = true := by simp; omega
          go_wp2_with fail
          refine (HNM.out _).mono ?_
          rintro e w3 ⟨rfl, rfl⟩
          go_wp2_with fail
          refine (HN16.out _).mono ?_
          rintro e w4 ⟨rfl, rfl⟩
          go_wp2_with fail
          refine (HMS.out _).mono ?_
          rintro e w5 ⟨rfl, rfl⟩
          go_wp2
          refine bodyPost_ret (results_block2 (g := w.heap.size) (T := 43) rfl rfl (by exact (((((HR1.out.set 0 _).set 1 _).set 2 _).set 3 _).set 4 _).alloc _) rfl Tryz.underlying43 rfl (by kernel_rfl)) rfl ?_
          exact RPa.bad HPF.out (by have hB := HB1.out; exact (by repeat' (first | (with_reducible assumption) | (with_reducible refine Below.setCell ?_ ?_ _) | (with_reducible refine Below.alloc ?_ ?_ _) | (with_reducible refine Below.drew ?_) | (with_reducible refine below_drewN ?_ _) | (with_reducible exact Below.refl _ _) | (show _ ≤ _; (try simp); (try omega); done) | exact Below.refl _ _ | assumption)))
        · have d1 : decide ((M : Int) < (ID : Int)) = false := by simp; omega
          have d2 : decide (M < ID) = false := by simp; omega
          by_cases hdl : 16 < pe.length
          · have HPF : Hid (parseF S = .error 15) := Lib.hid (by rw [HPR2.out, if_neg hmi, if_pos hdl])
            have d3 : decide ((16 : Int) < (pe.length : Int)) = true := by simp; omega
            have d4 : decide (16 < pe.length) = true := by simp; omega
            clear hmi
            go_wp2_with fail
            refine (HNM.out _).mono ?_
            rintro e w3 ⟨rfl, rfl⟩
            go_wp2_with fail
            refine (HN16.out _).mono ?_
            rintro e w4 ⟨rfl, rfl⟩
            go_wp2_with fail
            refine (HMS.out _).mono ?_
            rintro e w5 ⟨rfl, rfl⟩
            go_wp2
            refine bodyPost_ret (results_block2 (g := w.heap.size) (T := 43) rfl rfl (by exact (((((HR1.out.set 0 _).set 1 _).set 2 _).set 3 _).set 4 _).alloc _) rfl Tryz.underlying43 rfl (by kernel_rfl)) rfl ?_
            exact RPa.bad HPF.out (by have hB := HB1.out; exact (by repeat' (first | (with_reducible assumption) | (with_reducible refine Below.setCell ?_ ?_ _) | (with_reducible refine Below.alloc ?_ ?_ _) | (with_reducible refine Below.drew ?_) | (with_reducible refine below_drewN ?_ _) | (with_reducible exact Below.refl _ _) | (show _ ≤ _; (try simp); (try omega); done) | exact Below.refl _ _ | assumption)))
          · have HPF : Hid (parseF S = .ok ⟨V, pc, ID, WD, pairs pe⟩) := Lib.hid (by rw [HPR2.out, if_neg hmi, if_neg hdl])
            have d3 : decide ((16 : Int) < (pe.length : Int)) = false := by simp; omega
            have d4 : decide (16 < pe.length) = false := by simp; omega
            have hpe16 : pe.length ≤ 16 := by omega
            clear hmi hdl HPR2
            go_wp2_with fail
            refine (HNM.out _).mono ?_
            rintro e w3 ⟨rfl, rfl⟩
            go_wp2_with fail
            refine (HN16.out _).mono ?_
            rintro e w4 ⟨rfl, rfl⟩
            go_wp2_with fail
            refine (HMS.out _).mono ?_
            rintro e w5 ⟨rfl, rfl⟩
            go_wp2
            go_loopw [10, 11] (fun tv iv wr => ∃ (i : Nat) (done : List Int), iv = .int .i64 (i : Nat) ∧ i ≤ pe.length ∧ Hid (i = 2 * done.length) ∧ Hid (wr.ownsRow (w1.heap.size + 1) 5 1 tv done.length (done.map (Value.int .u8))) ∧ Hid (Below (w1.heap.size + 1) (w1.alloc (.cells #[.string ⟨pa.toArray⟩, .string ⟨pb.toArray⟩, .string ⟨pc.toArray⟩, .string ⟨pd.toArray⟩, .string ⟨pe.toArray⟩] 87)) wr) ∧ Hid (pairs pe = done ++ pairs (pe.drop i))) (fun _ iv _ => pe.length - (intOf iv).toNat)
            case atStart => exact ⟨0, [], rfl, Nat.zero_le _, Lib.hid rfl, Lib.hid (World.ownsRow_nil _ _ _ _), Lib.hid (Below.refl _ _), Lib.hid rfl⟩
            case round =>
              obtain ⟨i, done, rfl, hi2, HI, HOr, HBr, HE⟩ := hrel
              obtain ⟨vA, vc, hvd⟩ := own_sliceQ HOr.out
              have hzr : w1.heap.size + 1 ≤ wr.heap.size := by have h := HBr.out.size; simpa using h
              have hrwr : Has wr w.heap.size 43 #[.int .u64 0, .string ⟨#[]⟩, .int .u32 0, .bool false, .slice none 0 0] := Has.below (by exact HR1.out.alloc _) HBr.out (by omega)
              have hxwr : Has wr w1.heap.size 87 #[.string ⟨pa.toArray⟩, .string ⟨pb.toArray⟩, .string ⟨pc.toArray⟩, .string ⟨pd.toArray⟩, .string ⟨pe.toArray⟩] := (Has.new w1 _ _).below HBr.out (by omega)
              have c0wr : wr.cell? ⟨w.heap.size, 0, none⟩ = some (.int .u64 0) := hrwr.cell 0
              have f0wr : wr.frozen? ⟨w.heap.size, 0, none⟩ = false := hrwr.frozen 0
              have c1wr : wr.cell? ⟨w.heap.size, 1, none⟩ = some (.string ⟨#[]⟩) := hrwr.cell 1
              have f1wr : wr.frozen? ⟨w.heap.size, 1, none⟩ = false := hrwr.frozen 1
              have c2wr : wr.cell? ⟨w.heap.size, 2, none⟩ = some (.int .u32 0) := hrwr.cell 2
              have f2wr : wr.frozen? ⟨w.heap.size, 2, none⟩ = false := hrwr.frozen 2
              have c3wr : wr.cell? ⟨w.heap.size, 3, none⟩ = some (.bool false) := hrwr.cell 3
              have f3wr : wr.frozen? ⟨w.heap.size, 3, none⟩ = false := hrwr.frozen 3
              have c4wr : wr.cell? ⟨w.heap.size, 4, none⟩ = some (.slice none 0 0) := hrwr.cell 4
              have f4wr : wr.frozen? ⟨w.heap.size, 4, none⟩ = false := hrwr.frozen 4
              have x2wr : wr.cell? ⟨w1.heap.size, 2, none⟩ = some (.string ⟨pc.toArray⟩) := hxwr.cell 2
              have x4wr : wr.cell? ⟨w1.heap.size, 4, none⟩ = some (.string ⟨pe.toArray⟩) := hxwr.cell 4
              have zXwr : w1.heap.size < wr.heap.size := hxwr.lt
              have HRwr := Lib.hid hrwr
              have HXwr := Lib.hid hxwr
              clear hrwr hxwr
              by_cases hlt : i < pe.length
              · have hlt2 : i + 1 < pe.length := by have := HEV.out; have := HI.out; omega
                have hdn : done.length ≤ 8 := by have := HI.out; omega
                have k1 : isD 16 pe[i] = true := List.all_eq_true.1 HPE.out _ (List.getElem_mem hlt)
                have k2 : isD 16 pe[i + 1] = true := List.all_eq_true.1 HPE.out _ (List.getElem_mem hlt2)
                obtain ⟨q1, q2⟩ := dgI_isD _ k1
                obtain ⟨q3, q4⟩ := dgI_isD _ k2
                have hx1 := fun W => index_at pe i hlt (i : Nat) rfl W
                have hx2 := fun W => index_at pe (i + 1) hlt2 (IntKind.i64.wrap ((i : Int) + 1)) (by rw [IntKind.wrap_i64]; omega) W
                have HN0 : Hid (pairs pe = (done ++ [((dv pe[i] * 16 + dv pe[i + 1] : Nat) : Int)]) ++ pairs (pe.drop (i + 2))) := Lib.hid (by rw [HE.out, pairs_drop pe i hlt2, List.append_assoc]; rfl)
                obtain ⟨y1, hy1⟩ : ∃ y, y = pe[i] := ⟨_, rfl⟩
                obtain ⟨y2, hy2⟩ : ∃ y, y = pe[i + 1] := ⟨_, rfl⟩
                rw [← hy1] at q1 q2 hx1 HN0
                rw [← hy2] at q3 q4 hx2 HN0
                obtain ⟨d1', hd1'⟩ : ∃ d, d = dv y1 := ⟨_, rfl⟩
                obtain ⟨d2', hd2'⟩ : ∃ d, d = dv y2 := ⟨_, rfl⟩
                rw [← hd1'] at q1 q2 HN0
                rw [← hd2'] at q3 q4 HN0
                obtain ⟨Q, hQ⟩ : ∃ Q, Q = d1' * 16 := ⟨_, rfl⟩
                obtain ⟨D, hD⟩ : ∃ D, D = Q + d2' := ⟨_, rfl⟩
                have hmul : IntKind.i64.wrap ((d1' : Int) * 16) = (Q : Int) := by rw [IntKind.wrap_i64]; omega
                have hadd : IntKind.i64.wrap ((Q : Int) + (d2' : Int)) = (D : Int) := by rw [IntKind.wrap_i64]; omega
                have hu8 : IntKind.u8.wrap (D : Int) = (D : Int) := by rw [IntKind.wrap_u8]; omega
                have HN : Hid (pairs pe = (done ++ [(D : Int)]) ++ pairs (pe.drop (i + 2))) := Lib.hid (by rw [HN0.out, hD, hQ])
                clear k1 k2 q2 q4 hy1 hy2 hd1' hd2' hQ hD HN0
                subst hvd
                have HOw := Lib.hid HOr.out
                go_wp2_with fail
                go_region_law (first
                  | (go_simp; refine (digit_any _ _).mono ?_; rintro e w2 ⟨rfl, rfl⟩; first | rw [q1] | rw [q3])
                  | (refine step_append_lies _ (by rfl) (.tmp 65) (.tmp 80) 38 (by rfl) (w1.heap.size + 1) 5 i0 (.int .u8 0) 1 1 Tryz.underlying38 hi hz0 hz1 hz2 (by rfl) (by decide) (.slice vA done.length vc) done.length (done.map (Value.int .u8)) (by rfl) (by exact HOw.out.alloc _) ⟨wr.heap.size, 0, none⟩ 1 1 [.int .u8 (D : Nat)] (by rfl) (by rfl) (by exact one_new _ _ _) (by intro u hu; simp at hu; subst hu; rfl) (by omega) (by unfold maxLen; omega) (by omega) (by simp; omega) _ (by rfl) ?_; intro g c W3 hown1 hg1 hgg hlt1; have HO3 := Lib.hid hown1; have HG3 := Lib.hid hg1; clear hown1 hg1 hgg))
                all_goals
                  have HB3 : Hid (Below (w1.heap.size + 1) (w1.alloc (.cells #[.string ⟨pa.toArray⟩, .string ⟨pb.toArray⟩, .string ⟨pc.toArray⟩, .string ⟨pd.toArray⟩, .string ⟨pe.toArray⟩] 87)) W3) := Lib.hid (Below.grown (by have hB := HBr.out; exact (by repeat' (first | (with_reducible assumption) | (with_reducible refine Below.setCell ?_ ?_ _) | (with_reducible refine Below.alloc ?_ ?_ _) | (with_reducible refine Below.drew ?_) | (with_reducible refine below_drewN ?_ _) | (with_reducible exact Below.refl _ _) | (show _ ≤ _; (try simp); (try omega); done) | exact Below.refl _ _ | assumption))) HG3.out (by simp; omega) fun r hr => (HOw.out.lt r hr).1)
                  have HO4 : Hid (W3.ownsRow (w1.heap.size + 1) 5 1 (.slice (some ⟨g, 0, none⟩) (done.length + 1) c) (done ++ [(D : Int)]).length ((done ++ [(D : Int)]).map (Value.int .u8))) := Lib.hid (by rw [List.length_append, List.map_append]; exact HO3.out)
                  clear HO3 HG3
                  go_wp2
                  go_roundw
                all_goals first
                  | exact ⟨i + 2, done ++ [(D : Int)], by go_num, by omega, Lib.hid (by have := HI.out; rw [List.length_append]; simp; omega), HO4, HB3, HN⟩
                  | (simp [intOf]; omega)
              · obtain rfl : i = pe.length := by omega
                have HDN : Hid (pairs pe = done) := Lib.hid (by have h := HE.out; rw [List.drop_length] at h; rw [h]; simp [pairs])
                subst hvd
                have HBW : Hid (Below w.heap.size w wr) := Lib.hid (Below.trans (by have hB := HB1.out; exact (by repeat' (first | (with_reducible assumption) | (with_reducible refine Below.setCell ?_ ?_ _) | (with_reducible refine Below.alloc ?_ ?_ _) | (with_reducible refine Below.drew ?_) | (with_reducible refine below_drewN ?_ _) | (with_reducible exact Below.refl _ _) | (show _ ≤ _; (try simp); (try omega); done) | exact Below.refl _ _ | assumption))) (HBr.out.mono (by omega)))
                have zRx : w.heap.size < w1.heap.size + 1 := by omega
                go_wp2
                refine bodyPost_ret (results_block2 (g := w.heap.size) (T := 43) rfl rfl (by exact ((((HRwr.out.set 0 _).set 1 _).set 2 _).set 3 _).set 4 _) rfl Tryz.underlying43 rfl (by kernel_rfl)) rfl ?_
                refine ⟨by have hB := HBW.out; exact (by repeat' (first | (with_reducible assumption) | (with_reducible refine Below.setCell ?_ ?_ _) | (with_reducible refine Below.alloc ?_ ?_ _) | (with_reducible refine Below.drew ?_) | (with_reducible refine below_drewN ?_ _) | (with_reducible exact Below.refl _ _) | (show _ ≤ _; (try simp); (try omega); done) | exact Below.refl _ _ | assumption)), ?_⟩
                rw [HPF.out]
                refine ⟨_, rfl, ?_⟩
                show World.ownsRow _ w.heap.size 5 1 _ (pairs pe).length ((pairs pe).map (Value.int .u8))
                rw [HDN.out]
                exact own_base (ownsRow_setCell_below (ownsRow_setCell_below (ownsRow_setCell_below (ownsRow_setCell_below (ownsRow_setCell_below HOr.out zRx _) zRx _) zRx _) zRx _) zRx _) (Nat.le_of_lt zRx)
    · have HPF : Hid (parseF S = .error 9) := Lib.hid (by rw [HPR.out, if_pos hV64])
      clear hV64
      go_wp2
      refine bodyPost_ret (results_block2 (g := w.heap.size) (T := 43) rfl rfl (by exact (((((HR1.out.set 0 _).set 1 _).set 2 _).set 3 _).set 4 _).alloc _) rfl Tryz.underlying43 rfl (by kernel_rfl)) rfl ?_
      exact RPa.bad HPF.out (by have hB := HB1.out; exact (by repeat' (first | (with_reducible assumption) | (with_reducible refine Below.setCell ?_ ?_ _) | (with_reducible refine Below.alloc ?_ ?_ _) | (with_reducible refine Below.drew ?_) | (with_reducible refine below_drewN ?_ _) | (with_reducible exact Below.refl _ _) | (show _ ≤ _; (try simp); (try omega); done) | exact Below.refl _ _ | assumption)))
end dumpW
end Go.Proofs.YtbhhfdajaoemnaaGreatDoor
