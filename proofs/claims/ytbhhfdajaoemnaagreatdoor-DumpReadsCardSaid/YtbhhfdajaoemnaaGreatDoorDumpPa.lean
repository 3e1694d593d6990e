/- dump.Parse of any text. Conditions: the text's length; the library's tables and one of its errors are laid, one variable of the library's holds some int. -/
import Derived.Test.YtbhhfdajaoemnaaGreatDoorDumpSp
import Derived.Test.YtbhhfdajaoemnaaGreatDoorDumpPr
import Derived.Test.YtbhhfdajaoemnaaGreatDoorDumpPu
import Derived.Test.YtbhhfdajaoemnaaGreatDoorShelf5
import Derived.Test.YtbhhfdajaoemnaaGreatDoorLaid
import Derived.Test.YtbhhfdajaoemnaaGreatDoorInfo
import Derived.OwnWalk
namespace Go.Bus.dumpK
open Go.Bus.textK Go.Lib
set_option linter.unusedVariables false
theorem val_pair (x y : UInt8) : valN 16 [x, y] = dv x * 16 + dv y := by simp [valN]; omega
end Go.Bus.dumpK
namespace Go.Proofs.YtbhhfdajaoemnaaGreatDoor
open Go.RowKit Go.Bus Go.Bus.dumpK Go.Bus.textK
set_option linter.unusedVariables false
set_option linter.unusedSimpArgs false
namespace dumpW
/-- What Parse answers. -/
def zeroL : Value := .agg #[.int .u64 0, .string ⟨#[]⟩, .int .u32 0, .bool false, .slice none 0 0]
def DPa (S : List UInt8) (w : World) (e : Ending) (w' : World) : Prop := Below w.heap.size w w' ∧
  match parseF S with
  | .error no => e = .returned (.tuple #[zeroL, .iface 74 (.int .i64 no)])
  | .ok l => ∃ v : Value, e = .returned (.tuple #[.agg (lnC l v).toArray, .nilIface]) ∧ w'.ownsRow w.heap.size 5 1 v l.data.length (l.data.map (Value.int .u8))
theorem DPa.bad {S : List UInt8} {w w' : World} {no : Int} (h : parseF S = .error no) (hb : Below w.heap.size w w') : DPa S w (.returned (.tuple #[.agg #[.int .u64 0, .string ⟨#[]⟩, .int .u32 0, .bool false, .slice none 0 0], .iface 74 (.int .i64 no)])) w' := ⟨hb, by rw [h]; rfl⟩
theorem pu10 (s : List UInt8) (hs : s ≠ []) (ha : allD 10 s = true) (hl : s.length ≤ 281474976710656) (w : World) (hR : laidK.Rng w) : Calls Tryz.prog 39 #[.string ⟨s.toArray⟩, .int .i64 10, .int .i64 64] w fun e w' => Below w.heap.size w w' ∧ ((valN 10 s < 18446744073709551616 ∧ e = .returned (.tuple #[.int .u64 (valN 10 s : Nat), .nilIface])) ∨ (18446744073709551616 ≤ valN 10 s ∧ ∃ N : Nat, e = .returned (.tuple #[.int .u64 18446744073709551615, .iface 231 (.pointer (some ⟨N, 0, none⟩))]))) := by
  rw [allD_dig] at ha
  have hv := valN_val _ s rfl ha
  have hp := parseB hs ha
  have hd : (⟨s.toArray⟩ : ByteArray).data.toList = s := rfl
  obtain ⟨tp, p, hvar⟩ := hR
  by_cases h : val s ≤ 18446744073709551615
  · rw [if_pos h] at hp
    refine (Tryz.strconv_ParseUint_10_at64_ok ⟨s.toArray⟩ (by show s.toArray.size ≤ _; simp; omega) _ (by rw [hd]; exact hp) w).mono ?_
    rintro e w' ⟨rfl, hw⟩
    refine ⟨?_, .inl ⟨by omega, by rw [hv]⟩⟩
    rcases hw with rfl | rfl
    · exact Below.refl _ _
    · exact Lib.bytesWorld_below _ _ _
  · rw [if_neg h] at hp
    refine (Tryz.strconv_ParseUint_10_at64_range_var ⟨s.toArray⟩ (by show s.toArray.size ≤ _; simp; omega) (by rw [hd]; exact hp) tp p w hvar).mono ?_
    rintro e w' ⟨N, rfl, _, _, hb⟩
    exact ⟨hb, .inr ⟨by omega, N, rfl⟩⟩
set_option maxRecDepth 100000 in
set_option maxHeartbeats 1000000 in
theorem dparse_form (S : List UInt8) (hl : S.length ≤ 16777216) (w : World) (hM : Mx w) (hp : pieces S = none ∨ ∃ p, pieces S = some p ∧ shaped p = false) : Calls Tryz.prog 19 #[.string ⟨S.toArray⟩] w (DPa S w) := by
  have HPF : Hid (parseF S = .error 4) := Lib.hid (by
    unfold parseF
    rcases hp with h | ⟨p, h, hs⟩
    · rw [h]
    · rw [h]; simp [hs])
  have HNO : Hid (¬ ∃ p, pieces S = some p ∧ shaped p = true) := Lib.hid (by
    rintro ⟨p, h, hs⟩
    rcases hp with h' | ⟨p', h', hs'⟩
    · rw [h'] at h; cases h
    · rw [h'] at h; cases h; rw [hs'] at hs; cases hs)
  have HM := Lib.hid hM
  have HSP := Lib.hid (fun (W : World) (hb : Below w.heap.size w W) => split_any S hl W (HM.out.at_below hb))
  obtain ⟨SB, hSB⟩ : ∃ SB : ByteArray, SB = ⟨S.toArray⟩ := ⟨_, rfl⟩
  rw [← hSB] at HSP ⊢
  clear hp hM hSB
  go_enter Tryz.func19, Tryz.ntmps19
  go_wp2_with fail
  refine (HSP.out _ ((Below.refl _ _).alloc (Nat.le_refl _) _)).mono ?_
  rintro e w1 ⟨hb, ⟨v0, v1, v2, v3, v4, rfl, _⟩ | ⟨p, h1, h2, _⟩⟩
  · have hr1 : Has w1 w.heap.size 43 #[.int .u64 0, .string ⟨#[]⟩, .int .u32 0, .bool false, .slice none 0 0] := (Has.new w _ _).below hb (by simp)
    have z1 : w.heap.size < w1.heap.size := hr1.lt
    have c0 : w1.cell? ⟨w.heap.size, 0, none⟩ = some (.int .u64 0) := hr1.cell 0
    have c1 : w1.cell? ⟨w.heap.size, 1, none⟩ = some (.string ⟨#[]⟩) := hr1.cell 1
    have c2 : w1.cell? ⟨w.heap.size, 2, none⟩ = some (.int .u32 0) := hr1.cell 2
    have c3 : w1.cell? ⟨w.heap.size, 3, none⟩ = some (.bool false) := hr1.cell 3
    have c4 : w1.cell? ⟨w.heap.size, 4, none⟩ = some (.slice none 0 0) := hr1.cell 4
    have f0 : w1.frozen? ⟨w.heap.size, 0, none⟩ = false := hr1.frozen 0
    have f1 : w1.frozen? ⟨w.heap.size, 1, none⟩ = false := hr1.frozen 1
    have f2 : w1.frozen? ⟨w.heap.size, 2, none⟩ = false := hr1.frozen 2
    have f3 : w1.frozen? ⟨w.heap.size, 3, none⟩ = false := hr1.frozen 3
    have f4 : w1.frozen? ⟨w.heap.size, 4, none⟩ = false := hr1.frozen 4
    have HR1 := Lib.hid hr1
    have HB1 : Hid (Below w.heap.size w w1) := Lib.hid (((Below.refl _ _).alloc (Nat.le_refl _) _).trans (hb.mono (by simp)))
    clear hb hr1
    go_wp2
    refine bodyPost_ret (results_block2 (g := w.heap.size) (T := 43) rfl rfl (by exact (((((HR1.out.set 0 _).set 1 _).set 2 _).set 3 _).set 4 _).alloc _) rfl Tryz.underlying43 rfl (by kernel_rfl)) rfl ?_
    exact DPa.bad HPF.out (by have hB := HB1.out; exact (by repeat' (first | (with_reducible assumption) | (with_reducible refine Below.setCell ?_ ?_ _) | (with_reducible refine Below.alloc ?_ ?_ _) | (with_reducible refine Below.drew ?_) | (with_reducible refine below_drewN ?_ _) | (with_reducible exact Below.refl _ _) | (show _ ≤ _; (try simp); (try omega); done) | exact Below.refl _ _ | assumption)))
  · exact absurd ⟨p, h1, h2⟩ HNO.out
theorem extract_two (S : List UInt8) (i : Nat) (h : i + 1 < S.length) : (⟨S.toArray⟩ : ByteArray).extract i (i + 2) = ⟨#[S[i], S[i + 1]]⟩ := by
  apply ByteArray.ext
  have e : (S.drop i).take 2 = [S[i], S[i + 1]] := by
    rw [List.drop_eq_getElem_cons (by omega : i < S.length), List.drop_eq_getElem_cons h]; rfl
  have e2 : ((⟨S.toArray⟩ : ByteArray).extract i (i + 2)).data.toList = (S.drop i).take 2 := by simp
  rw [← Array.toArray_toList (xs := ((⟨S.toArray⟩ : ByteArray).extract i (i + 2)).data), e2, e]
theorem pairs_drop (S : List UInt8) (i : Nat) (h : i + 1 < S.length) : pairs (S.drop i) = ((dv S[i] * 16 + dv S[i + 1] : Nat) : Int) :: pairs (S.drop (i + 2)) := by
  rw [List.drop_eq_getElem_cons (by omega : i < S.length), List.drop_eq_getElem_cons h]; rfl
set_option maxRecDepth 100000 in
set_option maxHeartbeats 16000000 in
theorem dparse_good (S : List UInt8) (hl : S.length ≤ 16777216) (w : World) (hM : Mx w) (hR : laidK.Rng w) (p : Pcs) (hp : pieces S = some p) (hsh : shaped p = true) : Calls Tryz.prog 19 #[.string ⟨S.toArray⟩] w (DPa S w) := by
  have HM := Lib.hid hM
  have HRG := Lib.hid hR
  obtain ⟨i0, hi, hz0, hz1, hz2⟩ := info_parts Tryz.infoB
  have HSP := Lib.hid (fun (W : World) (hb : Below w.heap.size w W) => split_any S hl W (HM.out.at_below hb))
  obtain ⟨hj, -, -, -, -⟩ := pieces_join hp
  have HJL : Hid (S.length = (joinP p).length) := Lib.hid (by rw [← hj])
  have HPP := Lib.hid hp
  have HSS := Lib.hid hsh
  obtain ⟨pa, pb, pc, pd, pe⟩ := p
  have hsh' := hsh
  unfold shaped at hsh'
  simp only [Bool.and_eq_true] at hsh'
  obtain ⟨⟨⟨⟨⟨⟨⟨s1, s2⟩, s3⟩, s4⟩, s5⟩, s6⟩, s7⟩, s8⟩ := hsh'
  have hpl : pa.length + pb.length + pc.length + pd.length + pe.length ≤ 16777216 := by
    have := HJL.out
    unfold joinP at this
    simp only [List.length_cons, List.length_append] at this
    omega
  have hb6 := of_decide_eq_true s2
  have hev := of_decide_eq_true s7
  have hab : allD 10 (pa ++ pb) = true := by
    have h1 := good_all s1
    rw [← allD_dig] at h1
    unfold allD at h1 s3 ⊢
    rw [List.all_append, h1, s3]; rfl
  have habn : pa ++ pb ≠ [] := fun e => good_ne s1 (List.append_eq_nil_iff.1 e).1
  have hd38 : pd.length = 3 ∨ pd.length = 8 := by simpa using s5
  have hdn : pd ≠ [] := fun e => by rw [e] at hd38; simp at hd38
  obtain ⟨V, hV⟩ : ∃ V, V = valN 10 (pa ++ pb) := ⟨_, rfl⟩
  obtain ⟨ID, hID⟩ : ∃ ID, ID = valN 16 pd := ⟨_, rfl⟩
  obtain ⟨WD, hWD⟩ : ∃ WD : Bool, WD = decide (pd.length = 8) := ⟨_, rfl⟩
  obtain ⟨M, hMm⟩ : ∃ M, M = most WD := ⟨_, rfl⟩
  obtain ⟨n, hn⟩ : ∃ n, n = wid WD := ⟨_, rfl⟩
  have HPR : Hid (parseF S = if 18446744073709551616 ≤ V then .error 9 else if nameB pc = false then .error 11 else if M < ID then .error 26 else if 16 < pe.length then .error 15 else .ok ⟨V, pc, ID, WD, pairs pe⟩) := Lib.hid (by
    unfold parseF
    rw [HPP.out]
    simp only [hsh]
    rw [if_neg (by simp)]
    simp only [← hV, ← hID, ← hWD, ← hMm])
  have hid32 : (ID : Int) < 4294967296 := by
    have h1 := (numN_valN (b := 16) (by decide) _ pd rfl s6).2
    have h2 : 16 ^ pd.length ≤ 16 ^ 8 := Nat.pow_le_pow_right (by decide) (by omega)
    have h3 : (16 : Nat) ^ 8 = 4294967296 := by decide
    rw [← hID] at h1; omega
  have hM32 : (M : Int) < 4294967296 := by rw [hMm]; cases WD <;> decide
  have hwd : ((pd.length : Int) == 8) = WD := by
    rw [hWD]
    by_cases h : pd.length = 8
    · rw [h]; rfl
    · rw [decide_eq_false h]; simp; omega
  have HMS := Lib.hid (fun (W : World) => most_any WD W)
  rw [← hMm, ← hn] at HMS
  have HNM : Hid (∀ W, Calls Tryz.prog 30 #[.string ⟨pc.toArray⟩] W fun e w' => e = .returned (.bool (nameB pc)) ∧ Below W.heap.size W w') := Lib.hid (fun W => name_any pc (by omega) W)
  have HP32 : Hid (∀ W, Calls Tryz.prog 39 #[.string ⟨pd.toArray⟩, .int .i64 16, .int .i64 32] W fun e w' => e = .returned (.tuple #[.int .u64 (ID : Nat), .nilIface]) ∧ Below W.heap.size W w') := Lib.hid (fun W => by rw [hID]; exact pu32 pd hdn s6 (by omega) W)
  have HP10 : Hid (∀ W, Below w.heap.size w W → Calls Tryz.prog 39 #[.string ((⟨pa.toArray⟩ : ByteArray) ++ ⟨pb.toArray⟩), .int .i64 10, .int .i64 64] W fun e w' => Below W.heap.size W w' ∧ ((V < 18446744073709551616 ∧ e = .returned (.tuple #[.int .u64 (V : Nat), .nilIface])) ∨ (18446744073709551616 ≤ V ∧ ∃ N : Nat, e = .returned (.tuple #[.int .u64 18446744073709551615, .iface 231 (.pointer (some ⟨N, 0, none⟩))])))) := Lib.hid (fun W hb => by
    rw [strApp, hV]
    exact pu10 (pa ++ pb) habn hab (by rw [List.length_append]; omega) W (HRG.out.at_below hb))
  have HPE := Lib.hid s8
  have HEV := Lib.hid hev
  have hcat : ¬ 9223372036854775807 < pa.length + pb.length := by omega
  obtain ⟨SB, hSB⟩ : ∃ SB : ByteArray, SB = ⟨S.toArray⟩ := ⟨_, rfl⟩
  rw [← hSB] at HSP ⊢
  clear hM hR hl hj hsh hp s1 s2 s3 s4 s5 s6 s7 s8 hb6 hev hab habn hd38 hdn hV hID hWD hMm hn hSB
  go_enter Tryz.func19, Tryz.ntmps19
  go_wp2_with fail
  refine (HSP.out _ ((Below.refl _ _).alloc (Nat.le_refl _) _)).mono ?_
  rintro e w1 ⟨hb, ⟨v0, v1, v2, v3, v4, rfl, hbad⟩ | ⟨p, h1, -, rfl⟩⟩
  · exfalso
    rcases hbad with h | ⟨p', h, hs⟩
    · rw [HPP.out] at h; cases h
    · rw [HPP.out] at h; cases h; rw [HSS.out] at hs; cases hs
  · rw [HPP.out] at h1
    cases h1
    have hr1 : Has w1 w.heap.size 43 #[.int .u64 0, .string ⟨#[]⟩, .int .u32 0, .bool false, .slice none 0 0] := (Has.new w _ _).below hb (by simp)
    have zr1 : w.heap.size < w1.heap.size := hr1.lt
    have HR1 := Lib.hid hr1
    have HB1 : Hid (Below w.heap.size w w1) := Lib.hid (((Below.refl _ _).alloc (Nat.le_refl _) _).trans (hb.mono (by simp)))
    clear hb hr1
    go_wp2_with fail
    refine (HP10.out _ (by have hB := HB1.out; exact (by repeat' (first | (with_reducible assumption) | (with_reducible refine Below.setCell ?_ ?_ _) | (with_reducible refine Below.alloc ?_ ?_ _) | (with_reducible refine Below.drew ?_) | (with_reducible refine below_drewN ?_ _) | (with_reducible exact Below.refl _ _) | (show _ ≤ _; (try simp); (try omega); done) | exact Below.refl _ _ | assumption)))).mono ?_
    rintro e w3 ⟨hb, h10⟩
    obtain ⟨X, hX⟩ : ∃ X, X = w1.heap.size := ⟨_, rfl⟩
    have hr3 : Has w3 w.heap.size 43 #[.int .u64 0, .string ⟨#[]⟩, .int .u32 0, .bool false, .slice none 0 0] := Has.below (by exact HR1.out.alloc _) hb (by simp; omega)
    have hx3 : Has w3 X 95 #[.string ⟨pa.toArray⟩, .string ⟨pb.toArray⟩, .string ⟨pc.toArray⟩, .string ⟨pd.toArray⟩, .string ⟨pe.toArray⟩] := by rw [hX]; exact Has.below (by exact Has.new w1 _ _) hb (by simp)
    have HR := Lib.hid hr3
    have HX := Lib.hid hx3
    have zR : w.heap.size < w3.heap.size := hr3.lt
    have zX : X < w3.heap.size := hx3.lt
    have HB3 : Hid (Below w.heap.size w w3) := Lib.hid (Below.trans (by have hB := HB1.out; exact (by repeat' (first | (with_reducible assumption) | (with_reducible refine Below.setCell ?_ ?_ _) | (with_reducible refine Below.alloc ?_ ?_ _) | (with_reducible refine Below.drew ?_) | (with_reducible refine below_drewN ?_ _) | (with_reducible exact Below.refl _ _) | (show _ ≤ _; (try simp); (try omega); done) | exact Below.refl _ _ | assumption))) (hb.mono (by (try simp); (try omega))))
    have c0w3 : w3.cell? ⟨w.heap.size, 0, none⟩ = some (.int .u64 0) := hr3.cell 0
    have f0w3 : w3.frozen? ⟨w.heap.size, 0, none⟩ = false := hr3.frozen 0
    have c1w3 : w3.cell? ⟨w.heap.size, 1, none⟩ = some (.string ⟨#[]⟩) := hr3.cell 1
    have f1w3 : w3.frozen? ⟨w.heap.size, 1, none⟩ = false := hr3.frozen 1
    have c2w3 : w3.cell? ⟨w.heap.size, 2, none⟩ = some (.int .u32 0) := hr3.cell 2
    have f2w3 : w3.frozen? ⟨w.heap.size, 2, none⟩ = false := hr3.frozen 2
    have c3w3 : w3.cell? ⟨w.heap.size, 3, none⟩ = some (.bool false) := hr3.cell 3
    have f3w3 : w3.frozen? ⟨w.heap.size, 3, none⟩ = false := hr3.frozen 3
    have c4w3 : w3.cell? ⟨w.heap.size, 4, none⟩ = some (.slice none 0 0) := hr3.cell 4
    have f4w3 : w3.frozen? ⟨w.heap.size, 4, none⟩ = false := hr3.frozen 4
    have x0w3 : w3.cell? ⟨X, 0, none⟩ = some (.string ⟨pa.toArray⟩) := hx3.cell 0
    have x1w3 : w3.cell? ⟨X, 1, none⟩ = some (.string ⟨pb.toArray⟩) := hx3.cell 1
    have x2w3 : w3.cell? ⟨X, 2, none⟩ = some (.string ⟨pc.toArray⟩) := hx3.cell 2
    have x3w3 : w3.cell? ⟨X, 3, none⟩ = some (.string ⟨pd.toArray⟩) := hx3.cell 3
    have x4w3 : w3.cell? ⟨X, 4, none⟩ = some (.string ⟨pe.toArray⟩) := hx3.cell 4
    clear hb hr3 hx3
    rcases h10 with ⟨hV64, rfl⟩ | ⟨hV64, N, rfl⟩
    · have hv64 : (V : Int) < 18446744073709551616 := by omega
      rw [← hX]
      clear hX
      cases hnm : nameB pc with
      | false =>
        have HPF : Hid (parseF S = .error 11) := Lib.hid (by rw [HPR.out, if_neg (by omega), if_pos hnm])
        rw [hnm] at HNM
        clear hnm
        go_wp2_with (go_at_call 30; refine (HNM.out _).mono ?_; rintro e w4 ⟨rfl, hb⟩; have hr_w4 := HR.out.below hb zR; have hx_w4 := HX.out.below hb zX; have c0w4 : w4.cell? ⟨w.heap.size, 0, none⟩ = some (.int .u64 0) := hr_w4.cell 0; have f0w4 : w4.frozen? ⟨w.heap.size, 0, none⟩ = false := hr_w4.frozen 0; have c1w4 : w4.cell? ⟨w.heap.size, 1, none⟩ = some (.string ⟨#[]⟩) := hr_w4.cell 1; have f1w4 : w4.frozen? ⟨w.heap.size, 1, none⟩ = false := hr_w4.frozen 1; have c2w4 : w4.cell? ⟨w.heap.size, 2, none⟩ = some (.int .u32 0) := hr_w4.cell 2; have f2w4 : w4.frozen? ⟨w.heap.size, 2, none⟩ = false := hr_w4.frozen 2; have c3w4 : w4.cell? ⟨w.heap.size, 3, none⟩ = some (.bool false) := hr_w4.cell 3; have f3w4 : w4.frozen? ⟨w.heap.size, 3, none⟩ = false := hr_w4.frozen 3; have c4w4 : w4.cell? ⟨w.heap.size, 4, none⟩ = some (.slice none 0 0) := hr_w4.cell 4; have f4w4 : w4.frozen? ⟨w.heap.size, 4, none⟩ = false := hr_w4.frozen 4; have x0w4 : w4.cell? ⟨X, 0, none⟩ = some (.string ⟨pa.toArray⟩) := hx_w4.cell 0; have x1w4 : w4.cell? ⟨X, 1, none⟩ = some (.string ⟨pb.toArray⟩) := hx_w4.cell 1; have x2w4 : w4.cell? ⟨X, 2, none⟩ = some (.string ⟨pc.toArray⟩) := hx_w4.cell 2; have x3w4 : w4.cell? ⟨X, 3, none⟩ = some (.string ⟨pd.toArray⟩) := hx_w4.cell 3; have x4w4 : w4.cell? ⟨X, 4, none⟩ = some (.string ⟨pe.toArray⟩) := hx_w4.cell 4; have zRw4 : w.heap.size < w4.heap.size := hr_w4.lt; have zXw4 : X < w4.heap.size := hx_w4.lt; have HRw4 := Lib.hid hr_w4; have HXw4 := Lib.hid hx_w4; clear hr_w4 hx_w4; have HB4 : Hid (Below w.heap.size w w4) := Lib.hid (HB3.out.trans (hb.mono HB3.out.size)); clear hb)
        refine bodyPost_ret (results_block2 (g := w.heap.size) (T := 43) rfl rfl (by exact ((((HRw4.out.set 0 _).set 1 _).set 2 _).set 3 _).set 4 _) rfl Tryz.underlying43 rfl (by kernel_rfl)) rfl ?_
        exact DPa.bad HPF.out (by have hB := HB4.out; exact (by repeat' (first | (with_reducible assumption) | (with_reducible refine Below.setCell ?_ ?_ _) | (with_reducible refine Below.alloc ?_ ?_ _) | (with_reducible refine Below.drew ?_) | (with_reducible refine below_drewN ?_ _) | (with_reducible exact Below.refl _ _) | (show _ ≤ _; (try simp); (try omega); done) | exact Below.refl _ _ | assumption)))
      | true =>
        rw [hnm] at HNM
        have HPR2 : Hid (parseF S = if M < ID then .error 26 else if 16 < pe.length then .error 15 else .ok ⟨V, pc, ID, WD, pairs pe⟩) := Lib.hid (by rw [HPR.out, if_neg (by omega), if_neg (by simp [hnm])])
        clear hnm HPR
        go_wp2_with (go_at_call 30; refine (HNM.out _).mono ?_; rintro e w4 ⟨rfl, hb⟩; have hr_w4 := HR.out.below hb zR; have hx_w4 := HX.out.below hb zX; have c0w4 : w4.cell? ⟨w.heap.size, 0, none⟩ = some (.int .u64 0) := hr_w4.cell 0; have f0w4 : w4.frozen? ⟨w.heap.size, 0, none⟩ = false := hr_w4.frozen 0; have c1w4 : w4.cell? ⟨w.heap.size, 1, none⟩ = some (.string ⟨#[]⟩) := hr_w4.cell 1; have f1w4 : w4.frozen? ⟨w.heap.size, 1, none⟩ = false := hr_w4.frozen 1; have c2w4 : w4.cell? ⟨w.heap.size, 2, none⟩ = some (.int .u32 0) := hr_w4.cell 2; have f2w4 : w4.frozen? ⟨w.heap.size, 2, none⟩ = false := hr_w4.frozen 2; have c3w4 : w4.cell? ⟨w.heap.size, 3, none⟩ = some (.bool false) := hr_w4.cell 3; have f3w4 : w4.frozen? ⟨w.heap.size, 3, none⟩ = false := hr_w4.frozen 3; have c4w4 : w4.cell? ⟨w.heap.size, 4, none⟩ = some (.slice none 0 0) := hr_w4.cell 4; have f4w4 : w4.frozen? ⟨w.heap.size, 4, none⟩ = false := hr_w4.frozen 4; have x0w4 : w4.cell? ⟨X, 0, none⟩ = some (.string ⟨pa.toArray⟩) := hx_w4.cell 0; have x1w4 : w4.cell? ⟨X, 1, none⟩ = some (.string ⟨pb.toArray⟩) := hx_w4.cell 1; have x2w4 : w4.cell? ⟨X, 2, none⟩ = some (.string ⟨pc.toArray⟩) := hx_w4.cell 2; have x3w4 : w4.cell? ⟨X, 3, none⟩ = some (.string ⟨pd.toArray⟩) := hx_w4.cell 3; have x4w4 : w4.cell? ⟨X, 4, none⟩ = some (.string ⟨pe.toArray⟩) := hx_w4.cell 4; have zRw4 : w.heap.size < w4.heap.size := hr_w4.lt; have zXw4 : X < w4.heap.size := hx_w4.lt; have HRw4 := Lib.hid hr_w4; have HXw4 := Lib.hid hx_w4; clear hr_w4 hx_w4; have HB4 : Hid (Below w.heap.size w w4) := Lib.hid (HB3.out.trans (hb.mono HB3.out.size)); clear hb)
        refine (HP32.out _).mono ?_
        rintro e w5 ⟨rfl, hb⟩
        have hr_w5 := HRw4.out.below hb zRw4
        have hx_w5 := HXw4.out.below hb zXw4
        have c0w5 : w5.cell? ⟨w.heap.size, 0, none⟩ = some (.int .u64 0) := hr_w5.cell 0
        have f0w5 : w5.frozen? ⟨w.heap.size, 0, none⟩ = false := hr_w5.frozen 0
        have c1w5 : w5.cell? ⟨w.heap.size, 1, none⟩ = some (.string ⟨#[]⟩) := hr_w5.cell 1
        have f1w5 : w5.frozen? ⟨w.heap.size, 1, none⟩ = false := hr_w5.frozen 1
        have c2w5 : w5.cell? ⟨w.heap.size, 2, none⟩ = some (.int .u32 0) := hr_w5.cell 2
        have f2w5 : w5.frozen? ⟨w.heap.size, 2, none⟩ = false := hr_w5.frozen 2
        have c3w5 : w5.cell? ⟨w.heap.size, 3, none⟩ = some (.bool false) := hr_w5.cell 3
        have f3w5 : w5.frozen? ⟨w.heap.size, 3, none⟩ = false := hr_w5.frozen 3
        have c4w5 : w5.cell? ⟨w.heap.size, 4, none⟩ = some (.slice none 0 0) := hr_w5.cell 4
        have f4w5 : w5.frozen? ⟨w.heap.size, 4, none⟩ = false := hr_w5.frozen 4
        have x0w5 : w5.cell? ⟨X, 0, none⟩ = some (.string ⟨pa.toArray⟩) := hx_w5.cell 0
        have x1w5 : w5.cell? ⟨X, 1, none⟩ = some (.string ⟨pb.toArray⟩) := hx_w5.cell 1
        have x2w5 : w5.cell? ⟨X, 2, none⟩ = some (.string ⟨pc.toArray⟩) := hx_w5.cell 2
        have x3w5 : w5.cell? ⟨X, 3, none⟩ = some (.string ⟨pd.toArray⟩) := hx_w5.cell 3
        have x4w5 : w5.cell? ⟨X, 4, none⟩ = some (.string ⟨pe.toArray⟩) := hx_w5.cell 4
        have zRw5 : w.heap.size < w5.heap.size := hr_w5.lt
        have zXw5 : X < w5.heap.size := hx_w5.lt
        have HRw5 := Lib.hid hr_w5
        have HXw5 := Lib.hid hx_w5
        clear hr_w5 hx_w5
        have HB5 : Hid (Below w.heap.size w w5) := Lib.hid (HB4.out.trans (hb.mono HB4.out.size))
        clear hb
        by_cases hmi : M < ID
        · have HPF : Hid (parseF S = .error 26) := Lib.hid (by rw [HPR2.out, if_pos hmi])
          have d1 : decide ((M : Int) < (ID : Int)) = true := by simp; omega
          have d2 : decide (M < ID) = true := by simp; omega
          go_wp2_with (go_at_call 29; refine (HMS.out _).mono ?_; rintro e w6 ⟨rfl, rfl⟩)
          refine bodyPost_ret (results_block2 (g := w.heap.size) (T := 43) rfl rfl (by exact ((((HRw5.out.set 0 _).set 1 _).set 2 _).set 3 _).set 4 _) rfl Tryz.underlying43 rfl (by kernel_rfl)) rfl ?_
          exact DPa.bad HPF.out (by have hB := HB5.out; exact (by repeat' (first | (with_reducible assumption) | (with_reducible refine Below.setCell ?_ ?_ _) | (with_reducible refine Below.alloc ?_ ?_ _) | (with_reducible refine Below.drew ?_) | (with_reducible refine below_drewN ?_ _) | (with_reducible exact Below.refl _ _) | (show _ ≤ _; (try simp); (try omega); done) | exact Below.refl _ _ | assumption)))
        · have d1 : decide ((M : Int) < (ID : Int)) = false := by simp; omega
          have d2 : decide (M < ID) = false := by simp; omega
          by_cases hdl : 16 < pe.length
          · have HPF : Hid (parseF S = .error 15) := Lib.hid (by rw [HPR2.out, if_neg hmi, if_pos hdl])
            have d3 : decide ((16 : Int) < (pe.length : Int)) = true := by simp; omega
            have d4 : decide (16 < pe.length) = true := by simp; omega
            clear hmi
            go_wp2_with (go_at_call 29; refine (HMS.out _).mono ?_; rintro e w6 ⟨rfl, rfl⟩)
            refine bodyPost_ret (results_block2 (g := w.heap.size) (T := 43) rfl rfl (by exact ((((HRw5.out.set 0 _).set 1 _).set 2 _).set 3 _).set 4 _) rfl Tryz.underlying43 rfl (by kernel_rfl)) rfl ?_
            exact DPa.bad HPF.out (by have hB := HB5.out; exact (by repeat' (first | (with_reducible assumption) | (with_reducible refine Below.setCell ?_ ?_ _) | (with_reducible refine Below.alloc ?_ ?_ _) | (with_reducible refine Below.drew ?_) | (with_reducible refine below_drewN ?_ _) | (with_reducible exact Below.refl _ _) | (show _ ≤ _; (try simp); (try omega); done) | exact Below.refl _ _ | assumption)))
          · have HPF : Hid (parseF S = .ok ⟨V, pc, ID, WD, pairs pe⟩) := Lib.hid (by rw [HPR2.out, if_neg hmi, if_neg hdl])
            have d3 : decide ((16 : Int) < (pe.length : Int)) = false := by simp; omega
            have d4 : decide (16 < pe.length) = false := by simp; omega
            have hpe16 : pe.length ≤ 16 := by omega
            clear hmi hdl HPR2
            go_wp2_with (first
              | (go_at_call 29; refine (HMS.out _).mono ?_; rintro e w6 ⟨rfl, rfl⟩)
              | (refine wpList_make_own _ rfl _ _ 38 rfl w5.heap.size 5 i0 (.int .u8 0) 1 Tryz.underlying38 hi hz0 hz1 .i64 .i64 8 8 rfl rfl rfl (by rw [hz2]; decide) (by decide) (Nat.le_refl _) ?_; intro w7 hown hgr; have HO7 := Lib.hid hown; have HB7 : Hid (Below w5.heap.size w5 w7) := Lib.hid (Below.grown (Below.refl _ _) hgr (Nat.le_refl _) (fun k h => by cases h)); clear hown hgr))
            have hz7 := HB7.out.size
            have hx47 : w7.cell? ⟨X, 4, none⟩ = some (.string ⟨pe.toArray⟩) := (HB7.out.cell (p := ⟨X, 4, none⟩) zXw5).trans x4w5
            go_wp2
            go_loopw [12, 13] (fun tv iv wr => ∃ (i g cap : Nat) (done : List Int), tv = .slice (some ⟨g, 0, none⟩) done.length cap ∧ iv = .int .i64 (i : Nat) ∧ i ≤ pe.length ∧ Hid (i = 2 * done.length) ∧ Hid (wr.ownsRow w5.heap.size 5 1 tv done.length (done.map (Value.int .u8))) ∧ Hid (Below w5.heap.size w5 wr) ∧ Hid (pairs pe = done ++ pairs (pe.drop i))) (fun _ iv _ => pe.length - (intOf iv).toNat)
            case atStart => exact ⟨0, _, 8, [], rfl, rfl, Nat.zero_le _, Lib.hid rfl, Lib.hid (by exact HO7.out), HB7, Lib.hid rfl⟩
            case round =>
              obtain ⟨i, g, cap, done, rfl, rfl, hi2, HI, HOr, HBr, HE⟩ := hrel
              have hzr := HBr.out.size
              clear hx47 HO7 HB7 hz7
              have hr_wr := HRw5.out.below HBr.out zRw5
              have hx_wr := HXw5.out.below HBr.out zXw5
              have c0wr : wr.cell? ⟨w.heap.size, 0, none⟩ = some (.int .u64 0) := hr_wr.cell 0
              have f0wr : wr.frozen? ⟨w.heap.size, 0, none⟩ = false := hr_wr.frozen 0
              have c1wr : wr.cell? ⟨w.heap.size, 1, none⟩ = some (.string ⟨#[]⟩) := hr_wr.cell 1
              have f1wr : wr.frozen? ⟨w.heap.size, 1, none⟩ = false := hr_wr.frozen 1
              have c2wr : wr.cell? ⟨w.heap.size, 2, none⟩ = some (.int .u32 0) := hr_wr.cell 2
              have f2wr : wr.frozen? ⟨w.heap.size, 2, none⟩ = false := hr_wr.frozen 2
              have c3wr : wr.cell? ⟨w.heap.size, 3, none⟩ = some (.bool false) := hr_wr.cell 3
              have f3wr : wr.frozen? ⟨w.heap.size, 3, none⟩ = false := hr_wr.frozen 3
              have c4wr : wr.cell? ⟨w.heap.size, 4, none⟩ = some (.slice none 0 0) := hr_wr.cell 4
              have f4wr : wr.frozen? ⟨w.heap.size, 4, none⟩ = false := hr_wr.frozen 4
              have x0wr : wr.cell? ⟨X, 0, none⟩ = some (.string ⟨pa.toArray⟩) := hx_wr.cell 0
              have x1wr : wr.cell? ⟨X, 1, none⟩ = some (.string ⟨pb.toArray⟩) := hx_wr.cell 1
              have x2wr : wr.cell? ⟨X, 2, none⟩ = some (.string ⟨pc.toArray⟩) := hx_wr.cell 2
              have x3wr : wr.cell? ⟨X, 3, none⟩ = some (.string ⟨pd.toArray⟩) := hx_wr.cell 3
              have x4wr : wr.cell? ⟨X, 4, none⟩ = some (.string ⟨pe.toArray⟩) := hx_wr.cell 4
              have zRwr : w.heap.size < wr.heap.size := hr_wr.lt
              have zXwr : X < wr.heap.size := hx_wr.lt
              have HRwr := Lib.hid hr_wr
              have HXwr := Lib.hid hx_wr
              clear hr_wr hx_wr
              by_cases hlt : i < pe.length
              · have hlt2 : i + 1 < pe.length := by have := HEV.out; have := HI.out; omega
                have hdn : done.length ≤ 8 := by have := HI.out; omega
                have h1 : isD 16 pe[i] = true := List.all_eq_true.1 HPE.out _ (List.getElem_mem hlt)
                have h2 : isD 16 pe[i + 1] = true := List.all_eq_true.1 HPE.out _ (List.getElem_mem hlt2)
                obtain ⟨D, hD⟩ : ∃ D, D = dv pe[i] * 16 + dv pe[i + 1] := ⟨_, rfl⟩
                have hD256 : (D : Int) < 256 := by have := (isD_dv h1).1; have := (isD_dv h2).1; omega
                have HN : Hid (pairs pe = (done ++ [(D : Int)]) ++ pairs (pe.drop (i + 2))) := Lib.hid (by rw [HE.out, pairs_drop pe i hlt2, hD, List.append_assoc]; rfl)
                obtain ⟨XY, hXY⟩ : ∃ XY : ByteArray, XY = ⟨#[pe[i], pe[i + 1]]⟩ := ⟨_, rfl⟩
                have hsl : ∀ W, (Instr.slice 9 (.string ⟨pe.toArray⟩) (some (.int .i64 (i : Nat))) (some (.int .i64 ((i : Int) + 2))) none).run Tryz.prog W = .ok (.string XY) W := fun W => by
                  rw [run_slice_string_if W _ _ _ _ _ _ Tryz.underlying9, if_pos ⟨by omega, by show (i : Int) + 2 ≤ (pe.toArray.size : Int); simp; omega⟩, if_pos ⟨by omega, by omega⟩]
                  rw [show ((i : Int)).toNat = i from by omega, show ((i : Int) + 2).toNat = i + 2 from by omega, extract_two pe i hlt2, hXY]
                have hsum : IntKind.i64.wrap ((i : Int) + 2) = (i : Int) + 2 := IntWalk.i64_in _ ⟨by omega, by omega⟩
                have HP8 : Hid (∀ W, Calls Tryz.prog 39 #[.string XY, .int .i64 16, .int .i64 8] W fun e w' => e = .returned (.tuple #[.int .u64 (D : Nat), .nilIface]) ∧ Below W.heap.size W w') := Lib.hid (fun W => by
                  have h := pu8 [pe[i], pe[i + 1]] (by simp) (by unfold allD; simp [h1, h2]) (by simp) W
                  rw [val_pair, ← hD] at h
                  rw [hXY]
                  exact h)
                clear h1 h2 hD hXY
                go_wp2_with fail
                refine (HP8.out _).mono ?_
                rintro e w8 ⟨rfl, hb8⟩
                have HO8 := Lib.hid (own_kept HOr.out hb8)
                have HB8 := Lib.hid (HBr.out.trans (hb8.mono hzr))
                have hz8 := HB8.out.size
                clear hb8
                go_wp2_with (at_builtin; refine wpList_append_own _ rfl _ _ 38 rfl w5.heap.size 5 i0 (.int .u8 0) 1 1 Tryz.underlying38 hi hz0 hz1 hz2 rfl (by decide) _ _ _ rfl (HO8.out.alloc _) ⟨w8.heap.size, 0, none⟩ 1 1 [.int .u8 (D : Nat)] rfl rfl ?c1 ?c2 ?c3 ?c4 ?c5 ?_)
                case c1 => exact one_new w8 _ _
                case c2 => intro u hu; simp at hu; subst hu; rfl
                case c3 => unfold maxLen; omega
                case c4 => omega
                case c5 => simp; omega
                intro v' w9 hown' hgrow _
                have hr := Round.step HB8.out HO8.out hown' hgrow (hB := hz8) (hxs := (show done.map (Value.int .u8) ++ [Value.int .u8 (D : Nat)] = (done ++ [(D : Int)]).map (Value.int .u8) by rw [List.map_append]; rfl))
                clear hown' hgrow
                obtain ⟨hown1, hbel1⟩ := hr
                obtain ⟨g9, cap9, rfl, -, -⟩ := own_form hown1 (by omega)
                have HO9 : Hid (w9.ownsRow w5.heap.size 5 1 (.slice (some ⟨g9, 0, none⟩) (done.length + 1) cap9) (done ++ [(D : Int)]).length ((done ++ [(D : Int)]).map (Value.int .u8))) := Lib.hid (by rw [List.length_append]; exact hown1)
                have HB9 := Lib.hid hbel1
                clear hown1 hbel1
                go_wp2
                go_roundw
                case rel => exact ⟨i + 2, g9, cap9, done ++ [(D : Int)], by rw [List.length_append]; rfl, by go_num, by omega, Lib.hid (by have := HI.out; rw [List.length_append]; simp; omega), HO9, HB9, HN⟩
                case measure => simp [intOf]; omega
              · obtain rfl : i = pe.length := by omega
                have HDN : Hid (pairs pe = done) := Lib.hid (by have h := HE.out; rw [List.drop_length] at h; rw [h]; simp [pairs])
                have d9 : decide ((pe.length : Int) < (pe.length : Int)) = false := by simp
                have HBW : Hid (Below w.heap.size w wr) := Lib.hid (HB5.out.trans (HBr.out.mono (Nat.le_of_lt zRw5)))
                go_wp2
                refine bodyPost_ret (results_block2 (g := w.heap.size) (T := 43) rfl rfl (by exact ((((HRwr.out.set 0 _).set 1 _).set 2 _).set 3 _).set 4 _) rfl Tryz.underlying43 rfl (by kernel_rfl)) rfl ?_
                refine ⟨by have hB := HBW.out; exact (by repeat' (first | (with_reducible assumption) | (with_reducible refine Below.setCell ?_ ?_ _) | (with_reducible refine Below.alloc ?_ ?_ _) | (with_reducible refine Below.drew ?_) | (with_reducible refine below_drewN ?_ _) | (with_reducible exact Below.refl _ _) | (show _ ≤ _; (try simp); (try omega); done) | exact Below.refl _ _ | assumption)), ?_⟩
                rw [HPF.out]
                refine ⟨_, rfl, ?_⟩
                show World.ownsRow _ w.heap.size 5 1 _ (pairs pe).length ((pairs pe).map (Value.int .u8))
                rw [HDN.out]
                exact own_base (ownsRow_setCell_below (ownsRow_setCell_below (ownsRow_setCell_below (ownsRow_setCell_below (ownsRow_setCell_below HOr.out zRw5 _) zRw5 _) zRw5 _) zRw5 _) zRw5 _) (Nat.le_of_lt zRw5)
    · have HPF : Hid (parseF S = .error 9) := Lib.hid (by rw [HPR.out, if_pos hV64])
      rw [← hX]
      clear hX
      go_wp2
      refine bodyPost_ret (results_block2 (g := w.heap.size) (T := 43) rfl rfl (by exact ((((HR.out.set 0 _).set 1 _).set 2 _).set 3 _).set 4 _) rfl Tryz.underlying43 rfl (by kernel_rfl)) rfl ?_
      exact DPa.bad HPF.out (by have hB := HB3.out; exact (by repeat' (first | (with_reducible assumption) | (with_reducible refine Below.setCell ?_ ?_ _) | (with_reducible refine Below.alloc ?_ ?_ _) | (with_reducible refine Below.drew ?_) | (with_reducible refine below_drewN ?_ _) | (with_reducible exact Below.refl _ _) | (show _ ≤ _; (try simp); (try omega); done) | exact Below.refl _ _ | assumption)))
theorem dparse_any (S : List UInt8) (hl : S.length ≤ 16777216) (w : World) (hM : Mx w) (hR : laidK.Rng w) : Calls Tryz.prog 19 #[.string ⟨S.toArray⟩] w (DPa S w) := by
  cases hp : pieces S with
  | none => exact dparse_form S hl w hM (.inl hp)
  | some p =>
    cases hs : shaped p with
    | false => exact dparse_form S hl w hM (.inr ⟨p, hp, hs⟩)
    | true => exact dparse_good S hl w hM hR p hp hs
end dumpW
end Go.Proofs.YtbhhfdajaoemnaaGreatDoor
