/- dump.File of any text. Conditions: the text's length; one of the library's errors is laid, one variable of the library's holds some int. -/
import Derived.Test.YtbhhfdajaoemnaaGreatDoorDumpLs
import Derived.Maps.AppendAt
namespace Go.Proofs.YtbhhfdajaoemnaaGreatDoor
open Go.RowKit Go.Bus Go.Bus.cellK Go.Bus.dumpK Go.Bus.textK
set_option linter.unusedVariables false
set_option linter.unusedSimpArgs false
namespace dumpW
theorem news_ln (w : World) (cs : List Value) (t : TypeId) : ∀ (j : Nat) (u : Value), cs[j]? = some u → (w.alloc (.cells cs.toArray t)).cell? ((⟨w.heap.size, 0, none⟩ : Addr).add j) = some u := by
  intro j u hj
  rw [Addr.add_mid, Nat.zero_add, (Has.new w t cs.toArray).cell j]
  simpa using hj
theorem lnC_one (l : Ln) {A : Option Addr} {n c : Nat} : ∀ u ∈ lnC l (.slice A n c), u.oneCell' = true := by
  intro u hu
  unfold lnC at hu
  simp at hu
  rcases hu with rfl | rfl | rfl | rfl | rfl <;> rfl
theorem own_sliceL {w : World} {base : Nat} {e : TypeId} {k n : Nat} {v : Value} {xs : List Value} (h : w.ownsRow base e k v n xs) : ∃ A c, v = .slice A n c := by
  rcases h.2 with ⟨rfl, h0⟩ | ⟨g, cap, cur, rfl, _, _, h1, h2, _⟩
  · exact ⟨none, 0, by rw [h0]⟩
  · exact ⟨_, _, rfl⟩
theorem news_ln1 (w : World) (o : Obj) (cs : List Value) (t : TypeId) : ∀ (j : Nat) (u : Value), cs[j]? = some u → ((w.alloc o).alloc (.cells cs.toArray t)).cell? ((⟨w.heap.size + 1, 0, none⟩ : Addr).add j) = some u := by
  have h := news_ln (w.alloc o) cs t
  simpa using h
theorem OwX.base_ {α : Type} {k : Nat} {R : Rel α} {w : World} {F : Foot} {base base' : Nat} {e : TypeId} {v : Value} {l : List α} {xs : List Value} (h : OwX k R w F base e v l xs) (hb : base' ≤ base) : OwX k R w F base' e v l xs := by
  obtain ⟨h1, h2⟩ := h
  exact ⟨own_base h1 hb, h2⟩
/-- The lines, as they lie in the row that Split made. -/
def LsA (w : World) (g : Nat) (L : List (List UInt8)) : Prop := ∀ j (h : j < L.length), w.cell? ⟨g, j, none⟩ = some (.string ⟨L[j].toArray⟩)
theorem LsA.below {w w' : World} {g B : Nat} {L : List (List UInt8)} (h : LsA w g L) (hb : Below B w w') (hg : g < B) : LsA w' g L := fun j hj => (hb.cell (p := ⟨g, j, none⟩) hg).trans (h j hj)
theorem split_ls {S : List UInt8} (hl : S.length ≤ 16777216) (w : World) (hM : Mx w) : Calls Tryz.prog 25 #[.string ⟨S.toArray⟩, .string ⟨#[10]⟩] w fun e w' => e = .returned (.slice (some ⟨w.heap.size, 0, none⟩) (cutN 10 S).length (cutN 10 S).length) ∧ LsA w' w.heap.size (cutN 10 S) ∧ w.heap.size < w'.heap.size ∧ Below w.heap.size w w' := by
  obtain ⟨a, l, hs⟩ := cutN_ne 10 S
  refine (split_nl hs hl w hM).mono ?_
  rintro e w' ⟨rfl, h0, h1, h2, h3⟩
  rw [hs]
  refine ⟨rfl, fun j hj => ?_, h2, h3⟩
  cases j with
  | zero => exact h0
  | succ j => exact h1 j (by simpa using hj)
theorem last_of {S : List UInt8} : ∃ h : (cutN 10 S).length - 1 < (cutN 10 S).length, ((cutN 10 S)[(cutN 10 S).length - 1] = [] ∧ (linesF S).length = (cutN 10 S).length - 1) ∨ ((cutN 10 S)[(cutN 10 S).length - 1] ≠ [] ∧ (linesF S).length = (cutN 10 S).length) := by
  obtain ⟨a, l, hs⟩ := cutN_ne 10 S
  have hlt : (cutN 10 S).length - 1 < (cutN 10 S).length := by rw [hs]; simp
  have hg : (cutN 10 S).getLast? = some (cutN 10 S)[(cutN 10 S).length - 1] := by rw [List.getLast?_eq_getElem?, List.getElem?_eq_getElem hlt]
  refine ⟨hlt, ?_⟩
  by_cases h : (cutN 10 S)[(cutN 10 S).length - 1] = []
  · refine .inl ⟨h, ?_⟩
    unfold linesF
    rw [if_pos (by rw [hg, h]), List.length_dropLast]
  · refine .inr ⟨h, ?_⟩
    unfold linesF
    rw [if_neg (by rw [hg]; intro e; exact h (by injection e))]
set_option maxRecDepth 100000 in
set_option maxHeartbeats 4000000 in
theorem dfile_long (S : List UInt8) (hl : 1048576 < S.length) (hl2 : S.length ≤ 281474976710656) (w : World) : Calls Tryz.prog 9 #[.string ⟨S.toArray⟩] w (DFi S w) := by
  have HF : Hid (fileF S = .error (5, 0)) := Lib.hid (by unfold fileF; rw [if_pos hl])
  have d1 : decide ((1048576 : Int) < (S.length : Int)) = true := by simp; omega
  have d2 : decide (1048576 < S.length) = true := by simp; omega
  obtain ⟨SB, hSB⟩ : ∃ SB : ByteArray, SB = ⟨S.toArray⟩ := ⟨_, rfl⟩
  have hsz : SB.size = S.length := by rw [hSB]; show S.toArray.size = S.length; simp
  rw [← hSB]
  clear hSB hl
  go_enter Tryz.func9, Tryz.ntmps9
  go_wp2
  go_ret2
  exact DFi.many HF.out (by repeat' (first | (with_reducible assumption) | (with_reducible refine Below.setCell ?_ ?_ _) | (with_reducible refine Below.alloc ?_ ?_ _) | (with_reducible refine Below.drew ?_) | (with_reducible refine below_drewN ?_ _) | (with_reducible exact Below.refl _ _) | (show _ ≤ _; (try simp); (try omega); done) | exact Below.refl _ _ | assumption))
set_option maxRecDepth 100000 in
set_option maxHeartbeats 16000000 in
theorem dfile_in (S : List UInt8) (hl : S.length ≤ 1048576) (w : World) (hM : Mx w) (hR : laidK.Rng w) : Calls Tryz.prog 9 #[.string ⟨S.toArray⟩] w (DFi S w) := by
  obtain ⟨i0, hi, hi0, hi1, hi2⟩ := info_parts Tryz.infoLn
  have HSP := Lib.hid (split_ls (S := S) (by omega) w hM)
  have HM := Lib.hid hM
  have HR := Lib.hid hR
  have d1 : decide ((1048576 : Int) < (S.length : Int)) = false := by simp; omega
  have d2 : decide (1048576 < S.length) = false := by simp; omega
  obtain ⟨N, hN⟩ : ∃ N, N = (cutN 10 S).length := ⟨_, rfl⟩
  have hN1 : 1 ≤ N := by obtain ⟨a, l, hs⟩ := cutN_ne 10 S; rw [hN, hs]; simp
  have hN2 : N ≤ 1048577 := by have := cutN_len 10 S; omega
  obtain ⟨hlt, hlast⟩ := last_of (S := S)
  have HFI : Hid (fileF S = if 4096 < (linesF S).length then .error (5, 0) else goF (linesF S) 0) := Lib.hid (by unfold fileF; rw [if_neg (by omega)])
  have HGE := Lib.hid (fun (j : Nat) (h : j < (linesF S).length) => linesF_get (S := S) h)
  have HME := Lib.hid (fun (x : List UInt8) (h : x ∈ linesF S) => linesF_mem (S := S) h)
  obtain ⟨L, hL⟩ : ∃ L, L = linesF S := ⟨_, rfl⟩
  rw [← hL] at HFI HGE HME hlast
  obtain ⟨C, hC⟩ : ∃ C, C = cutN 10 S := ⟨_, rfl⟩
  have HLA : Hid (∃ h : N - 1 < C.length, (C[N - 1] = [] ∧ L.length = N - 1) ∨ (C[N - 1] ≠ [] ∧ L.length = N)) := Lib.hid (by subst hN hC; exact ⟨hlt, hlast⟩)
  rw [← hN, ← hC] at HSP
  rw [← hC] at HGE
  clear hlt hlast
  have hNC : C.length = N := by rw [hN, hC]
  obtain ⟨SB, hSB⟩ : ∃ SB : ByteArray, SB = ⟨S.toArray⟩ := ⟨_, rfl⟩
  have hsz : SB.size = S.length := by rw [hSB]; show S.toArray.size = S.length; simp
  rw [← hSB] at HSP ⊢
  clear hSB hC hL hN hM hR
  go_enter Tryz.func9, Tryz.ntmps9
  go_wp2_with fail
  refine (HSP.out).mono ?_
  rintro e w1 ⟨rfl, hls, hz1, hb1⟩
  have HB1 := Lib.hid hb1
  obtain ⟨hlt, hlast⟩ := HLA.out
  have cl := hls (N - 1) hlt
  have HLS : Hid (LsA w1 w.heap.size L) := Lib.hid (fun j hj => by obtain ⟨h', e⟩ := HGE.out j hj; rw [e]; exact hls j h')
  obtain ⟨LB, hLB⟩ : ∃ LB : ByteArray, LB = ⟨(C[N - 1]).toArray⟩ := ⟨_, rfl⟩
  rw [← hLB] at cl
  have hidx : ((N : Int) - 1).toNat = N - 1 := by omega
  clear hb1 hls HSP HLA
  have hdis : (LB = ⟨#[]⟩ ∧ N = L.length + 1 ∧ w1.cell? ⟨w.heap.size, L.length, none⟩ = some (.string ⟨#[]⟩)) ∨ ((LB.toList == []) = false ∧ N = L.length) := by
    rcases hlast with ⟨he, hn⟩ | ⟨he, hn⟩
    · have e1 : LB = ⟨#[]⟩ := by rw [hLB, he]
      have e2 : N - 1 = L.length := by omega
      refine .inl ⟨e1, by omega, ?_⟩
      rw [← e2, ← e1]; exact cl
    · exact .inr ⟨by rw [hLB]; simpa using he, by omega⟩
  clear hlast hLB
  by_cases hmany : 4096 < L.length
  · have HF : Hid (fileF S = .error (5, 0)) := Lib.hid (by rw [HFI.out, if_pos hmany])
    have d5 : decide ((4096 : Int) < (L.length : Int)) = true := by simp; omega
    have d6 : decide (4096 < L.length) = true := by simp; omega
    clear hmany
    rcases hdis with ⟨rfl, rfl, cl2⟩ | ⟨hq, rfl⟩
    · go_wp2
      go_ret2
      exact DFi.many HF.out (by have hB := HB1.out; exact (by repeat' (first | (with_reducible assumption) | (with_reducible refine Below.setCell ?_ ?_ _) | (with_reducible refine Below.alloc ?_ ?_ _) | (with_reducible refine Below.drew ?_) | (with_reducible refine below_drewN ?_ _) | (with_reducible exact Below.refl _ _) | (show _ ≤ _; (try simp); (try omega); done) | exact Below.refl _ _ | assumption)))
    · go_wp2
      go_ret2
      exact DFi.many HF.out (by have hB := HB1.out; exact (by repeat' (first | (with_reducible assumption) | (with_reducible refine Below.setCell ?_ ?_ _) | (with_reducible refine Below.alloc ?_ ?_ _) | (with_reducible refine Below.drew ?_) | (with_reducible refine below_drewN ?_ _) | (with_reducible exact Below.refl _ _) | (show _ ≤ _; (try simp); (try omega); done) | exact Below.refl _ _ | assumption)))
  · have HF : Hid (fileF S = goF L 0) := Lib.hid (by rw [HFI.out, if_neg hmany])
    have d5 : decide ((4096 : Int) < (L.length : Int)) = false := by simp; omega
    have d6 : decide (4096 < L.length) = false := by simp; omega
    have HL4 : Hid (L.length ≤ 4096) := Lib.hid (by omega)
    clear hmany
    rcases hdis with ⟨rfl, rfl, cl2⟩ | ⟨hq, rfl⟩
    all_goals (
      go_wp2
      go_loopw [5, 34] (fun ov iv wr => ∃ (done : List Ln) (xs : List Value), iv = .int .i64 (done.length : Nat) ∧ done.length ≤ L.length ∧ Hid (OwX 5 lineO wr (Iv w1.heap.size wr.heap.size) w1.heap.size 43 ov done xs) ∧ Hid (GoI L done.length done) ∧ Hid (Below w1.heap.size w1 wr)) (fun _ iv _ => L.length - (intOf iv).toNat)
      case atStart => exact ⟨[], [], rfl, Nat.zero_le _, Lib.hid (OwX.nil_ _ _ _ _ _ _), Lib.hid (goI_start L), Lib.hid (Below.refl _ _)⟩
      case round =>
        obtain ⟨done, xs, rfl, hdl, HO, HG, HBr⟩ := hrel
        have hzr := HBr.out.size
        obtain ⟨pA, pc, rfl⟩ := own_sliceL HO.out.1
        have HBw : Hid (Below w.heap.size w wr) := Lib.hid (HB1.out.trans (HBr.out.mono HB1.out.size))
        by_cases hlt2 : done.length < L.length
        · have cx := (HLS.out.below HBr.out hz1) done.length hlt2
          obtain ⟨X, hX⟩ : ∃ X, X = L[done.length] := ⟨_, rfl⟩
          rw [← hX] at cx
          have HXL : Hid (X.length ≤ 16777216) := Lib.hid (by have := HME.out X (by rw [hX]; exact List.getElem_mem hlt2); omega)
          have HPA := Lib.hid (dparse_any X HXL.out wr (HM.out.at_below HBw.out) (HR.out.at_below HBw.out))
          obtain ⟨XB, hXB⟩ : ∃ XB : ByteArray, XB = ⟨X.toArray⟩ := ⟨_, rfl⟩
          rw [← hXB] at HPA cx
          have HX := Lib.hid hX
          clear hXB hX cl
          go_wp2_with fail
          refine HPA.out.mono ?_
          rintro e w2 ⟨hb, hp⟩
          have HB2 := Lib.hid hb
          have hz2 := HB2.out.size
          cases hpf : parseF X with
          | error no =>
            rw [hpf] at hp
            unfold zeroL at hp
            subst hp
            have HE : Hid (fileF S = .error (no, done.length + 1)) := Lib.hid (by rw [HF.out]; exact goI_bad hlt2 HG.out (by rw [← HX.out]; exact hpf))
            clear hb hpf HPA
            go_wp2_with (go_at_call 26; refine (number_any no _).mono ?_; rintro e w3 ⟨rfl, hb⟩; have HB3 := Lib.hid hb; clear hb)
            go_ret2
            exact DFi.bad HE.out (HBw.out.trans (((HB2.out.alloc hz2 _).trans (HB3.out.mono (by simp; omega))).mono HBw.out.size))
          | ok l =>
            rw [hpf] at hp
            obtain ⟨v, rfl, hown⟩ := hp
            obtain ⟨A9, c9, rfl, -, -⟩ := (Sl.of_own hown).form
            have HN := Lib.hid (lineO_new (l := l) hown)
            have HG2 : Hid (GoI L (done.length + 1) (done ++ [l])) := Lib.hid (goI_next hlt2 HG.out (by rw [← HX.out]; exact hpf))
            clear hb hpf HPA hown
            unfold lnC
            go_wp2_with (at_builtin; refine wpList_append_own_at _ rfl _ _ 24 rfl w1.heap.size 43 i0 (.agg #[.int .u64 0, .string ⟨#[]⟩, .int .u32 0, .bool false, .slice none 0 0]) 5 56 Tryz.underlying24 hi hi0 hi1 hi2 rfl (by decide) _ done.length xs rfl (by exact ((own_kept HO.out.1 HB2.out).alloc _).alloc _) ⟨w2.heap.size + 1, 0, none⟩ 1 1 (lnC l (.slice A9 l.data.length c9)) rfl rfl (news_ln1 w2 _ _ _) (lnC_one l) (by have := HL4.out; unfold maxLen; omega) (by have := HL4.out; omega) (by simp; omega) ?_)
            intro v7 w7 ho7 hg7 _ hat7
            have HB4 : Hid (Below w2.heap.size w2 ((w2.alloc (.cells #[.int .u64 (l.time : Nat), .string ⟨l.port.toArray⟩, .int .u32 (l.id : Nat), .bool l.wide, .slice A9 l.data.length c9] 43)).alloc (.cells #[.int .u64 (l.time : Nat), .string ⟨l.port.toArray⟩, .int .u32 (l.id : Nat), .bool l.wide, .slice A9 l.data.length c9] 43))) := Lib.hid (by repeat' (first | (with_reducible assumption) | (with_reducible refine Below.setCell ?_ ?_ _) | (with_reducible refine Below.alloc ?_ ?_ _) | (with_reducible refine Below.drew ?_) | (with_reducible refine below_drewN ?_ _) | (with_reducible exact Below.refl _ _) | (show _ ≤ _; (try simp); (try omega); done) | exact Below.refl _ _ | assumption))
            have HO7 := Lib.hid (HO.out.snoc lineO_mono (Nat.le_refl _) hzr HB2.out HN.out rfl HB4.out hg7 ho7 (hat7.imp id (fun h3 g hg' => by rw [h3] at hg'; cases hg'; simp)))
            have HB7 : Hid (Below w1.heap.size w1 w7) := Lib.hid (Below.grown ((HBr.out.trans (HB2.out.mono hzr)).trans (HB4.out.mono (by omega))) hg7 (by simp; omega) fun r hr => (HO.out.1.lt r hr).1)
            clear ho7 hg7 hat7
            go_wp2
            go_roundw
            case rel => exact ⟨done ++ [l], _, by rw [List.length_append]; go_num, by rw [List.length_append]; simp; omega, HO7, by rw [List.length_append]; exact HG2, HB7⟩
            case measure => simp [intOf]; omega
        · have hdn : done.length = L.length := by omega
          have HFI2 : Hid (fileF S = .ok done) := Lib.hid (by rw [HF.out]; exact goI_done (by rw [← hdn]; exact HG.out))
          clear hlt2
          go_wp2
          go_ret2
          exact DFi.good HFI2.out HBw.out ((OwX.base_ HO.out HB1.out.size).keep lineO_mono (fun b hb => ⟨Nat.le_trans HB1.out.size hb.1, hb.2⟩) (fun _ _ => rfl)))
end dumpW
end Go.Proofs.YtbhhfdajaoemnaaGreatDoor
