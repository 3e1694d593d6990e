/- Decode. No condition. -/
import Derived.Test.YtbbfpbmogklomaaGreatDoorZKl
import Derived.Test.YtbbfpbmogklomaaGreatDoorZKe
namespace Go.Proofs.YtbbfpbmogklomaaGreatDoor
open Go.RowKit Go.Bus Go.Bus.cellK Go.Bus.codeK
set_option linter.unusedVariables false
set_option linter.unusedSimpArgs false
namespace codeW
theorem Tryz.infoI : (Tryz.prog.info? 25).map (fun i => (i.zero, i.size, i.bytes)) = some (some (.agg #[.int .i64 0, .int .i64 0, .int .i64 0, .int .i64 0, .int .u64 0]), 5, 40) := by kernel_rfl
def DecPost (bs : List Int) (w : World) (e : Ending) (w' : World) : Prop :=
  match decGo bs.length bs [] with
  | .ok p => ∃ u, e = .returned (.tuple #[u, .nilIface]) ∧ w'.ownsRow w.heap.size 25 5 u p.length (p.flatMap insC) ∧ Below w.heap.size w w'
  | .error (no, k) => e = .returned (.tuple #[.slice none 0 0, faultV no k]) ∧ Below w.heap.size w w'
/-- How far the reader has come. -/
def atOf (g : Nat) (w : World) : Nat := match w.cell? ⟨g, 1, none⟩ with | some (.int _ n) => n.toNat | _ => 0
theorem RdH.atOf {w : World} {g p : Nat} {v ev : Value} {x : Ins} (h : RdH w g v p x ev) : atOf g w = p := by
  have h1 : w.cell? ⟨g, 1, none⟩ = some (.int .i64 p) := Has.cell h 1
  unfold codeW.atOf
  rw [h1]; simp
theorem DecPost.bad {bs : List Int} {w w' : World} {no : Int} {k : Nat} (h : decGo bs.length bs [] = .error (no, k)) (hb : Below w.heap.size w w') : DecPost bs w (.returned (.tuple #[.slice none 0 0, faultV no k])) w' := by
  unfold DecPost; rw [h]; exact ⟨rfl, hb⟩
theorem DecPost.good {bs : List Int} {w w' : World} {p : List Ins} {u : Value} (h : decGo bs.length bs [] = .ok p) (ho : w'.ownsRow w.heap.size 25 5 u p.length (p.flatMap insC)) (hb : Below w.heap.size w w') : DecPost bs w (.returned (.tuple #[u, .nilIface])) w' := by
  unfold DecPost; rw [h]; exact ⟨u, rfl, ho, hb⟩
theorem RdH.below {w w' : World} {g p : Nat} {v ev : Value} {x : Ins} (h : RdH w g v p x ev) (hb : Below w.heap.size w w') : RdH w' g v p x ev := Has.below h hb (Has.lt h)
theorem rdAll_error (L : Nat) (f : Fk) (fs : List Fk) (l : List Int) (x : Ins) : rdAll L (f :: fs) l x = match rdF f l x with | .short => .error (2, L) | .form => .error (4, L - l.length) | .got r y => rdAll L fs r y := rfl
theorem put_ok {x : Ins} (hx : x.Ok) {h : Wh} {v : Int} (h0 : 0 ≤ v) (h1 : v < 18446744073709551616) (h2 : h ≠ .I → v ≤ 9223372036854775807) : (x.put h v).Ok := by
  cases h with
  | A => exact ⟨hx.op, ⟨by show _ ≤ v; omega, h2 (by decide)⟩, hx.b, hx.n, hx.imm⟩
  | B => exact ⟨hx.op, hx.a, ⟨by show _ ≤ v; omega, h2 (by decide)⟩, hx.n, hx.imm⟩
  | N => exact ⟨hx.op, hx.a, hx.b, ⟨by show _ ≤ v; omega, h2 (by decide)⟩, hx.imm⟩
  | I => exact ⟨hx.op, hx.a, hx.b, hx.n, ⟨h0, h1⟩⟩
theorem num_lt {l r : List Int} {v : Nat} (hb : ∀ c ∈ l, Byte c) (h : sevGo l 0 0 = .ok v r) : v < 18446744073709551616 := by
  obtain ⟨u, _, h2, _, h4, _⟩ := sevGo_inv l 0 0 v r hb (by omega) h
  simp at h2 h4; omega
theorem rdF_ok {f : Fk} (hf : f.ok) {l r : List Int} {y z : Ins} (hb : ∀ c ∈ l, Byte c) (hy : y.Ok) (h : rdF f l y = .got r z) : z.Ok := by
  have byteC : ∀ {h : Wh}, rdByte h l y = .got r z → z.Ok := by
    intro h hr
    obtain ⟨v, rfl, rfl⟩ := rdByte_inv hr
    have := hb v (List.mem_cons_self ..)
    unfold Byte at this
    exact put_ok hy this.1 (by omega) (fun _ => by omega)
  have numC : ∀ {h : Wh} {fn : Nat → Int}, (∀ v, v < 18446744073709551616 → 0 ≤ fn v ∧ fn v < 18446744073709551616 ∧ (h ≠ .I → fn v ≤ 9223372036854775807)) → rdNum h fn l y = .got r z → z.Ok := by
    intro h fn hfn hr
    unfold rdNum at hr
    split at hr
    · cases hr
    · cases hr
    · rename_i v r' he
      cases hr
      obtain ⟨a1, a2, a3⟩ := hfn v (num_lt hb he)
      exact put_ok hy a1 a2 a3
  cases f with
  | small k lo hi s => exact byteC h
  | bytes => exact byteC h
  | skip => exact numC (fun v hv => ⟨by omega, by omega, fun _ => by omega⟩) h
  | number => exact numC (fun v hv => ⟨by omega, by omega, fun h => absurd rfl h⟩) h
  | sign => exact numC (fun v hv => ⟨by omega, by omega, fun h => absurd rfl h⟩) h
theorem drop_suffix {bs m r : List Int} {q : Nat} (hq : q ≤ bs.length) (h : bs.drop q = m ++ r) : r = bs.drop (bs.length - r.length) ∧ q ≤ bs.length - r.length := by
  have h1 : (bs.drop q).length = m.length + r.length := by rw [h, List.length_append]
  rw [List.length_drop] at h1
  refine ⟨?_, by omega⟩
  have h2 : bs.drop (q + m.length) = r := by rw [← List.drop_drop, h, List.drop_left]
  rw [← h2]
  congr 1
  rw [List.length_drop]; omega
theorem zero_ok {c : Int} (h : Byte c) : (zero c).Ok := by
  unfold Byte at h
  exact ⟨⟨by show _ ≤ c; omega, by show c ≤ _; omega⟩, ⟨by show (-9223372036854775808 : Int) ≤ 0; decide, by show (0 : Int) ≤ 9223372036854775807; decide⟩, ⟨by show (-9223372036854775808 : Int) ≤ 0; decide, by show (0 : Int) ≤ 9223372036854775807; decide⟩, ⟨by show (-9223372036854775808 : Int) ≤ 0; decide, by show (0 : Int) ≤ 9223372036854775807; decide⟩, ⟨by show (0 : Int) ≤ 0; decide, by show (0 : Int) < 18446744073709551616; decide⟩⟩
set_option maxRecDepth 100000 in
set_option maxHeartbeats 4000000 in
theorem decode_any {bs : List Int} {v : Value} (w : World) (h : Sl w w.heap.size byteV v bs) (hb : ∀ c ∈ bs, Byte c) : Calls Tryz.prog 22 #[v] w (DecPost bs w) := by
  obtain ⟨i0, hi, hi0, hi1, hi2⟩ := info_parts Tryz.infoI
  obtain ⟨A, cap, rfl, hcap, hmax⟩ := h.form
  have HS := Lib.hid h; clear h
  have HBY := Lib.hid hb; clear hb
  unfold maxLen at hmax
  go_enter Tryz.func22, Tryz.ntmps22
  go_wp2_with (go_at_call 25; refine (made_any _).mono ?_; rintro e w1 ⟨mv, rfl, hM, hB⟩; have HM := Lib.hid (hM.keep (F' := Old w1.heap.size) (fun b hb => hb.2) (fun _ _ => rfl)); have HB := Lib.hid hB; have zw := hB.size; clear hM hB)
  have HR0 : Hid (RdH (w1.alloc (.cells #[.slice A bs.length cap, .int .i64 0, .int .i64 0, .int .i64 0, .int .i64 0, .int .i64 0, .int .u64 0, .nilIface] 86)) w1.heap.size (.slice A bs.length cap) 0 (zero 0) .nilIface) := Lib.hid (Has.new w1 _ _)
  have HB0 : Hid (Below w1.heap.size w1 (w1.alloc (.cells #[.slice A bs.length cap, .int .i64 0, .int .i64 0, .int .i64 0, .int .i64 0, .int .i64 0, .int .u64 0, .nilIface] 86))) := Lib.hid ((Below.refl _ _).alloc (Nat.le_refl _) _)
  go_loopw [4] (fun pv wr => ∃ (k : Nat) (p : List Ins) (x : Ins), k ≤ bs.length ∧ p.length ≤ 16384 ∧ Hid (wr.ownsRow w1.heap.size 25 5 pv p.length (p.flatMap insC)) ∧ Hid (RdH wr w1.heap.size (.slice A bs.length cap) k x .nilIface) ∧ Hid (decGo bs.length bs [] = decGo bs.length (bs.drop k) p) ∧ Hid (Below w1.heap.size w1 wr)) (fun _ wr => bs.length - atOf w1.heap.size wr)
  case atStart => exact ⟨0, [], _, Nat.zero_le _, Nat.zero_le _, Lib.hid (World.ownsRow_nil _ _ _ _), HR0, Lib.hid rfl, HB0⟩
  case round =>
    obtain ⟨k, p, x, hk, hpl, HOp, HR, HE, HBr⟩ := hrel
    clear HR0 HB0
    obtain ⟨pA, pc, rfl⟩ := own_slice HOp.out
    have zG : w1.heap.size < wr.heap.size := Has.lt HR.out
    have HBw := Lib.hid (HB.out.trans (HBr.out.mono zw))
    have HSr := Lib.hid (HS.out.below HBw.out)
    have e0 : wr.cell? ⟨w1.heap.size, 0, none⟩ = some (.slice A bs.length cap) := Has.cell HR.out 0
    have e1 : wr.cell? ⟨w1.heap.size, 1, none⟩ = some (.int .i64 (k : Nat)) := Has.cell HR.out 1
    by_cases hlt : k < bs.length
    · obtain ⟨xb, off, rfl, hxb, hxc⟩ := HSr.out.at_ hlt
      obtain ⟨c, hc⟩ : ∃ c, c = bs[k] := ⟨_, rfl⟩
      rw [← hc] at hxc
      unfold byteV at hxc
      have HBC : Hid (Byte c) := Lib.hid (by rw [hc]; exact HBY.out _ (List.getElem_mem hlt))
      obtain ⟨hc0, hc1⟩ := HBC.out
      have HDR : Hid (bs.drop k = c :: bs.drop (k + 1)) := Lib.hid (by rw [List.drop_eq_getElem_cons hlt, ← hc])
      have HLEN : Hid (bs.length - ((bs.drop (k + 1)).length + 1) = k) := Lib.hid (by rw [List.length_drop]; omega)
      have zx : xb < wr.heap.size := by have : xb < w.heap.size := hxb; omega
      clear hc
      by_cases hmany : p.length = 16384
      · have dm : (p.length == 16384) = true := by simpa using hmany
        have dm' : ((p.length : Int) == 16384) = true := by simp; omega
        have HBAD : Hid (decGo bs.length bs [] = .error (5, k)) := Lib.hid (by rw [HE.out, HDR.out, decGo_cons, if_pos hmany, HLEN.out])
        clear hmany
        go_wp2_with (go_at_call 29; refine (fault_any _ _ _).mono ?_; rintro e w3 ⟨rfl, rfl⟩)
        go_ret2
        exact DecPost.bad HBAD.out HBw.out
      · have dm : (p.length == 16384) = false := by simpa using hmany
        have dm' : ((p.length : Int) == 16384) = false := by simp; omega
        have HMr := Lib.hid (HM.out.keep (w' := wr) (F' := Old wr.heap.size) (fun b hb => Nat.lt_trans hb zG) (fun b hb => HBr.out.block b hb))
        have HNM := Lib.hid hmany; clear hmany
        cases hf : fieldsOf c with
        | none =>
          have HF := Lib.hid hf
          have HBAD : Hid (decGo bs.length bs [] = .error (20, k)) := Lib.hid (by rw [HE.out, HDR.out, decGo_cons, if_neg HNM.out, hf]; simp only []; rw [HLEN.out])
          clear hf
          go_wp2_with (first
            | (go_at_call 27; refine (of_no _ HMr.out HF.out).mono ?_; rintro e w2 ⟨rfl, rfl⟩)
            | (go_at_call 29; refine (fault_any _ _ _).mono ?_; rintro e w3 ⟨rfl, rfl⟩))
          go_ret2
          exact DecPost.bad HBAD.out HBw.out
        | some fs =>
          have HFS := Lib.hid hf
          have hfl := fields_len hf
          have HST : Hid (decGo bs.length bs [] = match rdAll bs.length fs (bs.drop (k + 1)) (zero c) with
            | .error e => .error e
            | .ok (r', x) => if rightB x then (if r'.length ≤ (bs.drop (k + 1)).length then decGo bs.length r' (p ++ [x]) else .error (0, 0)) else .error (20, k)) := Lib.hid (by
              rw [HE.out, HDR.out, decGo_cons, if_neg HNM.out, hf]; simp only []; rw [HLEN.out]; generalize rdAll bs.length fs (bs.drop (k + 1)) (zero c) = z; rcases z with e | ⟨r', x⟩ <;> rfl)
          clear hf
          go_wp2_with (go_at_call 27; refine (of_yes _ HMr.out HFS.out).mono ?_; rintro e w4 ⟨v4, rfl, hS4, hB4, hO4⟩; obtain ⟨A4, cap4, rfl, hc4, hm4⟩ := hS4.form; have hR4 := HR.out.below hB4; have HS4 := Lib.hid (slk_avoid hS4 (g := w1.heap.size) (fun j hj => by have := hO4 j hj; omega) hR4 (by decide) (by decide) (by decide)); have z4 : w1.heap.size < w4.heap.size := Has.lt hR4; have zx4 : xb < w4.heap.size := Nat.lt_of_lt_of_le zx hB4.size; have hxc4 : w4.cell? ⟨xb, off + k, none⟩ = some (.int .u8 c) := (hB4.cell (p := ⟨xb, off + k, none⟩) zx).trans hxc; have r1 : w4.cell? ⟨w1.heap.size, 1, none⟩ = some (.int .i64 (k : Nat)) := Has.cell hR4 1; have r2 : w4.cell? ⟨w1.heap.size, 2, none⟩ = some (.int .i64 x.op) := Has.cell hR4 2; have r3 : w4.cell? ⟨w1.heap.size, 3, none⟩ = some (.int .i64 x.a) := Has.cell hR4 3; have r4 : w4.cell? ⟨w1.heap.size, 4, none⟩ = some (.int .i64 x.b) := Has.cell hR4 4; have r5 : w4.cell? ⟨w1.heap.size, 5, none⟩ = some (.int .i64 x.n) := Has.cell hR4 5; have r6 : w4.cell? ⟨w1.heap.size, 6, none⟩ = some (.int .u64 x.imm) := Has.cell hR4 6; have r7 : w4.cell? ⟨w1.heap.size, 7, none⟩ = some .nilIface := Has.cell hR4 7; have f1 : w4.frozen? ⟨w1.heap.size, 1, none⟩ = false := Has.frozen hR4 1; have f2 : w4.frozen? ⟨w1.heap.size, 2, none⟩ = false := Has.frozen hR4 2; have f3 : w4.frozen? ⟨w1.heap.size, 3, none⟩ = false := Has.frozen hR4 3; have f4 : w4.frozen? ⟨w1.heap.size, 4, none⟩ = false := Has.frozen hR4 4; have f5 : w4.frozen? ⟨w1.heap.size, 5, none⟩ = false := Has.frozen hR4 5; have f6 : w4.frozen? ⟨w1.heap.size, 6, none⟩ = false := Has.frozen hR4 6; have f7 : w4.frozen? ⟨w1.heap.size, 7, none⟩ = false := Has.frozen hR4 7; have HR4 := Lib.hid hR4; have HB4 := Lib.hid hB4; clear hS4 hB4 hO4 hR4 hm4)
          obtain ⟨wo, rfl⟩ : ∃ wo : World, wo = wr := ⟨_, rfl⟩
          go_loopw [65] (fun i wr => ∃ (j q : Nat) (y : Ins), j ≤ fs.length ∧ i = .int .i64 (j : Nat) ∧ k + 1 ≤ q ∧ q ≤ bs.length ∧ Hid y.Ok ∧ Hid (RdH wr w1.heap.size (.slice (some ⟨xb, off, none⟩) bs.length cap) q y .nilIface) ∧ Hid (rdAll bs.length fs (bs.drop (k + 1)) (zero c) = rdAll bs.length (fs.drop j) (bs.drop q) y) ∧ Hid (Only w1.heap.size w4 wr)) (fun i _ => fs.length - (intOf i).toNat)
          case atStart => exact ⟨0, k + 1, zero c, Nat.zero_le _, rfl, Nat.le_refl _, hlt, Lib.hid (zero_ok HBC.out), Lib.hid (by exact (((((((Has.set HR4.out 1 _).set 2 _).set 3 _).set 4 _).set 5 _).set 6 _).set 7 _)), Lib.hid rfl, Lib.hid ((((((((Only.refl (Nat.le_of_lt z4)).set 1 _).set 2 _).set 3 _).set 4 _).set 5 _).set 6 _).set 7 _)⟩
          case round =>
            obtain ⟨j, q, y, hj, rfl, hq1, hq2, HY, HRq, HA, HOq⟩ := hrel
            have zq : w1.heap.size < wr.heap.size := Has.lt HRq.out
            have HSq := Lib.hid (HS4.out.keep (w' := wr) FieldE_mono (fun _ h => h) (fun b hb => HOq.out.gr.block b hb.1 (fun e => hb.2 (by injection e))))
            have zle : w4.heap.size ≤ wr.heap.size := HOq.out.size
            have HBYq : Hid (∀ d ∈ bs.drop q, Byte d) := Lib.hid (fun d hd => HBY.out d (List.mem_of_mem_drop hd))
            clear r1 r2 r3 r4 r5 r6 r7 f1 f2 f3 f4 f5 f6 f7 hxc4
            by_cases hlt2 : j < fs.length
            · obtain ⟨fb, foff, c0, c1, c2, c3, c4, rfl, hbG, hE, g0, g1, g2, g3, g4⟩ := slk_get HSq.out hlt2
              obtain ⟨f, hfk⟩ : ∃ f, f = fs[j] := ⟨_, rfl⟩
              rw [← hfk] at hE
              have hfm : f ∈ fs := by rw [hfk]; exact List.getElem_mem hlt2
              obtain ⟨fn0, cap0, fn1, cap1, fn2, cap2, fn3, cap3, fn4, cap4', rfl, rfl, rfl, rfl, rfl, hcf0, hcf1, hcf2⟩ := field_shape hE
              have zb : fb < wr.heap.size := Nat.lt_of_lt_of_le hbG.1 zle
              have hbl : Below wr.heap.size wr (wr.alloc (.cells #[.func (.func fn0) #[] cap0, .func (.func fn1) #[] cap1, .func (.func fn2) #[] cap2, .func (.func fn3) #[] cap3, .func (.func fn4) #[] cap4'] 60)) := (Below.refl _ _).alloc (Nat.le_refl _) _
              have hSl : Sl (wr.alloc (.cells #[.func (.func fn0) #[] cap0, .func (.func fn1) #[] cap1, .func (.func fn2) #[] cap2, .func (.func fn3) #[] cap3, .func (.func fn4) #[] cap4'] 60)) w1.heap.size byteV (.slice (some ⟨xb, off, none⟩) bs.length cap) bs :=
                (((HS.out.below (HB.out.trans (HBr.out.mono zw))).more zw).below (HB4.out.mono (Nat.le_of_lt zG))).below HOq.out.below |>.below (hbl.mono (Nat.le_of_lt zq))
              have HC2 := Lib.hid (Do.calls (rd_do (FieldE_mono _ _ _ _ _ _ (fun _ h => h) (fun b hb => hbl.block b (Nat.lt_of_lt_of_le hb.1 zle)) hE) (fields_ok HFS.out f hfm) (fun hF => hF.2 rfl) (HRq.out.below hbl) hSl hq2 HBY.out))
              have HDJ : Hid (fs.drop j = f :: fs.drop (j + 1)) := Lib.hid (by rw [List.drop_eq_getElem_cons hlt2, hfk])
              have HFOK := Lib.hid (fields_ok HFS.out f hfm)
              have HBL := Lib.hid hbl
              clear hE hfk hfm hbl hbG hSl
              cases hrd : rdF f (bs.drop q) y with
              | got r z =>
                obtain ⟨_, _, _, m, hm⟩ := rdF_inv HBYq.out hrd
                obtain ⟨hr1, hr2⟩ := drop_suffix hq2 hm
                obtain ⟨q', hq'⟩ : ∃ q', q' = bs.length - r.length := ⟨_, rfl⟩
                have HZ := Lib.hid (rdF_ok HFOK.out HBYq.out HY.out hrd)
                have HA2 : Hid (rdAll bs.length fs (bs.drop (k + 1)) (zero c) = rdAll bs.length (fs.drop (j + 1)) (bs.drop q') z) := Lib.hid (by rw [HA.out, HDJ.out, rdAll_error, hrd]; simp only []; rw [hq', ← hr1])
                rw [← hq'] at hr2
                have HRD := Lib.hid hrd
                have HQ := Lib.hid hq'
                have hq3 : q' ≤ bs.length := by omega
                clear hrd hm hr1 hq'
                go_wp2_with (refine HC2.out.mono ?_; intro e w5 h; obtain ⟨⟨u, rfl⟩, hO, hM⟩ := h; rw [HRD.out] at hM; simp only [] at hM; rw [← HQ.out] at hM; have e7 : w5.cell? ⟨w1.heap.size, 7, none⟩ = some .nilIface := Has.cell hM 7; have z5 : w1.heap.size < w5.heap.size := Has.lt hM; have HO5 := Lib.hid hO; have HM5 := Lib.hid hM; clear hO hM)
                go_roundw
                case rel => exact ⟨j + 1, q', z, by omega, by go_num, by omega, hq3, HZ, HM5, HA2, Lib.hid (HOq.out.trans ((Only.of_below HBL.out (Nat.le_of_lt zq)).trans HO5.out))⟩
                case measure => simp [intOf]; omega
              | short =>
                have HBAD : Hid (decGo bs.length bs [] = .error (2, bs.length)) := Lib.hid (by rw [HST.out, HA.out, HDJ.out, rdAll_error, hrd])
                have HRD := Lib.hid hrd; clear hrd
                go_wp2_with (refine HC2.out.mono ?_; intro e w5 h; obtain ⟨⟨u, rfl⟩, hO, hM⟩ := h; rw [HRD.out] at hM; obtain ⟨q5, y5, hM⟩ := hM; have e7 : w5.cell? ⟨w1.heap.size, 7, none⟩ = some (.iface 89 (.agg #[.int .i64 2, .int .i64 0, .int .i64 (bs.length : Int)])) := Has.cell hM 7; have z5 : w1.heap.size < w5.heap.size := Has.lt hM; have HO5 := Lib.hid hO; clear hO hM)
                go_quiet (fail)
                go_wp2
                go_ret2
                exact DecPost.bad HBAD.out (Go.Bus.below_drewN (HBw.out.trans ((HB4.out.mono (by have := HBw.out.size; omega)).trans (((HOq.out.trans ((Only.of_below HBL.out (Nat.le_of_lt zq)).trans HO5.out)).below).mono zw))) _)
              | form =>
                have HBAD : Hid (decGo bs.length bs [] = .error (4, q)) := Lib.hid (by rw [HST.out, HA.out, HDJ.out, rdAll_error, hrd]; simp only []; rw [List.length_drop, show bs.length - (bs.length - q) = q from by omega])
                have HRD := Lib.hid hrd; clear hrd
                go_wp2_with (refine HC2.out.mono ?_; intro e w5 h; obtain ⟨⟨u, rfl⟩, hO, hM⟩ := h; rw [HRD.out] at hM; obtain ⟨q5, y5, hM⟩ := hM; have e7 : w5.cell? ⟨w1.heap.size, 7, none⟩ = some (.iface 89 (.agg #[.int .i64 4, .int .i64 0, .int .i64 (q : Int)])) := Has.cell hM 7; have z5 : w1.heap.size < w5.heap.size := Has.lt hM; have HO5 := Lib.hid hO; clear hO hM)
                go_quiet (fail)
                go_wp2
                go_ret2
                exact DecPost.bad HBAD.out (Go.Bus.below_drewN (HBw.out.trans ((HB4.out.mono (by have := HBw.out.size; omega)).trans (((HOq.out.trans ((Only.of_below HBL.out (Nat.le_of_lt zq)).trans HO5.out)).below).mono zw))) _)
            · obtain rfl : j = fs.length := by omega
              have HOK2 : Hid (rdAll bs.length fs (bs.drop (k + 1)) (zero c) = .ok (bs.drop q, y)) := Lib.hid (by rw [HA.out, List.drop_length]; rfl)
              have hBq : Below w1.heap.size w1 wr := HBr.out.trans ((HB4.out.mono (Nat.le_of_lt zG)).trans HOq.out.below)
              have HBq := Lib.hid hBq
              have HMq := Lib.hid (HM.out.keep (w' := wr) (F' := Old wr.heap.size) (fun b hb => Nat.lt_trans hb zq) (fun b hb => hBq.block b hb))
              have HOq2 := Lib.hid (own_far (own_kept HOp.out HB4.out) HR4.out (by decide) HOq.out.gr)
              clear hBq
              have HYOK := HY
              cases hr : rightB y with
              | false =>
                have HBAD : Hid (decGo bs.length bs [] = .error (20, k)) := Lib.hid (by rw [HST.out, HOK2.out]; simp only []; rw [if_neg (by rw [hr]; decide)])
                have HRT := Lib.hid ((right_any wr HMq.out HY.out).mono (R' := fun e w' => e = .returned (.bool false) ∧ Below wr.heap.size wr w') (fun e w' h => ⟨h.1.trans (by rw [hr]), h.2⟩))
                clear hr
                obtain ⟨y0, y1, y2, y3, y4⟩ := y
                have s2 : wr.cell? ⟨w1.heap.size, 2, none⟩ = some (.int .i64 y0) := Has.cell HRq.out 2
                have s3 : wr.cell? ⟨w1.heap.size, 3, none⟩ = some (.int .i64 y1) := Has.cell HRq.out 3
                have s4 : wr.cell? ⟨w1.heap.size, 4, none⟩ = some (.int .i64 y2) := Has.cell HRq.out 4
                have s5 : wr.cell? ⟨w1.heap.size, 5, none⟩ = some (.int .i64 y3) := Has.cell HRq.out 5
                have s6 : wr.cell? ⟨w1.heap.size, 6, none⟩ = some (.int .u64 y4) := Has.cell HRq.out 6
                go_wp2_with (first
                  | (go_at_call 26; refine HRT.out.mono ?_; rintro e w6 ⟨rfl, hB6⟩; have HB6 := Lib.hid hB6; clear hB6)
                  | (go_at_call 29; refine (fault_any _ _ _).mono ?_; rintro e w3 ⟨rfl, rfl⟩))
                go_ret2
                exact DecPost.bad HBAD.out (HB.out.trans ((HBq.out.trans (HB6.out.mono (Nat.le_of_lt zq))).mono zw))
              | true =>
                have HGO : Hid (decGo bs.length bs [] = decGo bs.length (bs.drop q) (p ++ [y])) := Lib.hid (by rw [HST.out, HOK2.out]; simp only []; rw [if_pos hr, if_pos (by rw [List.length_drop, List.length_drop]; omega)])
                have HRT := Lib.hid ((right_any wr HMq.out HY.out).mono (R' := fun e w' => e = .returned (.bool true) ∧ Below wr.heap.size wr w') (fun e w' h => ⟨h.1.trans (by rw [hr]), h.2⟩))
                have hpl2 : p.length + 1 ≤ 16384 := by have := HNM.out; omega
                clear hr
                obtain ⟨y0, y1, y2, y3, y4⟩ := y
                have s2 : wr.cell? ⟨w1.heap.size, 2, none⟩ = some (.int .i64 y0) := Has.cell HRq.out 2
                have s3 : wr.cell? ⟨w1.heap.size, 3, none⟩ = some (.int .i64 y1) := Has.cell HRq.out 3
                have s4 : wr.cell? ⟨w1.heap.size, 4, none⟩ = some (.int .i64 y2) := Has.cell HRq.out 4
                have s5 : wr.cell? ⟨w1.heap.size, 5, none⟩ = some (.int .i64 y3) := Has.cell HRq.out 5
                have s6 : wr.cell? ⟨w1.heap.size, 6, none⟩ = some (.int .u64 y4) := Has.cell HRq.out 6
                go_wp2_with (first
                  | (go_at_call 26; refine HRT.out.mono ?_; rintro e w6 ⟨rfl, hB6⟩; have hR6 := HRq.out.below hB6; have t2 : w6.cell? ⟨w1.heap.size, 2, none⟩ = some (.int .i64 y0) := Has.cell hR6 2; have t3 : w6.cell? ⟨w1.heap.size, 3, none⟩ = some (.int .i64 y1) := Has.cell hR6 3; have t4 : w6.cell? ⟨w1.heap.size, 4, none⟩ = some (.int .i64 y2) := Has.cell hR6 4; have t5 : w6.cell? ⟨w1.heap.size, 5, none⟩ = some (.int .i64 y3) := Has.cell hR6 5; have t6 : w6.cell? ⟨w1.heap.size, 6, none⟩ = some (.int .u64 y4) := Has.cell hR6 6; have z6 : w1.heap.size < w6.heap.size := Has.lt hR6; have HR6 := Lib.hid hR6; have HO6 := Lib.hid (own_kept HOq2.out hB6); have HB6 := Lib.hid hB6; clear hB6 hR6)
                  | (at_builtin; refine wpList_append_own _ rfl (.tmp 92) (.tmp 97) 26 (by rfl) w1.heap.size 25 i0 (.agg #[.int .i64 0, .int .i64 0, .int .i64 0, .int .i64 0, .int .u64 0]) 5 40 Tryz.underlying26 hi hi0 hi1 hi2 (by rfl) (by decide) (.slice pA p.length pc) p.length (p.flatMap insC) (by rfl) (by exact HO6.out.alloc _) ⟨w6.heap.size, 0, none⟩ 1 1 [.int .i64 y0, .int .i64 y1, .int .i64 y2, .int .i64 y3, .int .u64 y4] (by rfl) (by rfl) (by exact news_new w6 _ _) (insE_one w6 (fun _ => True) _ ⟨y0, y1, y2, y3, y4⟩ rfl) (by unfold maxLen; omega) (by omega) (by simp; omega) ?_; intro v7 w7 ho7 hg7 _; have hR7 : RdH w7 w1.heap.size (.slice (some ⟨xb, off, none⟩) bs.length cap) q ⟨y0, y1, y2, y3, y4⟩ .nilIface := Has.grown (by exact Has.alloc HR6.out _) hg7 (fun e => own_has_ne HO6.out HR6.out (by decide) e.symm); have HR7 := Lib.hid hR7; have HO7 := Lib.hid ho7; have HB7 : Hid (Below w1.heap.size w1 w7) := Lib.hid (HBq.out.trans ((((HB6.out.mono (Nat.le_of_lt zq))).alloc (Nat.le_of_lt z6) _).grown hg7 (by simp; omega) (fun i hi => (HO6.out.lt i hi).1))); clear hR7 ho7 hg7))
                go_roundw
                case rel => exact ⟨q, p ++ [⟨y0, y1, y2, y3, y4⟩], _, hq2, by simp; omega, Lib.hid (by rw [List.length_append, List.flatMap_append]; simpa [insC] using HO7.out), HR7, HGO, HB7⟩
                case measure =>
                  have h1 := RdH.atOf HR7.out
                  have h2 := RdH.atOf HR.out
                  simp only [h1, h2]
                  omega
    · obtain rfl : k = bs.length := by omega
      have HGOOD : Hid (decGo bs.length bs [] = .ok p) := Lib.hid (by rw [HE.out, List.drop_length, decGo_nil])
      go_wp2
      go_ret2
      exact DecPost.good HGOOD.out (own_base HOp.out zw) HBw.out
end codeW
end Go.Proofs.YtbbfpbmogklomaaGreatDoor
