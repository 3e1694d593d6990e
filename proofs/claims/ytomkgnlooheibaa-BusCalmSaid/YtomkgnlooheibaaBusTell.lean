/- bus: all but the sender hear what comes (tell), and a row of bits comes (comes). No condition. -/
import Derived.Test.YtomkgnlooheibaaBusHeard
import Derived.Test.YtomkgnlooheibaaWire
namespace Go.Proofs.Ytomkgnlooheibaa
open Go.RowKit Go.Bus Go.Bus.ringK Go.Bus.ring3K Go.Bus.busK Go.Bus.cellK Go.Bus.decK
set_option linter.unusedVariables false
set_option linter.unusedSimpArgs false
namespace busM
open qframe
theorem Came.form {w : World} {r : FrOut} {fv ev : Value} (h : Came w r fv ev) : ∃ id wide A n c, fv = .agg #[.int .u32 id, .bool wide, .slice A n c] := by
  cases r with
  | error x => obtain ⟨rfl, _⟩ := h; exact ⟨_, _, _, _, _, rfl⟩
  | ok f => obtain ⟨_, _, v, rfl, hv⟩ := h; obtain ⟨A, c, rfl⟩ := decW.own_slice hv; exact ⟨_, _, _, _, _, rfl⟩
theorem Came.kept {F : Nat → Prop} {w w' : World} {r : FrOut} {fv ev : Value} (h : Came w r fv ev) (hk : Kp F w w') (hF : ∀ k, F k → tyAt w k ≠ some tU) : Came w' r fv ev := by
  cases r with
  | error x => exact h
  | ok f =>
    obtain ⟨h1, h2, v, h3, hv⟩ := h
    exact ⟨h1, h2, v, h3, own_at hv fun g hg => hk.block g (ty_lt (own_ty hv hg)) fun hf => hF g hf (own_ty hv hg)⟩
theorem Came.below {w w' : World} {r : FrOut} {fv ev : Value} (h : Came w r fv ev) (hb : Below w.heap.size w w') : Came w' r fv ev := h.kept (F := fun _ => False) (Kp.of_below _ hb) fun _ h => h.elim
theorem mut_lt {room : Nat} {w : World} {S : List Stn} (h : StsOk room w S) {k : Nat} (hk : mutS S k) : k < w.heap.size := by
  rcases h.mut_ty hk with h1 | h1 | h1 <;> exact ty_lt h1
theorem mut_ne_u {room : Nat} {w : World} {S : List Stn} (h : StsOk room w S) {k : Nat} (hk : mutS S k) : tyAt w k ≠ some tU := by
  rcases h.mut_ty hk with h1 | h1 | h1 <;> rw [h1] <;> decide
theorem BusAt.slot {room b : Nat} {w : World} {B : BusS} (h : BusAt room w b B) : ∃ g c, B.sv = .slice (some ⟨g, 0, none⟩) B.S.length c ∧ B.S.length ≤ c ∧ c ≤ 9223372036854775807 ∧ g < w.heap.size ∧ ∀ (k : Nat) (s : Stn), B.S[k]? = some s → w.cell? ⟨g, k, none⟩ = some (.pointer (some ⟨s.box, 0, none⟩)) := by
  obtain ⟨g, c, e, h1, h2⟩ := own_form h.row (by have := h.n.1; omega)
  refine ⟨g, c, e, h1, h2, ty_lt (own_ty h.row (by rw [e]; rfl)), fun k s hk => ?_⟩
  have := h.row.cells (g := g) (by rw [e]; rfl) k (.pointer (some ⟨s.box, 0, none⟩)) (by rw [List.getElem?_map, hk]; rfl)
  rw [Addr.add_mid, Nat.zero_add] at this
  exact this
theorem methodHear (n : Nat) (a : Addr) (w : World) : (Go.method (n + 9) 78 (.pointer (some a)) "busbar/bus.hear").run Try.prog w = .ok (79, .pointer (some a)) w := by kernel_rfl
def Told (room : Nat) (w : World) (S : List Stn) (A : List ASt) (e : Ending) (w' : World) : Prop :=
  e = .returned (.tuple #[]) ∧ ∃ S', StsOk room w' S' ∧ Mv w S w' S' ∧ S'.map Stn.a = A

set_option maxRecDepth 100000 in
set_option maxHeartbeats 2000000 in
theorem tell_any {room b : Nat} {w : World} {B : BusS} (h : BusAt room w b B) (from_ : Int) (r : FrOut) (fv ev : Value) (hc : Came w r fv ev) :
    Calls Try.prog 46 #[.pointer (some ⟨b, 0, none⟩), .int .i64 from_, fv, ev] w (Told room w B.S (tellA room from_ r (B.S.map Stn.a))) := by
  obtain ⟨id, wide, A0, n0, p0, rfl⟩ := hc.form
  obtain ⟨g, c, hsv, hgc, hcm, hgl, hslot⟩ := h.slot
  have b0 : w.cell? ⟨b, 0, none⟩ = some (.slice (some ⟨g, 0, none⟩) B.S.length c) := by rw [← hsv]; exact (h.box.cell 0).trans rfl
  have hbl := h.box.lt
  have hnn := h.n
  have hr1 := h.room
  have HC := Lib.hid hc
  have H := Lib.hid h
  have HS := Lib.hid hsv
  clear h hc hslot hsv
  obtain ⟨n, hn⟩ : ∃ n, n = B.S.length := ⟨_, rfl⟩
  rw [← hn] at b0 hgc hnn HS
  have HN := Lib.hid hn; clear hn
  go_enter Try.func46, Try.ntmps46
  go_wp2
  go_loopw [16] (fun i wr => ∃ (k : Nat) (S' : List Stn), k ≤ n ∧ i = .int .i64 k ∧ Hid (StsOk room wr S') ∧ Hid (Mv w B.S wr S') ∧ Hid (S'.map Stn.a = (tellA room from_ r (B.S.map Stn.a)).take k ++ (B.S.map Stn.a).drop k) ∧ Has wr w.heap.size 35 #[.int .u32 id, .bool wide, .slice A0 n0 p0]) (fun i _ => n - (intOf i).toNat)
  case atStart =>
    refine ⟨0, B.S, Nat.zero_le _, rfl, ?_, ?_, ?_, Has.new _ _ _⟩
    · exact H.out.sts.below (by repeat' (first | (with_reducible assumption) | (with_reducible refine Below.setCell ?_ ?_ _) | (with_reducible refine Below.alloc ?_ ?_ _) | (with_reducible refine Below.drew ?_) | (with_reducible refine below_drewN ?_ _) | (with_reducible exact Below.refl _ _) | (show _ ≤ _; (try simp); (try omega); done) | exact Below.refl _ _ | assumption))
    · exact Mv.below (by repeat' (first | (with_reducible assumption) | (with_reducible refine Below.setCell ?_ ?_ _) | (with_reducible refine Below.alloc ?_ ?_ _) | (with_reducible refine Below.drew ?_) | (with_reducible refine below_drewN ?_ _) | (with_reducible exact Below.refl _ _) | (show _ ≤ _; (try simp); (try omega); done) | exact Below.refl _ _ | assumption))
    · simp [Hid]
  case round =>
    obtain ⟨k, S', hk, rfl, hS, hM, hL, hX⟩ := hrel
    by_cases hlt : k < n
    · have hlen : S'.length = n := hM.out.len.trans HN.out.symm
      obtain ⟨s, hs⟩ : ∃ s, S'[k]? = some s := ⟨_, List.getElem?_eq_getElem (by omega)⟩
      have hBA := H.out.mv hM.out hS.out
      have q0 : wr.cell? ⟨g, k, none⟩ = some (.pointer (some ⟨s.box, 0, none⟩)) := by
        obtain ⟨g', c', e, _, _, _, h2⟩ := hBA.slot
        have e2 : B.sv = .slice (some ⟨g', 0, none⟩) S'.length c' := e
        rw [HS.out] at e2
        have hg : g = g' := by simpa using congrArg (fun v => match v with | Value.slice (some a) _ _ => a.block | _ => 0) e2
        rw [hg]
        exact h2 k s hs
      have x0 : wr.cell? ⟨w.heap.size, 0, none⟩ = some (.int .u32 id) := (hX.cell 0).trans rfl
      have x1 : wr.cell? ⟨w.heap.size, 1, none⟩ = some (.bool wide) := (hX.cell 1).trans rfl
      have x2 : wr.cell? ⟨w.heap.size, 2, none⟩ = some (.slice A0 n0 p0) := (hX.cell 2).trans rfl
      have HX := Lib.hid hX
      have HB := Lib.hid hBA
      have HSK := Lib.hid hs
      clear hX hBA hs
      by_cases hf : (k : Int) = from_
      · have hF := Lib.hid hf
        have hf' : ((k : Int) != from_) = false := by simpa using hf
        clear hf
        go_wp2
        refine ⟨⟨k + 1, S', by omega, by go_num, hS, hM, ?_, HX.out⟩, by simp [intOf]; omega⟩
        have hk2 : k < (B.S.map Stn.a).length := by rw [List.length_map, ← HN.out]; exact hlt
        refine Eq.trans hL.out (mix_same (x := (B.S.map Stn.a)[k]) (tellA_length _ _ _ _) ?_ (List.getElem?_eq_getElem hk2))
        rw [tellA_get, List.getElem?_eq_getElem hk2, Option.map_some, if_pos hF.out]
      · have hF := Lib.hid hf
        have hf' : ((k : Int) != from_) = true := by simpa using hf
        clear hf
        have hm := fun n => methodHear n ⟨s.box, 0, none⟩
        go_wp2_with fail
        refine (hear_any (hS.out.all k s HSK.out) hr1.1 hr1.2 r _ _ (by exact HC.out.kept (Kp.mono hM.out.kp fun _ h => h) fun k hk => mut_ne_u H.out.sts hk)).mono ?_
        rintro e w1 ⟨rfl, s', hs', ha', he', hk', hbl'⟩
        have hS1 := hS.out.put HSK.out hk' hs' he' hbl'
        have hM1 := hM.out.trans (Mv.put HSK.out hk' he' hbl')
        have hnl : ¬ mut1 (skel s) w.heap.size := by
          intro h
          have h2 : mutS S' w.heap.size := ⟨skel s, List.mem_map.2 ⟨s, List.mem_of_getElem? HSK.out, rfl⟩, h⟩
          unfold mutS at h2
          rw [hM.out.sk] at h2
          exact absurd (mut_lt H.out.sts h2) (Nat.lt_irrefl _)
        have hX1 := hk'.has HX.out hnl
        have hk2 : k < (B.S.map Stn.a).length := by rw [List.length_map, ← HN.out]; exact hlt
        have hL1 : (S'.set k s').map Stn.a = (tellA room from_ r (B.S.map Stn.a)).take (k + 1) ++ (B.S.map Stn.a).drop (k + 1) := by
          have hsa : (B.S.map Stn.a)[k]? = some s.a := by
            rw [← mix_get (X := tellA room from_ r (B.S.map Stn.a)) (tellA_length _ _ _ _) hk2, ← hL.out, List.getElem?_map, HSK.out]; rfl
          rw [List.map_set, hL.out, ha']
          refine mix_set (tellA_length _ _ _ _) ?_
          rw [tellA_get, hsa, Option.map_some, if_neg hF.out]
        have HS1 := Lib.hid hS1
        have HM1 := Lib.hid hM1
        have HL1 := Lib.hid hL1
        have HX1 := Lib.hid hX1
        clear hS1 hM1 hL1 hX1 hs' ha' he' hk' hbl' hnl hk2 x0 x1 x2 q0
        go_wp2
        exact ⟨⟨k + 1, S'.set k s', by omega, by go_num, HS1, HM1, HL1, HX1.out⟩, by simp [intOf]; omega⟩
    · obtain rfl : k = n := by omega
      clear hX
      go_wp2
      go_end0
      refine ⟨rfl, S', hS.out, hM.out, ?_⟩
      have h1 := hL.out
      rw [List.take_of_length_le (by rw [tellA_length, List.length_map]; have := HN.out; omega), List.drop_of_length_le (by rw [List.length_map]; have := HN.out; omega), List.append_nil] at h1
      exact h1

theorem came_dec {w w' : World} {l : List Bool} {e : Ending} (h : decW.DecPost (allF (wireW.wireF l)) w e w') : ∃ fv ev, e = .returned (.tuple #[fv, ev]) ∧ Came w' (decE l) fv ev ∧ Below w.heap.size w w' := by
  rw [show wireW.wireF l = onF l from rfl] at h
  rw [← all_on l]
  cases hr : allF (onF l) with
  | error x =>
    rw [hr] at h
    obtain ⟨rfl, hb⟩ := h
    exact ⟨_, _, rfl, ⟨rfl, rfl⟩, hb⟩
  | ok f =>
    obtain ⟨i, W, bs⟩ := f
    rw [hr] at h
    obtain ⟨v, rfl, ho, hb⟩ := h
    obtain ⟨h1, h2, h3, h4, _⟩ := all_only hr
    exact ⟨_, _, rfl, ⟨rfl, ⟨h3, h4, h1, h2⟩, v, rfl, own_base ho (Nat.zero_le _)⟩, hb⟩
theorem Came.err {w : World} {r : FrOut} {fv ev : Value} (h : Came w r fv ev) : ev = .nilIface ∨ ∃ t u, ev = .iface t u := by
  cases r with
  | error x =>
    obtain ⟨_, rfl⟩ := h
    obtain ⟨k, o⟩ := x
    cases o <;> exact .inr ⟨_, _, rfl⟩
  | ok f => exact .inl h.1

set_option maxRecDepth 100000 in
set_option maxHeartbeats 2000000 in
theorem comes_any {room b : Nat} {w : World} {B : BusS} (h : BusAt room w b B) (x : Lt) (hx : BitsOk w x.bv x.bits) :
    Calls Try.prog 33 #[.pointer (some ⟨b, 0, none⟩), .agg #[.int .i64 x.from_, x.bv, .bool x.twice, .int .i64 x.by_]] w (Told room w B.S (comesA room (B.S.map Stn.a) x.a)) := by
  obtain ⟨from_, bv, bits, twice, by_⟩ := x
  dsimp only at hx ⊢
  obtain ⟨A, cap, rfl⟩ := decW.own_slice hx.1
  have hl := hx.2
  have HX := Lib.hid hx; clear hx
  have H := Lib.hid h; clear h
  go_enter Try.func33, Try.ntmps33
  go_wp2_with fail
  refine (wireW.wire_any _ bits _ (by exact (Sl.of_own HX.out.1).at_below (by repeat' (first | (with_reducible assumption) | (with_reducible refine Below.setCell ?_ ?_ _) | (with_reducible refine Below.alloc ?_ ?_ _) | (with_reducible refine Below.drew ?_) | (with_reducible refine below_drewN ?_ _) | (with_reducible exact Below.refl _ _) | (show _ ≤ _; (try simp); (try omega); done) | exact Below.refl _ _ | assumption))) (by omega)).mono ?_
  rintro e w1 ⟨v1, rfl, hown1, hb_w1⟩
  have hs1 := Sl.of_own hown1
  obtain ⟨A1, p1, rfl⟩ := decW.own_slice hown1
  have hwl : (wireW.wireF bits).length ≤ 140737488351232 := by
    have := (stuffK.run_bd bits).2
    unfold wireW.wireF stuffK.stuffF
    rw [List.length_append, Go.Bus.bitK.msb_length]
    omega
  have HS1 := Lib.hid hs1
  have HWL := Lib.hid hwl
  clear hs1 hown1 hwl
  obtain ⟨hc_w1, hf_w1⟩ := bcell hb_w1; have hz_w1 := hb_w1.size; (try simp at hz_w1); have hB_w1 : Below w.heap.size w w1 := Below.trans (by repeat' (first | (with_reducible assumption) | (with_reducible refine Below.setCell ?_ ?_ _) | (with_reducible refine Below.alloc ?_ ?_ _) | (with_reducible refine Below.drew ?_) | (with_reducible refine below_drewN ?_ _) | (with_reducible exact Below.refl _ _) | (show _ ≤ _; (try simp); (try omega); done) | exact Below.refl _ _ | assumption)) (hb_w1.mono (by (try simp); (try omega)))
  go_wp2_with fail
  refine (decW.dec_any _ _ _ (by exact HS1.out) HWL.out).mono ?_
  rintro e w2 hd
  obtain ⟨fv, ev, rfl, hc2, hb_w2⟩ := came_dec hd
  clear hd
  obtain ⟨id, wide, A0, n0, p0, rfl⟩ := hc2.form
  have hB2 : Below w.heap.size w w2 := Below.trans hB_w1 (hb_w2.mono (by omega))
  have hz2 := hb_w2.size
  have hL2 : Has w2 w.heap.size 91 #[.int .i64 from_, .slice A bits.length cap, .bool twice, .int .i64 by_] := ((Has.new w _ _).below hb_w1 (by simp)).below hb_w2 (by omega)
  have hF2 : Has (w2.alloc (.cells #[.int .u32 id, .bool wide, .slice A0 n0 p0] 35)) w2.heap.size 35 #[.int .u32 id, .bool wide, .slice A0 n0 p0] := Has.new _ _ _
  have hL3 := hL2.alloc (.cells #[.int .u32 id, .bool wide, .slice A0 n0 p0] 35)
  have hB3 : Below w.heap.size w (w2.alloc (.cells #[.int .u32 id, .bool wide, .slice A0 n0 p0] 35)) := hB2.alloc (by omega) _
  have hC3 := hc2.below ((Below.refl w2.heap.size w2).alloc (Nat.le_refl _) (.cells #[.int .u32 id, .bool wide, .slice A0 n0 p0] 35))
  have l0 : w2.cell? ⟨w.heap.size, 0, none⟩ = some (.int .i64 from_) := (hL2.cell 0).trans rfl
  have hlt2 : w.heap.size < w2.heap.size := hL2.lt
  clear hL2 hc2 hB2 hb_w2 hb_w1 hc_w1 hf_w1 hz_w1 hB_w1
  have hF2s : ¬ mutS B.S w2.heap.size := fun h => absurd (mut_lt H.out.sts h) (by omega)
  have hLs : ¬ mutS B.S w.heap.size := fun h => absurd (mut_lt H.out.sts h) (by omega)
  generalize hW3 : w2.alloc (.cells #[.int .u32 id, .bool wide, .slice A0 n0 p0] 35) = W3 at hF2 hL3 hB3 hC3
  have HF2 := Lib.hid hF2
  have HL3 := Lib.hid hL3
  have HB3 := Lib.hid hB3
  have HC3 := Lib.hid hC3
  have HW3 := Lib.hid hW3
  have HNF := Lib.hid hF2s
  have HNL := Lib.hid hLs
  clear hF2 hL3 hB3 hC3 hF2s hLs hW3
  go_wp2_with fail
  rw [HW3.out]
  refine (tell_any (H.out.below HB3.out) from_ _ _ _ HC3.out).mono ?_
  rintro e w4 ⟨rfl, S4, hS4, hM4, hA4⟩
  have hL4 := hM4.kp.has HL3.out HNL.out
  have hF4 := hM4.kp.has HF2.out HNF.out
  have hM40 : Mv w B.S w4 S4 := (Mv.below HB3.out).trans hM4
  have m0 : w4.cell? ⟨w.heap.size, 0, none⟩ = some (.int .i64 from_) := (hL4.cell 0).trans rfl
  have m2 : w4.cell? ⟨w.heap.size, 2, none⟩ = some (.bool twice) := (hL4.cell 2).trans rfl
  have f0 : w4.cell? ⟨w2.heap.size, 0, none⟩ = some (.int .u32 id) := (hF4.cell 0).trans rfl
  have f1 : w4.cell? ⟨w2.heap.size, 1, none⟩ = some (.bool wide) := (hF4.cell 1).trans rfl
  have f2 : w4.cell? ⟨w2.heap.size, 2, none⟩ = some (.slice A0 n0 p0) := (hF4.cell 2).trans rfl
  have HS4 := Lib.hid hS4
  have HM4 := Lib.hid hM4
  have HM40 := Lib.hid hM40
  have HA4 := Lib.hid hA4
  clear hS4 hM4 hM40 hA4 hL4 hF4
  cases twice with
  | false =>
    go_wp2
    go_end0
    exact ⟨rfl, S4, HS4.out, HM40.out, HA4.out⟩
  | true =>
    go_wp2_with fail
    refine (tell_any ((H.out.below HB3.out).mv HM4.out HS4.out) from_ _ _ _ (HC3.out.kept HM4.out.kp fun k hk => mut_ne_u (H.out.below HB3.out).sts hk)).mono ?_
    rintro e w5 ⟨rfl, S5, hS5, hM5, hA5⟩
    have HS5 := Lib.hid hS5
    have HM5 := Lib.hid (HM40.out.trans hM5)
    have HA5 : Hid (S5.map Stn.a = comesA room (B.S.map Stn.a) (Lt.a ⟨from_, .slice A bits.length cap, bits, true, by_⟩)) := by
      refine Eq.trans hA5 ?_
      dsimp only
      rw [HA4.out]
      rfl
    clear hS5 hM5 hA5
    go_wp2
    go_end0
    exact ⟨rfl, S5, HS5.out, HM5.out, HA5.out⟩
end busM
end Go.Proofs.Ytomkgnlooheibaa
