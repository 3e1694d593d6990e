/- bus: a frame goes over the wire (goes): its bits, turned; lost, late, or coming. No condition. -/
import Derived.Test.YtomkgnlooheibaaBusFirst
namespace Go.Proofs.Ytomkgnlooheibaa
open Go.RowKit Go.Bus Go.Bus.ringK Go.Bus.ring3K Go.Bus.busK Go.Bus.cellK Go.Bus.decK Go.Bus.bitK
set_option linter.unusedVariables false
set_option linter.unusedSimpArgs false
namespace busM
open qframe
theorem okF_max {f : F3} (h : okF f) : f.1 ≤ 536870911 ∧ (f.2.1 = false → f.1 ≤ 2047) := by
  obtain ⟨h0, h1, _, _⟩ := h
  cases hw : f.2.1 with
  | true => rw [hw, if_pos rfl] at h1; exact ⟨by omega, by simp⟩
  | false => rw [hw, if_neg (by simp)] at h1; exact ⟨by omega, fun _ => by omega⟩
theorem own_put {w : World} {base g n c i : Nat} {e : TypeId} {xs : List Value} (h : w.ownsRow base e 1 (.slice (some ⟨g, 0, none⟩) n c) n xs) (hi : i < n) (u : Value) : (w.setCell ⟨g, i, none⟩ u).ownsRow base e 1 (.slice (some ⟨g, 0, none⟩) n c) n (xs.set i u) := by
  refine ⟨by rw [List.length_set]; exact h.1, ?_⟩
  rcases h.2 with ⟨h0, _⟩ | ⟨g', cap, cur, hv, hb, hg, hn, hm, hs, ht⟩
  · simp at h0
  · have he : g = g' ∧ c = cap := by simpa using hv
    obtain ⟨rfl, rfl⟩ := he
    refine .inr ⟨g, c, cur.setIfInBounds i u, rfl, hb, heap_setCell_same w g i cur e u hg, hn, hm, by simpa using hs, ?_⟩
    rw [Array.toList_setIfInBounds, ← ht]
    rw [List.take_set]
/-- A row of one element, just laid. -/
theorem own_one (w : World) (e : TypeId) (cs : Array Value) : (w.alloc (.cells cs e)).ownsRow 0 e cs.size (.slice (some ⟨w.heap.size, 0, none⟩) 1 1) 1 cs.toList :=
  ⟨by simp, .inr ⟨w.heap.size, 1, cs, rfl, Nat.zero_le _, heap_alloc_new w _, Nat.le_refl _, by decide, by simp, by simp [List.take_of_length_le]⟩⟩
theorem own_get {w : World} {base g n c : Nat} {e : TypeId} {xs : List Value} (h : w.ownsRow base e 1 (.slice (some ⟨g, 0, none⟩) n c) n xs) {i : Nat} {u : Value} (hi : xs[i]? = some u) : w.cell? ⟨g, i, none⟩ = some u := by
  have h1 := h.cells (g := g) rfl i u hi
  rw [Addr.add_mid, Nat.zero_add] at h1
  exact h1
theorem StsOk.foot_ty {room : Nat} {w : World} {S : List Stn} (h : StsOk room w S) {k : Nat} (hk : ∃ s ∈ S, s.foot k) : ∃ t, tyAt w k = some t ∧ t ∈ [tS, tQ, tF, tR, tU] := by
  obtain ⟨s, hs, hk⟩ := hk
  obtain ⟨i, hi⟩ := List.mem_iff_getElem?.1 hs
  have h1 := h.all i s hi
  rcases hk with hk | hk | ⟨x, hx, hk⟩ | ⟨x, hx, hk⟩
  · rcases h1.mut_ty hk with h2 | h2 | h2
    · exact ⟨_, h2, by simp⟩
    · exact ⟨_, h2, by simp⟩
    · exact ⟨_, h2, by simp⟩
  · exact ⟨_, own_ty h1.rules hk, by simp⟩
  · exact ⟨_, own_ty (h1.fout x hx).1 hk, by simp⟩
  · exact ⟨_, own_ty (h1.finn x hx).1 hk, by simp⟩
theorem StsOk.kept {room : Nat} {w w' : World} {S : List Stn} {F : Nat → Prop} (h : StsOk room w S) (hk : Kp F w w') (hF : ∀ k t, F k → tyAt w k = some t → t ∉ [tS, tQ, tF, tR, tU]) : StsOk room w' S :=
  h.keep fun k hf => by
    obtain ⟨t, h1, h2⟩ := h.foot_ty hf
    exact hk.block k (ty_lt h1) fun hFk => hF k t hFk h1 h2
theorem Mv.more {w w' w'' : World} {S S' : List Stn} {F : Nat → Prop} (h : Mv w S w' S') (hk : Kp F w' w'') (hF : ∀ k, F k → w.heap.size ≤ k) : Mv w S w'' S' :=
  ⟨h.sk, hk.mono_new h.kp fun k hf => .inr (hF k hf), h.bl⟩
/-- The flips as they lie: not in what the bus turns. -/
def FlOk (w : World) (S : List Stn) (v : Value) (l : List Int) : Prop :=
  ∃ A cap, v = .slice A l.length cap ∧ l.length ≤ cap ∧ cap ≤ maxLen ∧ (0 < l.length → ∃ b off, A = some ⟨b, off, none⟩ ∧ b < w.heap.size ∧ ¬ mutS S b ∧ ∀ (i : Nat) x, l[i]? = some x → w.cell? ⟨b, off + i, none⟩ = some (.int .i64 x))
theorem FlOk.of_sl {w : World} {S : List Stn} {v : Value} {l : List Int} {B : Nat} (h : Sl w B (Value.int .i64) v l) (hB : ∀ k, mutS S k → B ≤ k) (hw : B ≤ w.heap.size) : FlOk w S v l := by
  obtain ⟨A, cap, h1, h2, h3, h4⟩ := h
  refine ⟨A, cap, h1, h2, h3, fun h0 => ?_⟩
  obtain ⟨b, off, e, hb, hc⟩ := h4 h0
  exact ⟨b, off, e, by omega, fun hm => by have := hB b hm; omega, hc⟩
structure WireD where
  lost : Bool
  twice : Bool
  late : Int
  fv : Value
  flips : List Int
def WireD.a (x : WireD) : AWire := ⟨x.lost, x.twice, x.late, x.flips⟩
def WireD.v (x : WireD) : Value := .agg #[.bool x.lost, .bool x.twice, .int .i64 x.late, x.fv]
def GoesPost (room : Nat) (w : World) (S : List Stn) (at_ : Nat) (f : F3) (x : AWire) (e : Ending) (w' : World) : Prop :=
  ∃ S' lv' L', e = .returned (.tuple #[lv', .nilIface]) ∧ StsOk room w' S' ∧ Mv w S w' S' ∧ LateOk w' lv' L' ∧ goesA room (S.map Stn.a) at_ f x = (S'.map Stn.a, L'.map Lt.a) ∧ L'.length ≤ 1

set_option maxRecDepth 100000 in
set_option maxHeartbeats 2000000 in
theorem goes_any {room b : Nat} {w : World} {B : BusS} (h : BusAt room w b B) (at_ : Nat) (s : Stn) (x : Fr) (rest : List Fr) (hs : B.S[at_]? = some s) (ho : s.out = x :: rest) (d : WireD) (hd : FlOk w B.S d.fv d.flips) :
    Calls Try.prog 32 #[.pointer (some ⟨b, 0, none⟩), .int .i64 (at_ : Int), frV x, d.v] w (GoesPost room w B.S at_ (frA x) d.a) := by
  obtain ⟨g, c, hsv, hgc, hcm, hgl, hslot⟩ := h.slot
  have b0 : w.cell? ⟨b, 0, none⟩ = some (.slice (some ⟨g, 0, none⟩) B.S.length c) := by rw [← hsv]; exact (h.box.cell 0).trans rfl
  have q0 := hslot at_ s hs
  have hbl := h.box.lt
  have hnn := h.n
  have hr1 := h.room
  have hso := h.sts.all at_ s hs
  have hat : at_ < B.S.length := (List.getElem?_eq_some_iff.1 hs).1
  have hxo := hso.fout x (by rw [ho]; exact List.mem_cons_self)
  have hring := hso.out
  rw [ho] at hring
  obtain ⟨lost, twice, late, fv, flips⟩ := d
  obtain ⟨Af, cf, hfv, hf1, hf2, hf3⟩ := hd
  dsimp only at hfv hf1 hf3
  subst hfv
  unfold maxLen at hf2
  unfold WireD.v
  dsimp only
  have HF3 := Lib.hid hf3
  have HXO := Lib.hid hxo
  have HRG := Lib.hid hring
  have HSO := Lib.hid hso
  have HS := Lib.hid hs
  have HO := Lib.hid ho
  have H := Lib.hid h
  have HSV := Lib.hid hsv
  clear h hs ho hslot hsv hso hxo hring hf3
  obtain ⟨A1, c1, hdv⟩ := decW.own_slice HXO.out.1
  obtain ⟨id, wide, dv, bs⟩ := x
  dsimp only at hdv
  subst hdv
  unfold frV
  dsimp only
  obtain ⟨n, hn⟩ : ∃ n, n = B.S.length := ⟨_, rfl⟩
  rw [← hn] at b0 hgc hnn hat
  have HN := Lib.hid hn; clear hn
  have hbox := HSO.out.box.lt
  have k0 : w.cell? ⟨s.box, 0, none⟩ = some (.pointer (some ⟨s.qo, 0, none⟩)) := (HSO.out.box.cell 0).trans rfl
  go_enter Try.func32, Try.ntmps32
  go_wp2_with fail
  refine (bitsW.bits_ok id wide _ bs _ (by exact (Sl.of_own HXO.out.1).at_below (by repeat' (first | (with_reducible assumption) | (with_reducible refine Below.setCell ?_ ?_ _) | (with_reducible refine Below.alloc ?_ ?_ _) | (with_reducible refine Below.drew ?_) | (with_reducible refine below_drewN ?_ _) | (with_reducible exact Below.refl _ _) | (show _ ≤ _; (try simp); (try omega); done) | exact Below.refl _ _ | assumption))) (by exact HXO.out.2.1) (by exact (okF_max HXO.out.2).1) (by exact (okF_max HXO.out.2).2) (by exact HXO.out.2.2.2.1) (by exact HXO.out.2.2.2.2)).mono ?_
  rintro e w1 ⟨v1, rfl, hown1, hb_w1⟩
  have hlen := bitsF_length id wide bs
  have hb8 : bs.length ≤ 8 := HXO.out.2.2.2.1
  obtain ⟨BL, hBL⟩ : ∃ BL, BL = bitsF id wide bs := ⟨_, rfl⟩
  rw [← hBL] at hown1 hlen
  have hl1 : 34 ≤ BL.length := by rw [hlen]; split <;> omega
  have hl2 : BL.length ≤ 118 := by rw [hlen]; split <;> omega
  have HBL := Lib.hid hBL; clear hBL hlen
  have hB1 : Below w.heap.size w w1 := Below.trans (b := _) (by repeat' (first | (with_reducible assumption) | (with_reducible refine Below.setCell ?_ ?_ _) | (with_reducible refine Below.alloc ?_ ?_ _) | (with_reducible refine Below.drew ?_) | (with_reducible refine below_drewN ?_ _) | (with_reducible exact Below.refl _ _) | (show _ ≤ _; (try simp); (try omega); done) | exact Below.refl _ _ | assumption)) (hb_w1.mono (by (try simp); (try omega)))
  have hwi := (has_new1 w (.cells #[.int .u32 id, .bool wide, .slice A1 bs.length c1] 35) 38 #[.bool lost, .bool twice, .int .i64 late, .slice Af flips.length cf]).below hb_w1 (by simp)
  have hzb := hb_w1.size
  simp at hzb
  obtain ⟨Av, cv, rfl⟩ := decW.own_slice hown1
  have HB1 := Lib.hid (H.out.below hB1)
  have HSO1 := Lib.hid (HSO.out.below hB1)
  have hown1b := own_base (base' := w.heap.size + 2) hown1 (by simp)
  have HOW := Lib.hid hown1b
  have HWI := Lib.hid hwi
  have hb1w := Lib.hid hB1
  have b1 : w1.cell? ⟨b, 0, none⟩ = some (.slice (some ⟨g, 0, none⟩) n c) := (hB1.cell (p := ⟨b, 0, none⟩) hbl).trans b0
  have q1 : w1.cell? ⟨g, at_, none⟩ = some (.pointer (some ⟨s.box, 0, none⟩)) := (hB1.cell (p := ⟨g, at_, none⟩) hgl).trans q0
  have k1 : w1.cell? ⟨s.box, 0, none⟩ = some (.pointer (some ⟨s.qo, 0, none⟩)) := (hB1.cell (p := ⟨s.box, 0, none⟩) hbox).trans k0
  clear hwi hown1 hown1b hb_w1 b0 q0 k0 hB1
  go_wp2_with fail
  refine (pop_one (by exact ring_below HRG.out hb1w.out) hr1.2 ⟨_, _, _, rfl⟩).mono ?_
  rintro e w2 ⟨rfl, hring2, hkp2⟩
  have hnt : ∀ (k : Nat) (t : TypeId), tyAt w1 k = some t → t ≠ tQ → t ≠ tF → ¬ (k = s.qo ∨ k = s.ro) := by
    intro k t h1 h2 h3 hk
    rcases hk with rfl | rfl
    · rw [(ring_ty HSO1.out.out).1] at h1; exact h2 (Option.some.inj h1).symm
    · rw [(ring_ty HSO1.out.out).2] at h1; exact h3 (Option.some.inj h1).symm
  have nb := hnt b _ (has_ty HB1.out.box) (by decide) (by decide)
  have nbox := hnt s.box _ (has_ty HSO1.out.box) (by decide) (by decide)
  have ng := hnt g _ (own_ty HB1.out.row (by rw [HSV.out]; rfl)) (by decide) (by decide)
  have nw := hnt (w.heap.size + 1) _ (has_ty HWI.out) (by decide) (by decide)
  have hz1 : w.heap.size + 2 ≤ w1.heap.size := by omega
  have b2 : w2.cell? ⟨b, 0, none⟩ = some (.slice (some ⟨g, 0, none⟩) n c) := (hkp2.at_ (by omega) nb 0).trans b1
  have q2 : w2.cell? ⟨g, at_, none⟩ = some (.pointer (some ⟨s.box, 0, none⟩)) := (hkp2.at_ (by omega) ng at_).trans q1
  have hbx2 := hkp2.has HSO1.out.box nbox
  have k2 : w2.cell? ⟨s.box, 3, none⟩ = some (.int .i64 s.cn.sent) := (hbx2.cell 3).trans rfl
  have kf2 := fun i => hbx2.frozen i
  have hwi2 := hkp2.has HWI.out nw
  have i3 : w2.cell? ⟨w.heap.size + 1, 3, none⟩ = some (.slice Af flips.length cf) := (hwi2.cell 3).trans rfl
  have hz2 := hkp2.size
  have hbz2 : s.box < w2.heap.size := by omega
  have hwz2 : w.heap.size + 1 < w2.heap.size := by omega
  have hbz3 : b < w2.heap.size := by omega
  have hgz3 : g < w2.heap.size := by omega
  have HRING2 := Lib.hid hring2
  have HKP2 := Lib.hid hkp2
  have HBX2 := Lib.hid hbx2
  have HWI2 := Lib.hid hwi2
  have HNT := Lib.hid hnt
  clear hring2 hkp2 hbx2 hwi2 hnt nb ng nw nbox b1 q1 k1
  unfold frV
  dsimp only
  go_wp2
  obtain ⟨n1, n2, n3, n4, n5, n6, n7, n8⟩ := HSO1.out.ne_
  obtain ⟨l0, l1, l2, l3, l4⟩ := HSO1.out.lts
  have hkw : Kp (mut1 (skel s)) w1 ((w2.setCell ⟨s.box, 3, none⟩ (.int .i64 (wrap64 (s.cn.sent + 1)))).alloc (.cells #[.int .u32 id, .bool wide, .slice A1 bs.length c1] 35)) := by
    refine Kp.alloc (Kp.set (HKP2.out.mono fun k e => ?_) (.inl (.inl rfl)) _) _
    rcases e with rfl | rfl
    · exact .inr (.inl rfl)
    · exact .inr (.inr (.inr (.inl rfl)))
  have hst7 : StOk room ((w2.setCell ⟨s.box, 3, none⟩ (.int .i64 (wrap64 (s.cn.sent + 1)))).alloc (.cells #[.int .u32 id, .bool wide, .slice A1 bs.length c1] 35)) { s with out := rest, fo := place room s.fo 1, cn := { s.cn with sent := inc s.cn.sent } } := by
    have hal := (Below.refl (w2.setCell ⟨s.box, 3, none⟩ (.int .i64 (wrap64 (s.cn.sent + 1)))).heap.size (w2.setCell ⟨s.box, 3, none⟩ (.int .i64 (wrap64 (s.cn.sent + 1))))).alloc (Nat.le_refl _) (.cells #[.int .u32 id, .bool wide, .slice A1 bs.length c1] 35)
    refine HSO1.out.re hkw rfl rfl rfl ?_ ?_ ?_ ?_ (fun y hy => .inl hy) HSO1.out.hb
    · exact (has_to HBX2.out 3 _ rfl).alloc _
    · exact ring_below (ring_far HRING2.out n1.symm n2.symm _) hal
    · refine ring_below (ring_far (HSO1.out.inn.keep (HKP2.out.block _ l3 ?_) (HKP2.out.block _ l4 ?_)) n3.symm n4.symm _) hal
      · exact fun e => e.elim (fun e => HSO1.out.hq e.symm) n8
      · exact fun e => e.elim (fun e => n6 e.symm) (fun e => HSO1.out.hr e.symm)
    · intro y hy
      exact .inl (by rw [HO.out]; exact List.mem_cons_of_mem _ hy)
  have hS7 := HB1.out.sts.put HS.out hkw hst7 rfl (fun k hk => .inl hk)
  have hM7 := (Mv.below (S := B.S) hb1w.out).trans (Mv.put HS.out hkw (s' := { s with out := rest, fo := place room s.fo 1, cn := { s.cn with sent := inc s.cn.sent } }) rfl (fun k hk => .inl hk))
  have hwi7 := (HWI2.out.far (p := ⟨s.box, 3, none⟩) (show w.heap.size + 1 ≠ s.box by omega) (.int .i64 (wrap64 (s.cn.sent + 1)))).alloc (.cells #[.int .u32 id, .bool wide, .slice A1 bs.length c1] 35)
  obtain ⟨gb, cb, hgb, -, -⟩ := own_form HOW.out (by omega)
  have hgg : Av = some ⟨gb, 0, none⟩ ∧ cv = cb := by simpa using hgb
  obtain ⟨rfl, rfl⟩ := hgg
  have hgbt := own_ty HOW.out (g := gb) rfl
  have hgb1 : w.heap.size + 2 ≤ gb := (HOW.out.lt gb rfl).1
  have hgb2 : gb < w1.heap.size := ty_lt hgbt
  have hno : gb ≠ s.box := by omega
  have how7 : ((w2.setCell ⟨s.box, 3, none⟩ (.int .i64 (wrap64 (s.cn.sent + 1)))).alloc (.cells #[.int .u32 id, .bool wide, .slice A1 bs.length c1] 35)).ownsRow (w.heap.size + 2) tBo 1 (.slice (some ⟨gb, 0, none⟩) BL.length cv) BL.length (BL.map Value.bool) :=
    hkw.own HOW.out fun g hg => by
      have : gb = g := by simpa [Value.ownBlock] using hg
      subst this
      intro hm
      rcases HSO1.out.mut_ty hm with h1 | h1 | h1 <;> rw [hgbt] at h1 <;> exact absurd (Option.some.inj h1) (by decide)
  generalize (w2.setCell ⟨s.box, 3, none⟩ (.int .i64 (wrap64 (s.cn.sent + 1)))).alloc (.cells #[.int .u32 id, .bool wide, .slice A1 bs.length c1] 35) = W7 at hkw hS7 hM7 hwi7 how7 hst7 ⊢
  have HS7 := Lib.hid hS7
  have HM7 := Lib.hid hM7
  have HWI7 := Lib.hid hwi7
  have HOW7 := Lib.hid how7
  have hz7 := hkw.size
  clear hkw hst7 hS7 hM7 hwi7 how7 hgbt hgb b2 q2 k2 kf2 i3
  go_loopw [60] (fun i wr => ∃ k : Nat, k ≤ flips.length ∧ i = .int .i64 k ∧ Kp (fun j => j = gb) W7 wr ∧ Hid (wr.ownsRow (w.heap.size + 2) tBo 1 (.slice (some ⟨gb, 0, none⟩) BL.length cv) BL.length ((flipL BL (flips.take k)).map Value.bool))) (fun i _ => flips.length - (intOf i).toNat)
  case atStart => exact ⟨0, Nat.zero_le _, rfl, Kp.refl _ _, HOW7⟩
  case round =>
    obtain ⟨k, hk, rfl, hkp, hown⟩ := hrel
    have HK := Lib.hid hkp
    by_cases hlt : k < flips.length
    · obtain ⟨bf, off, rfl, hbf, hnm, hcell⟩ := HF3.out (by omega)
      have p0 : wr.cell? ⟨bf, off + k, none⟩ = some (.int .i64 flips[k]) := (hkp.at_ (by omega) (show ¬ bf = gb by omega) _).trans ((HM7.out.kp.at_ hbf hnm _).trans (hcell k _ (List.getElem?_eq_getElem hlt)))
      obtain ⟨x, hx⟩ : ∃ x, x = flips[k] := ⟨_, rfl⟩
      rw [← hx] at p0
      have hstep : Hid (∀ y, flip1 (flipL BL (flips.take k)) x = y → flipL BL (flips.take (k + 1)) = y) := by
        intro y hy
        rw [take_snoc flips k hlt, flipL, List.foldl_append, ← hx]
        exact hy
      have hll : Hid ((flipL BL (flips.take k)).length = BL.length) := flipL_length _ _
      clear hcell hx hkp hnm
      by_cases hx0 : 0 ≤ x
      · by_cases hx1 : x < (BL.length : Int)
        · obtain ⟨m, rfl⟩ := Int.eq_ofNat_of_zero_le hx0
          have hm : m < (flipL BL (flips.take k)).length := by rw [hll.out]; omega
          obtain ⟨u, hu⟩ : ∃ u, u = (flipL BL (flips.take k))[m] := ⟨_, rfl⟩
          have p1 : wr.cell? ⟨gb, m, none⟩ = some (.bool u) := own_get hown.out (by rw [List.getElem?_map, List.getElem?_eq_getElem hm, ← hu]; rfl)
          have pf : wr.frozen? ⟨gb, m, none⟩ = false := by
            rcases hown.out.2 with ⟨h0, _⟩ | ⟨g', cap, cur, hv, _, hg, _⟩
            · simp at h0
            · have he : gb = g' ∧ cv = cap := by simpa using hv
              rw [he.1]
              exact frozen_of_row wr g' m cur _ hg
          have hfl : Hid (flipL BL (flips.take (k + 1)) = (flipL BL (flips.take k)).set m (!u)) := by
            refine hstep.out _ ?_
            unfold flip1
            rw [if_pos ⟨hx0, by rw [hll.out]; exact hx1⟩]
            simp only [Int.toNat_natCast]
            rw [List.getD_eq_getElem?_getD, List.getElem?_eq_getElem hm, hu]; rfl
          have hmn : m < BL.length := by omega
          clear hm hu hstep
          go_wp2
          refine ⟨⟨k + 1, by omega, by go_num, HK.out.set (.inl rfl) _, ?_⟩, by simp [intOf]; omega⟩
          show World.ownsRow _ _ _ _ _ _ _
          rw [hfl.out, List.map_set]
          exact own_put hown.out hmn _
        · have hfl : Hid (flipL BL (flips.take (k + 1)) = flipL BL (flips.take k)) := by
            refine hstep.out _ ?_
            unfold flip1
            rw [if_neg (fun h => hx1 (by rw [hll.out] at h; exact h.2))]
          clear hstep
          have t0 : decide (0 ≤ x) = true := decide_eq_true hx0
          have t1 : decide (x < (BL.length : Int)) = false := decide_eq_false hx1
          go_wp2
          refine ⟨⟨k + 1, by omega, by go_num, HK.out, ?_⟩, by simp [intOf]; omega⟩
          rw [hfl.out]
          exact hown
      · have hfl : Hid (flipL BL (flips.take (k + 1)) = flipL BL (flips.take k)) := by
          refine hstep.out _ ?_
          unfold flip1
          rw [if_neg (fun h => hx0 h.1)]
        clear hstep
        have t0 : decide (0 ≤ x) = false := decide_eq_false hx0
        go_wp2
        refine ⟨⟨k + 1, by omega, by go_num, HK.out, ?_⟩, by simp [intOf]; omega⟩
        rw [hfl.out]
        exact hown
    · obtain rfl : k = flips.length := by omega
      have hwr := hkp.has HWI7.out (show ¬ w.heap.size + 1 = gb by omega)
      have w0 : wr.cell? ⟨w.heap.size + 1, 0, none⟩ = some (.bool lost) := (hwr.cell 0).trans rfl
      have w1' : wr.cell? ⟨w.heap.size + 1, 1, none⟩ = some (.bool twice) := (hwr.cell 1).trans rfl
      have w2' : wr.cell? ⟨w.heap.size + 1, 2, none⟩ = some (.int .i64 late) := (hwr.cell 2).trans rfl
      have hwlt := hwr.lt
      have hfull := hown.out
      rw [List.take_length] at hfull
      have hbok : BitsOk wr (.slice (some ⟨gb, 0, none⟩) BL.length cv) (flipL BL flips) := by
        refine ⟨?_, by rw [flipL_length]; exact hl2⟩
        rw [flipL_length]
        exact own_base hfull (Nat.zero_le _)
      have hgt := own_ty hfull (g := gb) rfl
      have hgt7 := own_ty HOW7.out (g := gb) rfl
      have hsr : StsOk room wr (B.S.set at_ { s with out := rest, fo := place room s.fo 1, cn := { s.cn with sent := inc s.cn.sent } }) := HS7.out.kept hkp fun j t hj ht => by
        have hj' : j = gb := hj
        subst hj'
        rw [hgt7] at ht
        cases ht
        decide
      have hmr := HM7.out.more hkp fun j hj => by have hj' : j = gb := hj; omega
      have hsa : (B.S.map Stn.a)[at_]? = some s.a := by rw [List.getElem?_map, HS.out]; rfl
      have hmap : (B.S.set at_ { s with out := rest, fo := place room s.fo 1, cn := { s.cn with sent := inc s.cn.sent } }).map Stn.a = (B.S.map Stn.a).set at_ { s.a with out := s.a.out.tail, cn := { s.cn with sent := inc s.cn.sent } } := by
        rw [List.map_set]
        refine congrArg ((B.S.map Stn.a).set at_) ?_
        show (⟨rest.map frA, s.inn.map frA, s.rules, _⟩ : ASt) = ⟨(s.out.map frA).tail, s.inn.map frA, s.rules, _⟩
        rw [HO.out]
        rfl
      have hgo : ∀ q, goesA room (B.S.map Stn.a) at_ (id, wide, bs) ⟨lost, twice, late, flips⟩ = q → goesA room (B.S.map Stn.a) at_ (id, wide, bs) ⟨lost, twice, late, flips⟩ = q := fun _ h => h
      have hgoes : goesA room (B.S.map Stn.a) at_ (id, wide, bs) ⟨lost, twice, late, flips⟩ = (if lost = true then ((B.S.set at_ { s with out := rest, fo := place room s.fo 1, cn := { s.cn with sent := inc s.cn.sent } }).map Stn.a, []) else if 0 < late then ((B.S.set at_ { s with out := rest, fo := place room s.fo 1, cn := { s.cn with sent := inc s.cn.sent } }).map Stn.a, [⟨at_, flipL BL flips, twice, late⟩]) else (comesA room ((B.S.set at_ { s with out := rest, fo := place room s.fo 1, cn := { s.cn with sent := inc s.cn.sent } }).map Stn.a) ⟨at_, flipL BL flips, twice, late⟩, [])) := by
        unfold goesA
        rw [hsa, HBL.out, hmap]
        rfl
      generalize (B.S.set at_ { s with out := rest, fo := place room s.fo 1, cn := { s.cn with sent := inc s.cn.sent } }) = S7 at hsr hmr hgoes
      have HBO := Lib.hid hbok
      have HSR := Lib.hid hsr
      have HMR := Lib.hid hmr
      have HGO := Lib.hid hgoes
      clear hkp hwr hfull hbok hgt hgt7 hsr hmr hsa hmap hgo hgoes
      have hsz : w.heap.size ≤ wr.heap.size := HMR.out.kp.size
      cases lost with
      | true =>
        go_wp2
        go_ret2
        have hal := (Below.refl wr.heap.size wr).alloc (Nat.le_refl _) (.cells #[.int .i64 (at_ : Int), .slice (some ⟨gb, 0, none⟩) BL.length cv, .bool twice, .int .i64 late] 91)
        exact ⟨S7, _, [], rfl, HSR.out.below hal, HMR.out.trans (Mv.below hal), ⟨World.ownsRow_nil _ _ _ _, by simp⟩, HGO.out, by simp⟩
      | false =>
        by_cases hl : 0 < late
        · have t0 : decide (0 < late) = true := decide_eq_true hl
          have HL0 := Lib.hid hl; clear hl
          go_wp2
          go_ret2
          have hal := (Below.refl wr.heap.size wr).alloc (Nat.le_refl _) (.cells #[.int .i64 (at_ : Int), .slice (some ⟨gb, 0, none⟩) BL.length cv, .bool twice, .int .i64 late] 91)
          have hal2 := hal.alloc (by simp) (.cells #[.int .i64 (at_ : Int), .slice (some ⟨gb, 0, none⟩) BL.length cv, .bool twice, .int .i64 late] 91)
          refine ⟨S7, _, [⟨at_, .slice (some ⟨gb, 0, none⟩) BL.length cv, flipL BL flips, twice, late⟩], rfl, HSR.out.below hal2, HMR.out.trans (Mv.below hal2), ⟨?_, ?_⟩, HGO.out.trans (if_pos HL0.out), by simp⟩
          · have := own_one (wr.alloc (.cells #[.int .i64 (at_ : Int), .slice (some ⟨gb, 0, none⟩) BL.length cv, .bool twice, .int .i64 late] 91)) tL #[.int .i64 (at_ : Int), .slice (some ⟨gb, 0, none⟩) BL.length cv, .bool twice, .int .i64 late]
            simpa [Lt.c] using this
          · intro y hy
            simp at hy
            subst hy
            refine ⟨own_at HBO.out.1 fun g hg => hal2.block g ?_, HBO.out.2⟩
            exact ty_lt (own_ty HBO.out.1 hg)
        · have t0 : decide (0 < late) = false := decide_eq_false hl
          have HL0 := Lib.hid hl; clear hl
          go_wp2_with fail
          have hal := (Below.refl wr.heap.size wr).alloc (Nat.le_refl _) (.cells #[.int .i64 (at_ : Int), .slice (some ⟨gb, 0, none⟩) BL.length cv, .bool twice, .int .i64 late] 91)
          refine (comes_any ((H.out.mv HMR.out HSR.out).below hal) ⟨at_, .slice (some ⟨gb, 0, none⟩) BL.length cv, flipL BL flips, twice, late⟩ ⟨own_at HBO.out.1 fun g hg => hal.block g (ty_lt (own_ty HBO.out.1 hg)), HBO.out.2⟩).mono ?_
          rintro e w8 ⟨rfl, S8, hS8, hM8, hA8⟩
          have HS8 := Lib.hid hS8
          have HM8 := Lib.hid ((HMR.out.trans (Mv.below hal)).trans hM8)
          have HA8 := Lib.hid hA8
          clear hS8 hM8 hA8 hal
          go_wp2
          go_ret2
          refine ⟨S8, _, [], rfl, HS8.out, HM8.out, ⟨World.ownsRow_nil _ _ _ _, by simp⟩, HGO.out.trans ((if_neg (by simp)).trans ((if_neg (show ¬ 0 < late by have := HL0.out; omega)).trans ?_)), by simp⟩
          rw [HA8.out]
          rfl
end busM
end Go.Proofs.Ytomkgnlooheibaa
