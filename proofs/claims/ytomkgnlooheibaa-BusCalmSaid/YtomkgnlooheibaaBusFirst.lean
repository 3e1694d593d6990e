/- bus: the station whose frame goes (first). No condition. -/
import Derived.Test.YtomkgnlooheibaaBusTell
import Derived.Test.YtomkgnlooheibaaAhead
namespace Go.Proofs.Ytomkgnlooheibaa
open Go.RowKit Go.Bus Go.Bus.ringK Go.Bus.ring3K Go.Bus.busK Go.Bus.cellK Go.Bus.decK
set_option linter.unusedVariables false
set_option linter.unusedSimpArgs false
namespace busM
open qframe
theorem firstA_nil {A : List ASt} {k : Nat} {s : ASt} (hs : A[k]? = some s) (h : s.out = []) : firstA A (k + 1) = firstA A k := by
  rw [firstA, hs]; dsimp only; rw [h]
theorem firstA_one {A : List ASt} {k : Nat} {s : ASt} {f : F3} {L : List F3} (hs : A[k]? = some s) (h : s.out = f :: L) (h0 : firstA A k = none) : firstA A (k + 1) = some (k, f) := by
  rw [firstA, hs]; dsimp only; rw [h, h0]
theorem firstA_two {A : List ASt} {k j : Nat} {s : ASt} {f g : F3} {L : List F3} (hs : A[k]? = some s) (h : s.out = f :: L) (h0 : firstA A k = some (j, g)) : firstA A (k + 1) = if ordA f < ordA g then some (k, f) else some (j, g) := by
  rw [firstA, hs]; dsimp only; rw [h, h0]
abbrev zC : Array Value := #[.int .u32 0, .bool false, .slice none 0 0]
abbrev frC (x : Fr) : Array Value := #[.int .u32 x.id, .bool x.wide, x.data]
def Heads (S : List Stn) (j : Nat) (f : F3) (x : Fr) : Prop := ∃ s rest, S[j]? = some s ∧ s.out = x :: rest ∧ frA x = f
def FirstIs (S : List Stn) (q : Nat) (o : Option (Nat × F3)) (a : Value) (wr : World) : Prop :=
  match o with
  | none => a = .int .i64 (-1) ∧ Has wr q tF zC
  | some (j, f) => a = .int .i64 (j : Int) ∧ ∃ x, Heads S j f x ∧ Has wr q tF (frC x)
def FirstPost (S : List Stn) (w : World) (e : Ending) (w' : World) : Prop :=
  Below w.heap.size w w' ∧ match firstA (S.map Stn.a) S.length with
  | none => e = .returned (.tuple #[.int .i64 (-1), zF])
  | some (j, f) => ∃ x, Heads S j f x ∧ e = .returned (.tuple #[.int .i64 (j : Int), frV x])

set_option maxRecDepth 100000 in
set_option maxHeartbeats 2000000 in
theorem first_any {room b : Nat} {w : World} {B : BusS} (h : BusAt room w b B) :
    Calls Try.prog 31 #[.pointer (some ⟨b, 0, none⟩)] w (FirstPost B.S w) := by
  obtain ⟨g, c, hsv, hgc, hcm, hgl, hslot⟩ := h.slot
  have b0 : w.cell? ⟨b, 0, none⟩ = some (.slice (some ⟨g, 0, none⟩) B.S.length c) := by rw [← hsv]; exact (h.box.cell 0).trans rfl
  have hbl := h.box.lt
  have hnn := h.n
  have hr1 := h.room
  have H := Lib.hid h
  have HSL := Lib.hid hslot
  clear h hslot hsv
  obtain ⟨n, hn⟩ : ∃ n, n = B.S.length := ⟨_, rfl⟩
  rw [← hn] at b0 hgc hnn
  have HN := Lib.hid hn; clear hn
  go_enter Try.func31, Try.ntmps31
  go_wp2
  go_loopw [16, 4] (fun i a' wr => ∃ (a : Value) (k : Nat), a = a' ∧ k ≤ n ∧ i = .int .i64 k ∧ Below w.heap.size w wr ∧ Has wr w.heap.size tF zC ∧ FirstIs B.S (w.heap.size + 1) (firstA (B.S.map Stn.a) k) a wr) (fun i _ _ => n - (intOf i).toNat)
  case atStart =>
    refine ⟨_, 0, rfl, Nat.zero_le _, rfl, (by repeat' (first | (with_reducible assumption) | (with_reducible refine Below.setCell ?_ ?_ _) | (with_reducible refine Below.alloc ?_ ?_ _) | (with_reducible refine Below.drew ?_) | (with_reducible refine below_drewN ?_ _) | (with_reducible exact Below.refl _ _) | (show _ ≤ _; (try simp); (try omega); done) | exact Below.refl _ _ | assumption)), ?_, rfl, ?_⟩
    · exact (Has.new w _ _).alloc _
    · exact has_new1 w _ _ _
  case round =>
    obtain ⟨a, k, rfl, hk, rfl, hB, hX, hF⟩ := hrel
    have hXF : Hid (FirstIs B.S (w.heap.size + 1) (firstA (B.S.map Stn.a) k) a wr) := hF
    have hsz := hX.lt
    have HX := Lib.hid hX
    have HB := Lib.hid hB
    clear hF hX
    by_cases hlt : k < n
    · obtain ⟨s, hs⟩ : ∃ s, B.S[k]? = some s := ⟨_, List.getElem?_eq_getElem (by rw [← HN.out]; exact hlt)⟩
      have q0 : wr.cell? ⟨g, k, none⟩ = some (.pointer (some ⟨s.box, 0, none⟩)) := (hB.cell (p := ⟨g, k, none⟩) hgl).trans (HSL.out k s hs)
      have hso := H.out.sts.all k s hs
      have hsk : ((B.S.map Stn.a)[k]?) = some s.a := by rw [List.getElem?_map, hs]; rfl
      have c0 : wr.cell? ⟨s.box, 0, none⟩ = some (.pointer (some ⟨s.qo, 0, none⟩)) := (hB.cell (p := ⟨s.box, 0, none⟩) hso.box.lt).trans ((hso.box.cell 0).trans rfl)
      have HR := Lib.hid (ring_below hso.out hB)
      have HSO := Lib.hid hso
      have HSK := Lib.hid hsk
      have HS := Lib.hid hs
      have hbx := hso.box.lt
      clear hso hsk hs
      cases hout : s.out with
      | nil =>
        have HO := Lib.hid hout
        rw [hout] at HR
        clear hout
        go_wp2_with fail
        refine (peek_none HR.out).mono ?_
        rintro e w1 ⟨rfl, hb1⟩
        have HB1 := Lib.hid (HB.out.trans (hb1.mono (by have := HB.out.size; omega)))
        have HX1 := Lib.hid (HX.out.below hb1 HX.out.lt)
        have HF1 : Hid (FirstIs B.S (w.heap.size + 1) (firstA (B.S.map Stn.a) (k + 1)) a (w1.alloc (.cells #[.int .u32 0, .bool false, .slice none 0 0] 35))) := by
          unfold Hid
          rw [firstA_nil HSK.out (by show s.out.map frA = []; rw [HO.out]; rfl)]
          have h0 := hXF.out
          cases ho : firstA (B.S.map Stn.a) k with
          | none => rw [ho] at h0; exact ⟨h0.1, (h0.2.below hb1 h0.2.lt).alloc _⟩
          | some y =>
            obtain ⟨j, f⟩ := y
            rw [ho] at h0
            obtain ⟨h1, x, h2, h3⟩ := h0
            exact ⟨h1, x, h2, (h3.below hb1 h3.lt).alloc _⟩
        clear hb1 hXF HX
        unfold zF
        go_wp2
        refine ⟨⟨_, k + 1, rfl, by omega, by go_num, ?_, HX1.out.alloc _, HF1.out⟩, by simp [intOf]; omega⟩
        exact HB1.out.alloc (by have := HB1.out.size; omega) _
      | cons x rest =>
        have HO := Lib.hid hout
        rw [hout] at HR
        have hxo := (HSO.out.fout x (by rw [hout]; exact List.mem_cons_self)).1
        clear hout
        have HDV := Lib.hid (decW.own_slice hxo)
        clear hxo
        have hA : (s.a.out) = frA x :: rest.map frA := by show s.out.map frA = _; rw [HO.out]; rfl
        have HA := Lib.hid hA; clear hA
        go_wp2_with fail
        obtain ⟨A1, p1, hdv⟩ := HDV.out
        refine (peek_one HR.out hr1.2 ⟨_, _, _, hdv⟩).mono ?_
        rintro e w1 ⟨rfl, hb1⟩
        have HB1 := Lib.hid (HB.out.trans (hb1.mono (by have := HB.out.size; omega)))
        have HX1 := Lib.hid (HX.out.below hb1 HX.out.lt)
        have hz1 : w.heap.size + 1 < w1.heap.size := by
          have h0 := hXF.out
          cases ho : firstA (B.S.map Stn.a) k with
          | none => rw [ho] at h0; exact (h0.2.below hb1 h0.2.lt).lt
          | some y => obtain ⟨j, f⟩ := y; rw [ho] at h0; obtain ⟨h1, x, h2, h3⟩ := h0; exact (h3.below hb1 h3.lt).lt
        unfold frV
        obtain ⟨id, wide, dv, bs⟩ := x
        dsimp only at hdv ⊢
        subst hdv
        cases ho : firstA (B.S.map Stn.a) k with
        | none =>
          have h0 := hXF.out
          rw [ho] at h0
          obtain ⟨rfl, h1⟩ := h0
          have h1' := h1.below hb1 h1.lt
          have d0 : w1.cell? ⟨w.heap.size + 1, 0, none⟩ = some (.int .u32 0) := (h1'.cell 0).trans rfl
          have d1 : w1.cell? ⟨w.heap.size + 1, 1, none⟩ = some (.bool false) := (h1'.cell 1).trans rfl
          have d2 : w1.cell? ⟨w.heap.size + 1, 2, none⟩ = some (.slice none 0 0) := (h1'.cell 2).trans rfl
          have df := fun i => h1'.frozen i
          have H1' := Lib.hid h1'
          have HO1 := Lib.hid ho
          clear h1 h1' ho hb1 hXF HX
          have HFA : Hid (firstA (B.S.map Stn.a) (k + 1) = some (k, frA ⟨id, wide, .slice A1 bs.length p1, bs⟩)) := firstA_one HSK.out HA.out HO1.out
          have HHD : Hid (Heads B.S k (frA ⟨id, wide, .slice A1 bs.length p1, bs⟩) ⟨id, wide, .slice A1 bs.length p1, bs⟩) := ⟨s, rest, HS.out, HO.out, rfl⟩
          have hb0 := HB1.out
          go_wp2
          go_region
          go_wp2
          refine ⟨⟨_, k + 1, rfl, by omega, by go_num, ?_, ?_, ?_⟩, by simp [intOf]; omega⟩
          · exact (by repeat' (first | (with_reducible assumption) | (with_reducible refine Below.setCell ?_ ?_ _) | (with_reducible refine Below.alloc ?_ ?_ _) | (with_reducible refine Below.drew ?_) | (with_reducible refine below_drewN ?_ _) | (with_reducible exact Below.refl _ _) | (show _ ≤ _; (try simp); (try omega); done) | exact Below.refl _ _ | assumption))
          · exact (((HX1.out.far (p := ⟨w.heap.size + 1, 0, none⟩) (by simp) _).far (p := ⟨w.heap.size + 1, 1, none⟩) (by simp) _).far (p := ⟨w.heap.size + 1, 2, none⟩) (by simp) _).alloc _
          · rw [HFA.out]
            exact ⟨rfl, _, HHD.out, (has_to (has_to (has_to H1'.out 0 _ rfl) 1 _ rfl) 2 _ rfl).alloc _⟩
        | some y =>
          obtain ⟨j, f⟩ := y
          have h0 := hXF.out
          rw [ho] at h0
          obtain ⟨rfl, x2, hhd, h1⟩ := h0
          have h1' := h1.below hb1 h1.lt
          have hx2 : ∃ A n c, x2.data = .slice A n c := by
            obtain ⟨s2, rest2, e1, e2, _⟩ := hhd
            obtain ⟨A, c, e⟩ := decW.own_slice ((H.out.sts.all j s2 e1).fout x2 (by rw [e2]; exact List.mem_cons_self)).1
            exact ⟨A, _, c, e⟩
          have hof : ordA f = orderK.ord x2.id x2.wide := by
            obtain ⟨s2, rest2, e1, e2, e3⟩ := hhd
            rw [← e3]; rfl
          obtain ⟨A2, n2, p2, hdv2⟩ := hx2
          have HHD2 := Lib.hid hhd
          clear hhd
          have d0 : w1.cell? ⟨w.heap.size + 1, 0, none⟩ = some (.int .u32 x2.id) := (h1'.cell 0).trans rfl
          have d1 : w1.cell? ⟨w.heap.size + 1, 1, none⟩ = some (.bool x2.wide) := (h1'.cell 1).trans rfl
          have d2 : w1.cell? ⟨w.heap.size + 1, 2, none⟩ = some (.slice A2 n2 p2) := (h1'.cell 2).trans (by rw [← hdv2]; rfl)
          have df := fun i => h1'.frozen i
          have H1' := Lib.hid h1'
          have HO1 := Lib.hid ho
          have HOF := Lib.hid hof
          have HDV2 := Lib.hid hdv2
          have hjn : (decide ((j : Int) < 0)) = false := by simp
          have hb0 := HB1.out
          clear h1 h1' ho hb1 hXF HX hof hdv2
          go_wp2_with fail
          refine (orderK.ahead_any _ _ _ _ _ _ _).mono ?_
          rintro e w3 ⟨rfl, hb3⟩
          · skip
            have hN3 : Has w3 w1.heap.size tF #[.int .u32 id, .bool wide, .slice A1 bs.length p1] := (Has.new w1 _ _).below hb3 (by simp)
            have hX3 := (HX1.out.alloc (.cells #[.int .u32 id, .bool wide, .slice A1 bs.length p1] tF)).below hb3 (by simp; omega)
            have hY3 := (H1'.out.alloc (.cells #[.int .u32 id, .bool wide, .slice A1 bs.length p1] tF)).below hb3 (by simp; omega)
            have hB3 : Below w.heap.size w w3 := Below.trans (hb0.alloc (by omega) _) (hb3.mono (by simp; omega))
            have hz3 : w.heap.size + 1 < w3.heap.size := hY3.lt
            have e0 : w3.cell? ⟨w1.heap.size, 0, none⟩ = some (.int .u32 id) := (hN3.cell 0).trans rfl
            have e1 : w3.cell? ⟨w1.heap.size, 1, none⟩ = some (.bool wide) := (hN3.cell 1).trans rfl
            have e2 : w3.cell? ⟨w1.heap.size, 2, none⟩ = some (.slice A1 bs.length p1) := (hN3.cell 2).trans rfl
            have g0 : w3.cell? ⟨w.heap.size + 1, 0, none⟩ = some (.int .u32 x2.id) := (hY3.cell 0).trans rfl
            have g1 : w3.cell? ⟨w.heap.size + 1, 1, none⟩ = some (.bool x2.wide) := (hY3.cell 1).trans rfl
            have g2 : w3.cell? ⟨w.heap.size + 1, 2, none⟩ = some (.slice A2 n2 p2) := (hY3.cell 2).trans (by rw [← HDV2.out]; rfl)
            have gf := fun i => hY3.frozen i
            have HX3 := Lib.hid hX3
            have HY3 := Lib.hid hY3
            have hfa := firstA_two HSK.out HA.out HO1.out
            rw [HOF.out] at hfa
            by_cases ht : orderK.ord id wide < orderK.ord x2.id x2.wide
            · rw [if_pos (show ordA (frA ⟨id, wide, .slice A1 bs.length p1, bs⟩) < _ from ht)] at hfa
              have HFA := Lib.hid hfa
              have HHD : Hid (Heads B.S k (frA ⟨id, wide, .slice A1 bs.length p1, bs⟩) ⟨id, wide, .slice A1 bs.length p1, bs⟩) := ⟨s, rest, HS.out, HO.out, rfl⟩
              rw [decide_eq_true ht]
              clear ht hfa hX3 hY3 hN3 d0 d1 d2 df
              go_wp2
              go_region
              go_wp2
              refine ⟨⟨_, k + 1, rfl, by omega, by go_num, ?_, ?_, ?_⟩, by simp [intOf]; omega⟩
              · exact (by repeat' (first | (with_reducible assumption) | (with_reducible refine Below.setCell ?_ ?_ _) | (with_reducible refine Below.alloc ?_ ?_ _) | (with_reducible refine Below.drew ?_) | (with_reducible refine below_drewN ?_ _) | (with_reducible exact Below.refl _ _) | (show _ ≤ _; (try simp); (try omega); done) | exact Below.refl _ _ | assumption))
              · exact ((HX3.out.far (p := ⟨w.heap.size + 1, 0, none⟩) (by simp) _).far (p := ⟨w.heap.size + 1, 1, none⟩) (by simp) _).far (p := ⟨w.heap.size + 1, 2, none⟩) (by simp) _
              · rw [HFA.out]
                exact ⟨rfl, _, HHD.out, has_to (has_to (has_to (cs := #[.int .u32 x2.id, .bool x2.wide, x2.data]) HY3.out 0 _ rfl) 1 _ rfl) 2 _ rfl⟩
            · rw [if_neg (show ¬ ordA (frA ⟨id, wide, .slice A1 bs.length p1, bs⟩) < _ from ht)] at hfa
              have HFA := Lib.hid hfa
              rw [decide_eq_false ht]
              clear ht hfa hX3 hY3 hN3 d0 d1 d2 df
              go_wp2
              refine ⟨⟨_, k + 1, rfl, by omega, by go_num, hB3, HX3.out, ?_⟩, by simp [intOf]; omega⟩
              rw [HFA.out]
              exact ⟨rfl, _, HHD2.out, HY3.out⟩
    · obtain rfl : k = n := by omega
      have hfp : ∀ o, firstA (B.S.map Stn.a) B.S.length = o → firstA (B.S.map Stn.a) k = o := fun o e => by rw [HN.out]; exact e
      have HFP := Lib.hid hfp; clear hfp
      cases ho : firstA (B.S.map Stn.a) B.S.length with
      | none =>
        have h0 := hXF.out
        rw [HFP.out _ ho] at h0
        obtain ⟨rfl, h1⟩ := h0
        have d0 : wr.cell? ⟨w.heap.size + 1, 0, none⟩ = some (.int .u32 0) := (h1.cell 0).trans rfl
        have d1 : wr.cell? ⟨w.heap.size + 1, 1, none⟩ = some (.bool false) := (h1.cell 1).trans rfl
        have d2 : wr.cell? ⟨w.heap.size + 1, 2, none⟩ = some (.slice none 0 0) := (h1.cell 2).trans rfl
        have x0 : wr.cell? ⟨w.heap.size, 0, none⟩ = some (.int .u32 0) := (HX.out.cell 0).trans rfl
        have x1 : wr.cell? ⟨w.heap.size, 1, none⟩ = some (.bool false) := (HX.out.cell 1).trans rfl
        have x2 : wr.cell? ⟨w.heap.size, 2, none⟩ = some (.slice none 0 0) := (HX.out.cell 2).trans rfl
        have xf := fun i => HX.out.frozen i
        have HO := Lib.hid ho
        clear h1 ho
        go_wp2
        go_region
        go_wp2
        generalize hW : World.drew _ = W
        have hres : Has W w.heap.size tF #[.int .u32 0, .bool false, .slice none 0 0] := by
          subst hW
          exact has_to (has_to (has_to HX.out 0 _ rfl) 1 _ rfl) 2 _ rfl
        have hkp : Below w.heap.size w W := by
          subst hW
          exact (by repeat' (first | (with_reducible assumption) | (with_reducible refine Below.setCell ?_ ?_ _) | (with_reducible refine Below.alloc ?_ ?_ _) | (with_reducible refine Below.drew ?_) | (with_reducible refine below_drewN ?_ _) | (with_reducible exact Below.refl _ _) | (show _ ≤ _; (try simp); (try omega); done) | exact Below.refl _ _ | assumption))
        have s0 : W.cell? ⟨w.heap.size, 0, none⟩ = some (.int .u32 0) := (hres.cell 0).trans rfl
        have s1 : W.cell? ⟨w.heap.size, 1, none⟩ = some (.bool false) := (hres.cell 1).trans rfl
        have s2 : W.cell? ⟨w.heap.size, 2, none⟩ = some (.slice none 0 0) := (hres.cell 2).trans rfl
        refine bodyPost_ret (v := .tuple #[.int .i64 (-1), .agg #[.int .u32 0, .bool false, .slice none 0 0]]) (by simp [results, Try.results31, go_sem, s0, s1, s2]) rfl ?_
        refine ⟨hkp, ?_⟩
        rw [HO.out]
        rfl
      | some y =>
        obtain ⟨j, f⟩ := y
        have h0 := hXF.out
        rw [HFP.out _ ho] at h0
        obtain ⟨rfl, x, hhd, h1⟩ := h0
        have hx2 : ∃ A n c, x.data = .slice A n c := by
          obtain ⟨s2, rest2, e1, e2, _⟩ := hhd
          obtain ⟨A, c, e⟩ := decW.own_slice ((H.out.sts.all j s2 e1).fout x (by rw [e2]; exact List.mem_cons_self)).1
          exact ⟨A, _, c, e⟩
        obtain ⟨A2, n2, p2, hdv2⟩ := hx2
        have HHD := Lib.hid hhd
        have d0 : wr.cell? ⟨w.heap.size + 1, 0, none⟩ = some (.int .u32 x.id) := (h1.cell 0).trans rfl
        have d1 : wr.cell? ⟨w.heap.size + 1, 1, none⟩ = some (.bool x.wide) := (h1.cell 1).trans rfl
        have d2 : wr.cell? ⟨w.heap.size + 1, 2, none⟩ = some (.slice A2 n2 p2) := (h1.cell 2).trans (by rw [← hdv2]; rfl)
        have r0 : wr.cell? ⟨w.heap.size, 0, none⟩ = some (.int .u32 0) := (HX.out.cell 0).trans rfl
        have r1 : wr.cell? ⟨w.heap.size, 1, none⟩ = some (.bool false) := (HX.out.cell 1).trans rfl
        have r2 : wr.cell? ⟨w.heap.size, 2, none⟩ = some (.slice none 0 0) := (HX.out.cell 2).trans rfl
        have xf := fun i => HX.out.frozen i
        have HO := Lib.hid ho
        have HDV := Lib.hid hdv2
        clear h1 ho hhd hdv2
        go_wp2
        go_region
        go_wp2
        generalize hW : World.drew _ = W
        have hres : Has W w.heap.size tF #[.int .u32 x.id, .bool x.wide, .slice A2 n2 p2] := by
          subst hW
          exact has_to (has_to (has_to HX.out 0 _ rfl) 1 _ rfl) 2 _ rfl
        have hkp : Below w.heap.size w W := by
          subst hW
          exact (by repeat' (first | (with_reducible assumption) | (with_reducible refine Below.setCell ?_ ?_ _) | (with_reducible refine Below.alloc ?_ ?_ _) | (with_reducible refine Below.drew ?_) | (with_reducible refine below_drewN ?_ _) | (with_reducible exact Below.refl _ _) | (show _ ≤ _; (try simp); (try omega); done) | exact Below.refl _ _ | assumption))
        have s0 : W.cell? ⟨w.heap.size, 0, none⟩ = some (.int .u32 x.id) := (hres.cell 0).trans rfl
        have s1 : W.cell? ⟨w.heap.size, 1, none⟩ = some (.bool x.wide) := (hres.cell 1).trans rfl
        have s2 : W.cell? ⟨w.heap.size, 2, none⟩ = some (.slice A2 n2 p2) := (hres.cell 2).trans rfl
        refine bodyPost_ret (v := .tuple #[.int .i64 (j : Int), .agg #[.int .u32 x.id, .bool x.wide, .slice A2 n2 p2]]) (by simp [results, Try.results31, go_sem, s0, s1, s2]) rfl ?_
        refine ⟨hkp, ?_⟩
        rw [HO.out]
        refine ⟨x, HHD.out, ?_⟩
        unfold frV
        rw [HDV.out]
end busM
end Go.Proofs.Ytomkgnlooheibaa
