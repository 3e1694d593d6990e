/- frame's reader: data, sum. -/
import Derived.Test.YtomkgnlooheibaaReadRest
import Derived.Test.YtomkgnlooheibaaInfo
import Derived.Deep.RegionLaw
import Derived.Deep.AppendLies
import Derived.Outline
namespace Go.Proofs.Ytomkgnlooheibaa
open Go.RowKit Go.Bus Go.Bus.bitK Go.Bus.numK Go.Bus.decK
set_option linter.unusedVariables false
namespace readW
def DataPost (b : Nat) (lv : Value) (m : List Bool) (a n : Nat) (i : Int) (W : Bool) (w : World) (e : Ending) (w' : World) : Prop :=
  e = .returned .nilIface ∧ Only b w w' ∧ ∃ dv, Rd w' b lv (a + 8 * n) i W dv (n : Nat) ∧ w'.ownsRow w.heap.size 5 1 dv n ((bytesF m a n).map (Value.int .u8))

theorem one_at (w : World) (u : Value) (t : TypeId) (n : Nat) (hn : w.heap.size = n) : ∀ (j : Nat) (x : Value), [u][j]? = some x → (w.alloc (.cells #[u] t)).cell? ((⟨n, 0, none⟩ : Addr).add j) = some x := by
  subst hn; exact one_new w u t

theorem only_app {b q : Nat} {a wr w1 : World} {dv : Value} {i : Nat} {u : Value} {o : Obj} (h : Only b a wr) (hg : (((wr.drewN q).setCell ⟨b, i, none⟩ u).alloc o).grownBy w1 dv.ownBlock) (hd : ∀ r, dv.ownBlock = some r → a.heap.size ≤ r) : Only b a w1 := by
  have hz := h.gr.size
  refine ⟨h.le, hg.os.trans h.gr.os, hg.tape.trans h.gr.tape, hg.output.trans h.gr.output, Nat.le_trans hz (Nat.le_trans (by simp) hg.size), fun k hk hne => ?_⟩
  have h1 := hg.block k (by simp; omega) (fun e => by have := hd k e.symm; omega)
  rw [h1, heap_alloc_old _ _ (by simp; omega), heap_setCell_other _ _ _ _ (fun e => hne (by rw [e]))]
  exact h.gr.block k hk hne

set_option maxRecDepth 100000 in
set_option maxHeartbeats 1000000 in
theorem data_any {b a n : Nat} {lv : Value} {id : Int} {W : Bool} {w : World} {m : List Bool} (hR : Rd w b lv a id W (.slice none 0 0) (n : Nat)) (hs : Sl w b Value.bool lv m) (hl : a + 8 * n ≤ m.length) (h8 : n ≤ 8) :
    Calls Try.prog 56 #[.pointer (some ⟨b, 0, none⟩)] w (DataPost b lv m a n id W w) := by
  obtain ⟨A, cap, rfl, hcap, hmax⟩ := hs.form
  obtain ⟨i0, hi, hz0, hz1, hz2⟩ := info_parts Try.infoB
  obtain ⟨c0, c1, c2, c3, c4, c5, hf⟩ := hR.cells
  have hbs := Has.lt hR
  have hbz := Nat.le_of_lt hbs
  have HR := Lib.hid hR; clear hR
  have HS := Lib.hid hs; clear hs
  go_enter Try.func56, Try.ntmps56
  go_wp2
  go_loopw [7] (fun i wr => ∃ (k : Nat) (dv : Value), k ≤ n ∧ i = .int .i64 k ∧ Rd wr b (.slice A m.length cap) (a + 8 * k) id W dv (n : Nat) ∧
    wr.ownsRow w.heap.size 5 1 dv k (((bytesF m a n).map (Value.int .u8)).take k) ∧ Only b w wr) (fun i _ => n - (intOf i).toNat)
  case atStart => exact ⟨0, _, Nat.zero_le _, rfl, by simpa using HR.out, World.ownsRow_nil _ _ _ _, Only.refl hbz⟩
  case round =>
    clear c0 c1 c2 c3 c4 c5 hf
    obtain ⟨k, dv, hk, rfl, hRr, hown, K⟩ := hrel
    have hbr : b < wr.heap.size := Has.lt hRr
    have hkz := K.size
    by_cases hlt : k < n
    · obtain ⟨p, hp⟩ : ∃ p, p = a + 8 * k := ⟨_, rfl⟩
      rw [← hp] at hRr
      obtain ⟨c0, c1, c2, c3, c4, c5, hf⟩ := hRr.cells
      have hpl : p + 8 ≤ m.length := by omega
      have hbx : ((bytesF m a n).map (Value.int .u8)).take k ++ [Value.int .u8 (nb m p 8 : Nat)] = ((bytesF m a n).map (Value.int .u8)).take (k + 1) := by
        have h1 : (bytesF m a n)[k]? = some (nb m p 8 : Int) := by simp [bytesF, hlt, hp]
        rw [List.take_add_one, List.getElem?_map, h1]; rfl
      have b1 := nb_lt (m := m) (a := p) (n := 8) hpl
      rw [show (2 : Nat) ^ 8 = 256 from by decide] at b1
      have HP := Lib.hid hp; clear hp
      have HBX := Lib.hid hbx; clear hbx
      obtain ⟨x, hx⟩ : ∃ x, x = nb m p 8 := ⟨_, rfl⟩
      rw [← hx] at b1 HBX
      have HX := Lib.hid hx; clear hx
      have hwx : IntKind.u8.wrap (x : Int) = (x : Int) := by rw [IntKind.wrap_u8]; omega
      have HRr := Lib.hid hRr; clear hRr
      have HO := Lib.hid hown; clear hown
      have HK := Lib.hid K; clear K
      have HSr := Lib.hid ((HS.out.below HK.out.below).more (Nat.le_of_lt hbr))
      go_wp2_with fail
      go_region_law (first
        | (go_simp; refine (take_any b p 8 _ m _ (by exact HSr.out) (by exact c0) (by exact c1) (by exact hf 1) (by exact hbr) hpl (by omega) (by omega)).mono ?_; rintro e w2 ⟨rfl, q, rfl⟩; rw [← HX.out])
        | (refine step_append_lies _ (by rfl) (.tmp 14) (.tmp 18) 33 (by rfl) w.heap.size 5 i0 (.int .u8 0) 1 1 Try.underlying33 hi hz0 hz1 hz2 (by rfl) (by decide) dv k (((bytesF m a n).map (Value.int .u8)).take k) (by rfl) (by exact (ownsRow_setCell_below HO.out (by dsimp only; omega) _).alloc _) ⟨wr.heap.size, 0, none⟩ 1 1 [.int .u8 (x : Nat)] (by rfl) (by rfl) (by exact one_at _ _ _ _ (by simp)) (by intro u hu; simp at hu; subst hu; rfl) (by omega) (by unfold maxLen; omega) (by omega) (by simp; omega) _ (by rfl) ?_; intro g c w1 hown1 hg1 hgg hlt1
           have hh1 : Rd w1 b (.slice A m.length cap) (p + 8) id W dv (n : Nat) := Has.grown (by exact Has.alloc (Rd.at HRr.out ((p : Int) + 8) (p + 8) (by omega)) _) hg1 (fun e => own_has_ne HO.out HRr.out (by decide) e.symm)
           have hk1 : Only b w w1 := only_app (q := 1 + q) HK.out (by exact hg1) (fun r hr => (HO.out.lt r hr).1)
           obtain ⟨e0, e1, e2, e3, e4, e5, ef⟩ := hh1.cells
           have HH1 := Lib.hid hh1
           have HK1 := Lib.hid hk1
           have HO1 := Lib.hid hown1
           clear hh1 hk1 hown1 hg1))
      all_goals
        have hR2 : Rd (w1.setCell ⟨b, 4, none⟩ (.slice (some ⟨g, 0, none⟩) (k + 1) c)) b (.slice A m.length cap) (a + 8 * (k + 1)) id W (.slice (some ⟨g, 0, none⟩) (k + 1) c) (n : Nat) := by
          rw [show a + 8 * (k + 1) = p + 8 from by have := HP.out; omega]
          exact HH1.out.data _
        have hO2 := own_far HO1.out HH1.out (by decide) (only_set (World.grownBy.refl w1 (some b)) 4 (.slice (some ⟨g, 0, none⟩) (k + 1) c))
        rw [HBX.out] at hO2
        have hK2 : Only b w (w1.setCell ⟨b, 4, none⟩ (.slice (some ⟨g, 0, none⟩) (k + 1) c)) := HK1.out.set 4 _
        have HR2 := Lib.hid hR2
        have HO2 := Lib.hid hO2
        have HK2 := Lib.hid hK2
        clear hR2 hO2 hK2
        go_wp2
        go_roundw
        case rel => exact ⟨k + 1, _, by omega, by go_num, HR2.out, HO2.out, HK2.out⟩
        case measure => first | (simp [intOf]; done) | (simp [intOf]; omega)
    · obtain rfl : k = n := by omega
      rw [List.take_of_length_le (by simp [bytesF])] at hown
      have HRr := Lib.hid hRr; clear hRr
      have HO := Lib.hid hown; clear hown
      go_wp2
      go_ret
      exact ⟨rfl, K, _, HRr.out, HO.out⟩

def SumPost (b : Nat) (lv : Value) (m : List Bool) (a : Nat) (id : Int) (W : Bool) (dv : Value) (sz : Int) (w : World) (e : Ending) (w' : World) : Prop :=
  e = errOf (if (nb m a 15 : Int) ≠ crcS (m.take a) then some 23 else none) ∧ w.grownBy w' (some b) ∧ Rd w' b lv (a + 15) id W dv sz

theorem Sl.take_ {w : World} {B : Nat} {A : Option Addr} {n cap : Nat} {m : List Bool} (h : Sl w B Value.bool (.slice A n cap) m) (k : Nat) (hk : k ≤ m.length) : Sl w B Value.bool (.slice A k cap) (m.take k) := by
  obtain ⟨A', cap', hv, h1, h2, h3⟩ := h
  simp only [Value.slice.injEq] at hv
  obtain ⟨rfl, rfl, rfl⟩ := hv
  have hl : (m.take k).length = k := by rw [List.length_take]; omega
  refine ⟨A, cap, by rw [hl], by rw [hl]; omega, h2, fun h0 => ?_⟩
  rw [hl] at h0
  obtain ⟨b, off, e, hb, hc⟩ := h3 (by omega)
  refine ⟨b, off, e, hb, fun i x hi => hc i x ?_⟩
  rw [List.getElem?_take] at hi
  split at hi
  · exact hi
  · cases hi

set_option maxRecDepth 100000 in
set_option maxHeartbeats 1000000 in
theorem sum_any {b a : Nat} {lv dv : Value} {id sz : Int} {W : Bool} {w : World} {m : List Bool} (hR : Rd w b lv a id W dv sz) (hs : Sl w b Value.bool lv m) (hl : a + 15 ≤ m.length) :
    Calls Try.prog 57 #[.pointer (some ⟨b, 0, none⟩)] w (SumPost b lv m a id W dv sz w) := by
  obtain ⟨A, cap, rfl, hcap, hmax⟩ := hs.form
  obtain ⟨c0, c1, c2, c3, c4, c5, hf⟩ := hR.cells
  have hbr : b < w.heap.size := Has.lt hR
  have HR := Lib.hid hR; clear hR
  have HS := Lib.hid hs; clear hs
  have HT := Lib.hid (Sl.take_ HS.out a (by omega))
  have hcb := crcS_bd (m.take a)
  obtain ⟨hc1, hc2⟩ := hcb
  have b1 := nb_lt (m := m) (a := a) (n := 15) hl
  rw [show (2 : Nat) ^ 15 = 32768 from by decide] at b1
  unfold maxLen at hmax
  go_enter Try.func57, Try.ntmps57
  go_wp2_with fail
  go_region_with (go_at_call 48; refine (crcK.sum_any _ (m.take a) _ (by exact HT.out.more (Nat.le_of_lt hbr))).mono ?_; rintro e w2 ⟨rfl, hb2⟩)
  all_goals
    have hb3 : Below w.heap.size w w2 := Below.trans (b := _) (by exact below_drewN (Below.refl w.heap.size w) _) hb2
    have hR3 : Rd w2 b (.slice A m.length cap) a id W dv sz := Has.below HR.out hb3 hbr
    obtain ⟨e0, e1, e2, e3, e4, e5, ef⟩ := hR3.cells
    have HR3 := Lib.hid hR3
    have HB3 := Lib.hid hb3
    have hb4 : Below b w w2 := hb3.mono (Nat.le_of_lt hbr)
    have hbz : b < w2.heap.size := Nat.lt_of_lt_of_le hbr hb3.size
    have HS3 := Lib.hid ((HS.out.below hb4).more (Nat.le_of_lt hbz))
    clear hb2 hb3 hR3 hb4
    go_wp2_with fail
    refine (take_any b a 15 _ m _ (by exact HS3.out) (by exact e0) (by exact e1) (by exact ef 1) (by exact hbz) hl (by omega) (by omega)).mono ?_
    rintro e w3 ⟨rfl, q, rfl⟩
    have HF : Hid (w.grownBy ((w2.drewN q).setCell ⟨b, 1, none⟩ (.int .i64 ((a : Int) + 15))) (some b)) :=
      only_set (w := w2.drewN q) (g := b) ⟨HB3.out.os, HB3.out.tape, HB3.out.output, HB3.out.size, fun i hi _ => HB3.out.block i hi⟩ _ _
    have HR4 := Lib.hid ((HR3.out.drewN q).at ((a : Int) + 15) (a + 15) (by omega))
    by_cases he : (nb m a 15 : Int) = crcS (m.take a)
    · have d0 : (((nb m a 15 : Nat) : Int) != crcS (m.take a)) = false := by simp [he]
      have HE : Hid ((if (nb m a 15 : Int) ≠ crcS (m.take a) then some 23 else none : Option Nat) = none) := if_neg (by simp [he])
      clear he
      go_wp2
      go_ret
      exact ⟨by rw [HE.out]; rfl, HF.out, HR4.out⟩
    · have d0 : (((nb m a 15 : Nat) : Int) != crcS (m.take a)) = true := by simp [he]
      have HE : Hid ((if (nb m a 15 : Int) ≠ crcS (m.take a) then some 23 else none : Option Nat) = some 23) := if_pos he
      clear he
      go_wp2
      go_ret
      exact ⟨by rw [HE.out]; rfl, HF.out, HR4.out⟩
end readW
end Go.Proofs.Ytomkgnlooheibaa
