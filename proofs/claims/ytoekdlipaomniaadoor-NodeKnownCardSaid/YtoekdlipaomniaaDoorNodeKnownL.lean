/- NodeKnown's calls, each at the parts that it hands over. No condition. -/
import Derived.Test.YtoekdlipaomniaaDoorNodeParts
import Derived.Test.YtoekdlipaomniaaDoorNodeMsg
import Derived.Test.YtoekdlipaomniaaDoorNodeFindO
namespace Go.Proofs.YtoekdlipaomniaaDoor
open Go.RowKit Go.Bus Go.Bus.cellK Go.Bus.dbK
set_option linter.unusedVariables false
set_option linter.unusedSimpArgs false
namespace partsK
open nodeC nodeK nodeL nodeM nodeFO gatherL
/-- The five blocks as they are laid at the start. -/
theorem K.start (w : World) : K w.heap.size w (((((w.alloc (.cells (verCells verX).toArray 25)).alloc (.cells #[.string ⟨#[65]⟩] 9)).alloc (.cells (staCells staX (staV w.heap.size)).toArray 28)).alloc (.cells (msgCells msgX (.slice none 0 0)).toArray 74)).alloc (.cells (tabCells tabX (.slice none 0 0)).toArray 77)) := by
  obtain ⟨w1, h1⟩ : ∃ w1, w1 = w.alloc (.cells (verCells verX).toArray 25) := ⟨_, rfl⟩
  obtain ⟨w2, h2⟩ : ∃ w2, w2 = w1.alloc (.cells #[.string ⟨#[65]⟩] 9) := ⟨_, rfl⟩
  obtain ⟨w3, h3⟩ : ∃ w3, w3 = w2.alloc (.cells (staCells staX (staV w.heap.size)).toArray 28) := ⟨_, rfl⟩
  obtain ⟨w4, h4⟩ : ∃ w4, w4 = w3.alloc (.cells (msgCells msgX (.slice none 0 0)).toArray 74) := ⟨_, rfl⟩
  rw [← h1, ← h2, ← h3, ← h4]
  have s1 : w1.heap.size = w.heap.size + 1 := by rw [h1]; simp
  have s2 : w2.heap.size = w.heap.size + 2 := by rw [h2]; simp; omega
  have s3 : w3.heap.size = w.heap.size + 3 := by rw [h3]; simp; omega
  have s4 : w4.heap.size = w.heap.size + 4 := by rw [h4]; simp; omega
  have a1 : Has w1 w.heap.size 25 (verCells verX).toArray := by rw [h1]; exact Has.new w _ _
  have a2 : Has w2 (w.heap.size + 1) 9 #[.string ⟨#[65]⟩] := by rw [h2, ← s1]; exact Has.new w1 _ _
  have a3 : Has w3 (w.heap.size + 2) 28 (staCells staX (staV w.heap.size)).toArray := by rw [h3, ← s2]; exact Has.new w2 _ _
  have a4 : Has w4 (w.heap.size + 3) 74 (msgCells msgX (.slice none 0 0)).toArray := by rw [h4, ← s3]; exact Has.new w3 _ _
  have b1 : ∀ g t cs, Has w1 g t cs → Has w2 g t cs := fun g t cs h => by rw [h2]; exact h.alloc _
  have b2 : ∀ g t cs, Has w2 g t cs → Has w3 g t cs := fun g t cs h => by rw [h3]; exact h.alloc _
  have b3 : ∀ g t cs, Has w3 g t cs → Has w4 g t cs := fun g t cs h => by rw [h4]; exact h.alloc _
  refine ⟨(b3 _ _ _ (b2 _ _ _ (b1 _ _ _ a1))).alloc _, (b3 _ _ _ (b2 _ _ _ a2)).alloc _, (b3 _ _ _ a3).alloc _, a4.alloc _, by rw [← s4]; exact Has.new w4 _ _, ?_⟩
  rw [h4, h3, h2, h1]
  exact (((((Below.refl _ w).alloc (Nat.le_refl _) _).alloc (by simp) _).alloc (by simp; omega) _).alloc (by simp; omega) _).alloc (by simp; omega) _
section
variable {H : Nat} {w W : World}
theorem K.v0 (h : K H w W) : W.cell? ⟨H, 0, none⟩ = some (.int .i64 1) := h.v.cell 0
theorem K.v1 (h : K H w W) : W.cell? ⟨H, 1, none⟩ = some (.int .i64 2) := h.v.cell 1
theorem K.v2 (h : K H w W) : W.cell? ⟨H, 2, none⟩ = some (.string ⟨#[120]⟩) := h.v.cell 2
theorem K.vlt (h : K H w W) : H < W.heap.size := h.v.lt
theorem K.s0 (h : K H w W) : W.cell? ⟨H + 1 + 1, 0, none⟩ = some (.int .i64 0) := h.s.cell 0
theorem K.s1 (h : K H w W) : W.cell? ⟨H + 1 + 1, 1, none⟩ = some (.int .i64 0) := h.s.cell 1
theorem K.s2 (h : K H w W) : W.cell? ⟨H + 1 + 1, 2, none⟩ = some (.slice (some ⟨H + 1, 0, none⟩) 1 1) := h.s.cell 2
theorem K.slt (h : K H w W) : H + 1 + 1 < W.heap.size := h.s.lt
theorem K.m0 (h : K H w W) : W.cell? ⟨H + 1 + 1 + 1, 0, none⟩ = some (.int .i64 3) := h.m.cell 0
theorem K.m1 (h : K H w W) : W.cell? ⟨H + 1 + 1 + 1, 1, none⟩ = some (.int .i64 1) := h.m.cell 1
theorem K.m2 (h : K H w W) : W.cell? ⟨H + 1 + 1 + 1, 2, none⟩ = some (.int .u32 7) := h.m.cell 2
theorem K.m3 (h : K H w W) : W.cell? ⟨H + 1 + 1 + 1, 3, none⟩ = some (.bool false) := h.m.cell 3
theorem K.m4 (h : K H w W) : W.cell? ⟨H + 1 + 1 + 1, 4, none⟩ = some (.string ⟨#[109]⟩) := h.m.cell 4
theorem K.m5 (h : K H w W) : W.cell? ⟨H + 1 + 1 + 1, 5, none⟩ = some (.int .i64 0) := h.m.cell 5
theorem K.m6 (h : K H w W) : W.cell? ⟨H + 1 + 1 + 1, 6, none⟩ = some (.string ⟨#[]⟩) := h.m.cell 6
theorem K.m7 (h : K H w W) : W.cell? ⟨H + 1 + 1 + 1, 7, none⟩ = some (.slice none 0 0) := h.m.cell 7
theorem K.mlt (h : K H w W) : H + 1 + 1 + 1 < W.heap.size := h.m.lt
theorem K.t0 (h : K H w W) : W.cell? ⟨H + 1 + 1 + 1 + 1, 0, none⟩ = some (.int .i64 0) := h.t.cell 0
theorem K.t1 (h : K H w W) : W.cell? ⟨H + 1 + 1 + 1 + 1, 1, none⟩ = some (.int .i64 0) := h.t.cell 1
theorem K.t2 (h : K H w W) : W.cell? ⟨H + 1 + 1 + 1 + 1, 2, none⟩ = some (.int .u32 7) := h.t.cell 2
theorem K.t3 (h : K H w W) : W.cell? ⟨H + 1 + 1 + 1 + 1, 3, none⟩ = some (.bool false) := h.t.cell 3
theorem K.t4 (h : K H w W) : W.cell? ⟨H + 1 + 1 + 1 + 1, 4, none⟩ = some (.string ⟨#[115]⟩) := h.t.cell 4
theorem K.t5 (h : K H w W) : W.cell? ⟨H + 1 + 1 + 1 + 1, 5, none⟩ = some (.slice none 0 0) := h.t.cell 5
theorem K.tlt (h : K H w W) : H + 1 + 1 + 1 + 1 < W.heap.size := h.t.lt
end
def dV : Db := ⟨false, verX, ⟨0, 0, []⟩, [], []⟩
def ListK (H : Nat) (w : World) (e : Ending) (w' : World) : Prop := ∃ (g cap c : Nat) (A : Option Addr), e = .returned (.slice (some ⟨g, 0, none⟩) 1 cap) ∧ cap ≤ 9223372036854775807 ∧ 1 ≤ cap ∧ w'.cell? ⟨g, 0, none⟩ = some (.iface 28 (.agg #[.int .i64 0, .int .i64 0, .slice A 0 c])) ∧ c ≤ 9223372036854775807 ∧ K H w w'
theorem list_k {H : Nat} {w W : World} (h : K H w W) : Calls Tryd.prog 6 #[.agg #[.bool false, .int .i64 1, .int .i64 2, .string ⟨#[120]⟩, .int .i64 0, .int .i64 0, .slice none 0 0, .slice none 0 0, .slice none 0 0]] W (ListK H w) := by
  refine (list_any dV _ _ _ (Old W.heap.size) W (SlK.nil_ _ _ _ _) (SlK.nil_ _ _ _ _) (SlK.nil_ _ _ _ _) (fun _ h => h) ⟨by simp [dV], by simp [dV], by simp [dV], by simp [dV], by simp [dV]⟩).mono ?_
  rintro e w' ⟨v, rfl, ho, hb⟩
  obtain ⟨xs, hown, _, Fs, hx, _⟩ := ho
  have hown : w'.ownsRow 0 49 1 v 1 xs := hown
  obtain ⟨g, cap, rfl, h1, h2⟩ := own_form hown (by omega)
  obtain ⟨c, hc, v1, hcv, hs1⟩ := hx 0 (.sta ⟨0, 0, []⟩) rfl
  have hl := hown.1
  obtain ⟨u, rfl⟩ : ∃ u, xs = [u] := by
    match xs, hl with
    | [u], _ => exact ⟨u, rfl⟩
  have hu : [u] = [ndV c (.sta ⟨0, 0, []⟩)] := hc
  obtain rfl := List.singleton_inj.1 hu
  subst hcv
  obtain ⟨A, cc, rfl, h3, h4⟩ := (hs1.sl strE_mono).form
  have hcell := hown.cellAt 0 (by simp)
  refine ⟨g, cap, cc, A, rfl, h2, h1, by simpa [ndV, staCells] using hcell, by unfold maxLen at h4; omega, h.next hb⟩
def NoK (H : Nat) (w : World) (n i : Int) (e : Ending) (w' : World) : Prop := e = .returned (.tuple #[.agg #[.bool false, .int .i64 0, .int .i64 0, .string ⟨#[]⟩, .int .i64 0, .int .i64 0, .slice none 0 0, .slice none 0 0, .slice none 0 0], .iface 98 (.agg #[.int .i64 n, .int .i64 0, .int .i64 i])]) ∧ K H w w'
theorem no_k {H g : Nat} {w W : World} (h : K H w W) (hg : W.heap.size = g) (l : List Part) (T : TypeId) (hl : l.length ≤ 4) (n : Int) (i : Nat) (he : gat (l.map nd) 0 0 d0 = .no n i) :
    Calls Tryd.prog 9 #[.slice (some ⟨g, 0, none⟩) l.length l.length] (W.alloc (.cells (l.map (val H)).toArray T)) (NoK H w n i) := by
  subst hg
  have hg := gath h l T hl
  rw [he] at hg
  refine hg.mono ?_
  rintro e w' ⟨hb, rfl⟩
  exact ⟨rfl, (h.alloc _).next hb⟩
theorem nil_k {H : Nat} {w W : World} (h : K H w W) : Calls Tryd.prog 9 #[.slice none 0 0] W (NoK H w 2 0) := by
  have hg := gather_any (.slice none 0 0) [] (Old W.heap.size) W (SlK.nil_ _ _ _ _) (fun _ h => h) (by simp) (by simp) (by simp)
  rw [show gat [] 0 0 d0 = .no 2 0 from e1] at hg
  refine hg.mono ?_
  rintro e w' ⟨hb, rfl⟩
  exact ⟨rfl, h.next hb⟩
def OkK (H : Nat) (w W : World) (D : Db) (e : Ending) (w' : World) : Prop := ∃ (As Am At : Option Addr) (cs cm ct : Nat), e = .returned (.tuple #[.agg #[.bool D.hasV, .int .i64 D.ver.line, .int .i64 D.ver.col, .string D.ver.text, .int .i64 D.sta.line, .int .i64 D.sta.col, .slice As D.sta.names.length cs, .slice Am D.msgs.length cm, .slice At D.tabs.length ct], .nilIface]) ∧
  (D.msgs.length ≤ cm ∧ cm ≤ 9223372036854775807 ∧ D.tabs.length ≤ ct ∧ ct ≤ 9223372036854775807) ∧ (0 < D.tabs.length → ∃ g, At = some ⟨g, 0, none⟩ ∧ g < w'.heap.size ∧ ∀ t, D.tabs[0]? = some t → w'.cell? ⟨g, 4, none⟩ = some (.string t.signal)) ∧ K H w w' ∧ Below W.heap.size W w'
theorem ok_k {H g : Nat} {w W : World} (h : K H w W) (hg : W.heap.size = g) (l : List Part) (T : TypeId) (hl : l.length ≤ 4) (D : Db) (he : gat (l.map nd) 0 0 d0 = .ok D) :
    Calls Tryd.prog 9 #[.slice (some ⟨g, 0, none⟩) l.length l.length] (W.alloc (.cells (l.map (val H)).toArray T)) (OkK H w W D) := by
  subst hg
  have hg := gath h l T hl
  rw [he] at hg
  refine hg.mono ?_
  rintro e w' ⟨hb, cs0, rfl, sv, mv, tv, t1, t2, rfl, _, _, _, hs, hm, ht⟩
  obtain ⟨As, cs, rfl, _, _⟩ := (hs.sl strE_mono).form
  obtain ⟨Am, cm, rfl, m1, m2⟩ := (hm.sl msgO_mono).form
  obtain ⟨xs, hown, _, Fs, hx, _⟩ := ht
  obtain ⟨At, ct, rfl, c1, c2⟩ := own_slice hown
  refine ⟨As, Am, At, cs, cm, ct, rfl, ⟨m1, by unfold maxLen at m2; omega, c1, c2⟩, fun h0 => ?_, (h.alloc _).next hb, ((Below.refl _ W).alloc (Nat.le_refl _) _).trans (hb.mono (by simp))⟩
  obtain ⟨g, cap, hv, _, _⟩ := own_form hown h0
  simp only [Value.slice.injEq] at hv
  obtain ⟨rfl, _, rfl⟩ := hv
  refine ⟨g, rfl, (hown.lt g rfl).2, fun t hti => ?_⟩
  obtain ⟨v, hc, _⟩ := hx 0 t hti
  have h4 : (eltOf 6 xs 0)[4]? = some (.string t.signal) := by rw [hc]; rfl
  have h5 := (eltOf_get h4).1
  have h6 := hown.cells (g := g) rfl (0 * 6 + 4) _ h5
  simpa [Addr.add] using h6
def Ok1 (H : Nat) (w W : World) (e : Ending) (w' : World) : Prop := ∃ (As Am At : Option Addr) (cs cm ct : Nat), e = .returned (.tuple #[.agg #[.bool false, .int .i64 0, .int .i64 0, .string ⟨#[]⟩, .int .i64 0, .int .i64 0, .slice As 1 cs, .slice Am 2 cm, .slice At 1 ct], .nilIface]) ∧
  (2 ≤ cm ∧ cm ≤ 9223372036854775807 ∧ 1 ≤ ct ∧ ct ≤ 9223372036854775807) ∧ K H w w' ∧ Below W.heap.size W w'
def Ok2 (H : Nat) (w W : World) (e : Ending) (w' : World) : Prop := ∃ (As Am At : Option Addr) (cs cm ct : Nat), e = .returned (.tuple #[.agg #[.bool true, .int .i64 1, .int .i64 2, .string ⟨#[120]⟩, .int .i64 0, .int .i64 0, .slice As 1 cs, .slice Am 0 cm, .slice At 0 ct], .nilIface]) ∧
  (cm ≤ 9223372036854775807 ∧ ct ≤ 9223372036854775807) ∧ K H w w' ∧ Below W.heap.size W w'
def Ok3 (H : Nat) (w W : World) (e : Ending) (w' : World) : Prop := ∃ (As Am : Option Addr) (g cs cm ct : Nat), e = .returned (.tuple #[.agg #[.bool false, .int .i64 0, .int .i64 0, .string ⟨#[]⟩, .int .i64 0, .int .i64 0, .slice As 1 cs, .slice Am 0 cm, .slice (some ⟨g, 0, none⟩) 1 ct], .nilIface]) ∧
  (cm ≤ 9223372036854775807 ∧ 1 ≤ ct ∧ ct ≤ 9223372036854775807) ∧ g < w'.heap.size ∧ w'.cell? ⟨g, 4, none⟩ = some (.string ⟨#[115]⟩) ∧ K H w w' ∧ Below W.heap.size W w'
theorem ok1 {H g : Nat} {w W : World} (h : K H w W) (hg : W.heap.size = g) (T : TypeId) :
    Calls Tryd.prog 9 #[.slice (some ⟨g, 0, none⟩) 4 4] (W.alloc (.cells #[val H .s, val H .m, val H .m, val H .t] T)) (Ok1 H w W) := by
  subst hg
  refine (ok_k h rfl [.s, .m, .m, .t] T (by decide) _ g1).mono ?_
  rintro e w' ⟨As, Am, At, cs, cm, ct, rfl, ⟨b1, b2, b3, b4⟩, _, hK, hb⟩
  exact ⟨As, Am, At, cs, cm, ct, rfl, ⟨b1, b2, b3, b4⟩, hK, hb⟩
theorem ok2 {H g : Nat} {w W : World} (h : K H w W) (hg : W.heap.size = g) (T : TypeId) :
    Calls Tryd.prog 9 #[.slice (some ⟨g, 0, none⟩) 2 2] (W.alloc (.cells #[val H .v, val H .s] T)) (Ok2 H w W) := by
  subst hg
  refine (ok_k h rfl [.v, .s] T (by decide) _ g2).mono ?_
  rintro e w' ⟨As, Am, At, cs, cm, ct, rfl, ⟨b1, b2, b3, b4⟩, _, hK, hb⟩
  exact ⟨As, Am, At, cs, cm, ct, rfl, ⟨b2, b4⟩, hK, hb⟩
theorem ok3 {H g : Nat} {w W : World} (h : K H w W) (hg : W.heap.size = g) (T : TypeId) :
    Calls Tryd.prog 9 #[.slice (some ⟨g, 0, none⟩) 2 2] (W.alloc (.cells #[val H .s, val H .t] T)) (Ok3 H w W) := by
  subst hg
  refine (ok_k h rfl [.s, .t] T (by decide) _ g3).mono ?_
  rintro e w' ⟨As, Am, At, cs, cm, ct, rfl, ⟨b1, b2, b3, b4⟩, h3, hK, hb⟩
  obtain ⟨g, rfl, hg, hc⟩ := h3 (by decide)
  exact ⟨As, Am, g, cs, cm, ct, rfl, ⟨b2, b3, b4⟩, hg, hc tabX rfl, hK, hb⟩
def FindK (H : Nat) (w W : World) (r : Option Msg) (e : Ending) (w' : World) : Prop := (K H w w' ∧ Below W.heap.size W w') ∧ match r with
  | some m => ∃ (A : Option Addr) (c : Nat), e = .returned (.tuple #[.agg #[.int .i64 m.line, .int .i64 m.col, .int .u32 m.id, .bool m.wide, .string m.name, .int .i64 m.size, .string m.sender, .slice A m.sigs.length c], .bool true])
  | none => e = .returned (.tuple #[.agg #[.int .i64 0, .int .i64 0, .int .u32 0, .bool false, .string ⟨#[]⟩, .int .i64 0, .string ⟨#[]⟩, .slice none 0 0], .bool false])
theorem find_k {H g : Nat} {w W : World} (h : K H w W) (hg : W.heap.size = g) (l : List Part) (T : TypeId) (hl : l.length ≤ 4) (s : ByteArray) (r : Option Msg) (he : findN (l.map nd) s = r) :
    Calls Tryd.prog 16 #[.slice (some ⟨g, 0, none⟩) l.length l.length, .string s] (W.alloc (.cells (l.map (val H)).toArray T)) (FindK H w W r) := by
  subst hg
  have hs : SlK 1 noE (W.alloc (.cells (l.map (val H)).toArray T)) (Old (W.heap.size + 1)) (.slice (some ⟨W.heap.size, 0, none⟩) (l.map nd).length (l.map nd).length) (l.map nd) :=
    SlK.whole (k := 1) (cs := l.map (val H)) (Has.new W T _) (by simp) (show W.heap.size < W.heap.size + 1 by omega) (by simp; unfold maxLen; omega) (by
      intro i x hi
      rw [List.getElem?_map] at hi
      cases hp : l[i]? with
      | none => rw [hp] at hi; cases hi
      | some p =>
        rw [hp] at hi; cases hi
        rw [part_one (c := val H p) (by rw [List.getElem?_map, hp]; rfl)]
        refine noE_mono _ _ _ _ _ _ (fun b hb => ?_) (fun b hb => heap_alloc_old _ _ hb) (h.part p)
        have hb : b < W.heap.size := hb
        show b < W.heap.size + 1
        omega)
  have hlen : (l.map nd).length = l.length := by simp
  rw [hlen] at hs
  refine (find_any _ _ s _ _ hs (fun b hb => by simpa using hb) ?_).mono ?_
  · intro m hm
    obtain ⟨p, _, hp⟩ := List.mem_map.1 hm
    cases p <;> simp [nd] at hp
    subst hp
    exact ⟨by decide, by decide, by decide, by decide, by decide, by decide, by decide, by simp [msgX]⟩
  · rw [he]
    rintro e w' ⟨hb, h2⟩
    refine ⟨⟨(h.alloc _).next hb, ((Below.refl _ W).alloc (Nat.le_refl _) _).trans (hb.mono (by simp))⟩, ?_⟩
    cases r with
    | none => exact h2
    | some m =>
      obtain ⟨cs, rfl, v, rfl, hv⟩ := h2
      obtain ⟨A, c, rfl, _, _⟩ := (hv.sl sigO_mono).form
      exact ⟨A, c, rfl⟩
theorem f1 : findN (([.n, .s, .m] : List Part).map nd) ⟨#[109]⟩ = some msgX := by simp [findN, nd, msgX]
def Find1 (H : Nat) (w : World) (e : Ending) (w' : World) : Prop := K H w w' ∧ ∃ (A : Option Addr) (c : Nat), e = .returned (.tuple #[.agg #[.int .i64 3, .int .i64 1, .int .u32 7, .bool false, .string ⟨#[109]⟩, .int .i64 0, .string ⟨#[]⟩, .slice A 0 c], .bool true])
theorem find1 {H g : Nat} {w W : World} (h : K H w W) (hg : W.heap.size = g) (T : TypeId) :
    Calls Tryd.prog 16 #[.slice (some ⟨g, 0, none⟩) 3 3, .string ⟨#[109]⟩] (W.alloc (.cells #[.nilIface, val H .s, val H .m] T)) (Find1 H w) :=
  (find_k h hg [.n, .s, .m] T (by decide) _ _ f1).mono fun _ _ h => ⟨h.1.1, h.2⟩
theorem f2 : findN (([.s, .m] : List Part).map nd) ⟨#[110]⟩ = none := by simp [findN, nd, msgX]
theorem msg_k {H : Nat} {w W : World} (h : K H w W) : Calls Tryd.prog 17 #[val H .m] W fun e w' => (∃ v, e = .returned (.agg #[.int .i64 3, .int .i64 1, .int .u32 7, .bool false, .string ⟨#[109]⟩, .int .i64 0, .string ⟨#[]⟩, v])) ∧ K H w w' := by
  refine (Message_any msgX (.slice none 0 0) (Old W.heap.size) W (SlK.nil_ _ _ _ _) (fun _ h => h) (by simp [msgX]) (by simp [msgX])).mono ?_
  rintro e w' ⟨cs, rfl, ⟨v, rfl, _⟩, hb⟩
  exact ⟨⟨v, rfl⟩, h.next hb⟩
theorem kind_k {H : Nat} {w W : World} (h : K H w W) (p : Part) (x : Nd) (c : List Value) (hv : val H p = ndV c x) : Calls Tryd.prog 12 #[val H p] W fun e w' => e = .returned (.string (kname x)) ∧ K H w w' ∧ Below W.heap.size W w' := by
  rw [hv]
  refine (Kind_any x c W).mono ?_
  rintro e w' ⟨rfl, hb⟩
  exact ⟨rfl, h.next hb, hb⟩
theorem kindn_k {H : Nat} {w W : World} (h : K H w W) : Calls Tryd.prog 12 #[.nilIface] W fun e w' => e = .returned (.string ⟨#[]⟩) ∧ K H w w' ∧ Below W.heap.size W w' := by
  refine (Kind_nil W).mono ?_
  rintro e w' ⟨rfl, hb⟩
  exact ⟨rfl, h.next hb, hb⟩
end partsK
end Go.Proofs.YtoekdlipaomniaaDoor
