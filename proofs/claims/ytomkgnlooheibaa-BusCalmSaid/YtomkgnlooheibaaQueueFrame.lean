/- queue.Queue[api.Frame]: New, Push, Peek, Pop, Len by their contracts. -/
import Derived.Test.YtomkgnlooheibaaRing3
import Derived.Test.YtomkgnlooheibaaKp
import Derived.Test.YtomkgnlooheibaaProg
import Derived.Deep.QuietTactic
import Derived.BigQuiet
import Derived.RegionTactic
import Derived.Deep.RegionWith
import Derived.Laws.MakeOwn
import Derived.WalkLawsBesides
import Derived.Outline
namespace Go.Proofs.Ytomkgnlooheibaa
open Go.RowKit Go.Bus Go.Bus.ringK Go.Bus.ring3K
set_option linter.unusedVariables false
set_option linter.unusedSimpArgs false
theorem Try.infoQframe : (Try.prog.info? 35).map (fun i => (i.zero, i.size, i.bytes)) = some (some (.agg #[.int .u32 0, .bool false, .slice none 0 0]), 3, 32) := by kernel_rfl
namespace qframe
abbrev RingF (w : World) (q g room from_ : Nat) (L : List Fr) : Prop := Ring3 w q g 99 35 room from_ L
def zF : Value := .agg #[.int .u32 0, .bool false, .slice none 0 0]
def frV (x : Fr) : Value := .agg #[.int .u32 x.id, .bool x.wide, x.data]

theorem ring_below {w w' : World} {q g room from_ : Nat} {L : List Fr} (h : RingF w q g room from_ L) (hb : Below w.heap.size w w') : RingF w' q g room from_ L := h.keep (hb.block _ h.lt.1) (hb.block _ h.lt.2)
theorem has_new1 (w : World) (o : Obj) (t : TypeId) (cs : Array Value) : Has ((w.alloc o).alloc (.cells cs t)) (w.heap.size + 1) t cs := by
  have := Has.new (w.alloc o) t cs
  simpa using this
theorem has_to {w : World} {g : Nat} {t : TypeId} {cs cs' : Array Value} (h : Has w g t cs) (i : Nat) (u : Value) (e : cs.setIfInBounds i u = cs') : Has (w.setCell ⟨g, i, none⟩ u) g t cs' := e ▸ h.set i u
theorem ring_far {w : World} {q g room from_ : Nat} {L : List Fr} (h : RingF w q g room from_ L) {p : Addr} (h1 : q ≠ p.block) (h2 : g ≠ p.block) (u : Value) : RingF (w.setCell p u) q g room from_ L := h.keep (heap_setCell_other w p q u h1) (heap_setCell_other w p g u h2)

set_option maxRecDepth 100000 in
set_option maxHeartbeats 1000000 in
theorem at_any {w : World} {q g room from_ : Nat} {c : Int} (h : Has w q 99 #[.slice (some ⟨g, 0, none⟩) room room, .int .i64 (from_ : Int), .int .i64 c]) (hf : from_ < room) (i : Nat) (hi : i ≤ room) (hr : room ≤ 64) :
    Calls Try.prog 42 #[.pointer (some ⟨q, 0, none⟩), .int .i64 (i : Int)] w fun e w' => e = .returned (.int .i64 (place room from_ i : Nat)) ∧ ∃ n, w' = w.drewN n := by
  have c0 : w.cell? ⟨q, 0, none⟩ = some (.slice (some ⟨g, 0, none⟩) room room) := (h.cell 0).trans rfl
  have c1 : w.cell? ⟨q, 1, none⟩ = some (.int .i64 (from_ : Int)) := (h.cell 1).trans rfl
  have HP := Lib.hid (place_int hf hi)
  clear h
  go_enter Try.func42, Try.ntmps42
  go_wp2
  go_quiet (fail)
  go_wp2
  go_ret
  exact ⟨ret_int HP.out, _, rfl⟩

set_option maxRecDepth 100000 in
set_option maxHeartbeats 1000000 in
theorem len_any {w : World} {q g room from_ : Nat} {L : List Fr} (h : RingF w q g room from_ L) :
    Calls Try.prog 39 #[.pointer (some ⟨q, 0, none⟩)] w fun e w' => e = .returned (.int .i64 (L.length : Nat)) ∧ w = w' := by
  obtain ⟨c0, c1, c2, fq, fg, cg⟩ := h.cells
  clear h cg fq fg
  go_enter Try.func39, Try.ntmps39
  go_wp2
  go_ret
  exact ⟨rfl, rfl⟩

set_option maxRecDepth 100000 in
set_option maxHeartbeats 1000000 in
theorem peek_none {w : World} {q g room from_ : Nat} (h : RingF w q g room from_ []) :
    Calls Try.prog 44 #[.pointer (some ⟨q, 0, none⟩)] w fun e w' => e = .returned (.tuple #[zF, .bool false]) ∧ Below w.heap.size w w' := by
  obtain ⟨c0, c1, c2, fq, fg, cg⟩ := h.cells
  have hlt := h.lt
  have hqw : ¬ q = w.heap.size := by omega
  have hqw1 : ¬ q = w.heap.size + 1 := by omega
  clear h cg fq fg
  go_enter Try.func44, Try.ntmps44
  go_wp2
  refine bodyPost_ret (v := .tuple #[zF, .bool false]) (by simp [results, Try.results44, go_sem, zF]) rfl ?_
  exact ⟨rfl, (by repeat' (first | (with_reducible assumption) | (with_reducible refine Below.setCell ?_ ?_ _) | (with_reducible refine Below.alloc ?_ ?_ _) | (with_reducible refine Below.drew ?_) | (with_reducible refine below_drewN ?_ _) | (with_reducible exact Below.refl _ _) | (show _ ≤ _; (try simp); (try omega); done) | exact Below.refl _ _ | assumption))⟩

set_option maxRecDepth 100000 in
set_option maxHeartbeats 1000000 in
theorem peek_one {w : World} {q g room from_ : Nat} {x : Fr} {L : List Fr} (h : RingF w q g room from_ (x :: L)) (hr : room ≤ 64) (hd : ∃ A n c, x.data = .slice A n c) :
    Calls Try.prog 44 #[.pointer (some ⟨q, 0, none⟩)] w fun e w' => e = .returned (.tuple #[frV x, .bool true]) ∧ Below w.heap.size w w' := by
  obtain ⟨c0, c1, c2, fq, fg, cg⟩ := h.cells
  have hf := h.hfrom
  have hx := h.at_ (i := 0) (by simp)
  rw [place_zero hf, List.getElem_cons_zero] at hx
  obtain ⟨id, wide, dv, bs⟩ := x
  obtain ⟨A, n, c, rfl⟩ : ∃ A n c, dv = .slice A n c := hd
  have hx0 := hx 0 _ rfl
  have hx1 := hx 1 _ rfl
  have hx2 := hx 2 _ rfl
  simp only [Nat.add_zero] at hx0
  have d0 : (((⟨id, wide, .slice A n c, bs⟩ :: L : List Fr).length : Int) == 0) = false := by rw [beq_eq_false_iff_ne]; simp; omega
  obtain ⟨k, hn⟩ : ∃ k, k = (⟨id, wide, .slice A n c, bs⟩ :: L : List Fr).length := ⟨_, rfl⟩
  rw [← hn] at c2 d0
  have hlt := h.lt
  have hqw : ¬ q = w.heap.size := by omega
  have hgw : ¬ g = w.heap.size := by omega
  unfold frV
  clear h cg fq fg hn hx
  go_enter Try.func44, Try.ntmps44
  go_wp2
  go_region
  go_wp2
  refine bodyPost_ret (v := .tuple #[.agg #[.int .u32 id, .bool wide, .slice A n c], .bool true]) (by simp [results, Try.results44, go_sem]) rfl ?_
  exact ⟨rfl, (by repeat' (first | (with_reducible assumption) | (with_reducible refine Below.setCell ?_ ?_ _) | (with_reducible refine Below.alloc ?_ ?_ _) | (with_reducible refine Below.drew ?_) | (with_reducible refine below_drewN ?_ _) | (with_reducible exact Below.refl _ _) | (show _ ≤ _; (try simp); (try omega); done) | exact Below.refl _ _ | assumption))⟩

def Pushed (q g room from_ : Nat) (L : List Fr) (x : Fr) (w : World) (e : Ending) (w' : World) : Prop :=
  e = .returned .nilIface ∧ RingF w' q g room from_ (L ++ [x]) ∧ Kp (fun k => k = q ∨ k = g) w w'

set_option maxRecDepth 100000 in
set_option maxHeartbeats 1000000 in
theorem push_full {w : World} {q g room from_ : Nat} {L : List Fr} (h : RingF w q g room from_ L) (x : Fr) (hl : L.length = room) :
    Calls Try.prog 28 #[.pointer (some ⟨q, 0, none⟩), frV x] w fun e w' => e = .returned (.iface 70 (.int .i64 24)) ∧ Below w.heap.size w w' := by
  obtain ⟨c0, c1, c2, fq, fg, cg⟩ := h.cells
  rw [hl] at c2
  have hlt := h.lt
  have hqw : ¬ q = w.heap.size := by omega
  clear h cg fq fg hl
  go_enter Try.func28, Try.ntmps28
  go_wp2
  go_quiet (fail)
  go_wp2
  go_ret
  exact ⟨rfl, (by repeat' (first | (with_reducible assumption) | (with_reducible refine Below.setCell ?_ ?_ _) | (with_reducible refine Below.alloc ?_ ?_ _) | (with_reducible refine Below.drew ?_) | (with_reducible refine below_drewN ?_ _) | (with_reducible exact Below.refl _ _) | (show _ ≤ _; (try simp); (try omega); done) | exact Below.refl _ _ | assumption))⟩

set_option maxRecDepth 100000 in
set_option maxHeartbeats 1000000 in
theorem push_ok {w : World} {q g room from_ : Nat} {L : List Fr} (h : RingF w q g room from_ L) (x : Fr) (hl : L.length < room) (hr : room ≤ 64) (hd : ∃ A n c, x.data = .slice A n c) :
    Calls Try.prog 28 #[.pointer (some ⟨q, 0, none⟩), frV x] w (Pushed q g room from_ L x w) := by
  obtain ⟨c0, c1, c2, fq, fg, cg⟩ := h.cells
  have d0 : ((L.length : Int) == (room : Int)) = false := by rw [beq_eq_false_iff_ne]; omega
  have hf := h.hfrom
  have hp := place_lt (i := L.length) hf (by omega)
  obtain ⟨u0, hu0⟩ := cg (place room from_ L.length * 3) (by omega)
  obtain ⟨u1, hu1⟩ := cg (place room from_ L.length * 3 + 1) (by omega)
  obtain ⟨u2, hu2⟩ := cg (place room from_ L.length * 3 + 2) (by omega)
  have hne : ¬ q = g := h.ne_ (by decide)
  have hne2 : ¬ g = q := fun e => hne e.symm
  have hlt := h.lt
  have hqw : ¬ q = w.heap.size := by omega
  have hgw : ¬ g = w.heap.size := by omega
  obtain ⟨id, wide, dv, bs⟩ := x
  obtain ⟨A, n, c, rfl⟩ : ∃ A n c, dv = .slice A n c := hd
  have HR := Lib.hid ((ring_below h ((Below.refl _ _).alloc (Nat.le_refl _) (.cells #[.int .u32 id, .bool wide, .slice A n c] 35))).push (by decide) hl ⟨id, wide, .slice A n c, bs⟩)
  unfold frV
  dsimp only at HR ⊢
  have H := Lib.hid (ring_below h ((Below.refl _ _).alloc (Nat.le_refl _) (.cells #[.int .u32 id, .bool wide, .slice A n c] 35))); clear h cg
  obtain ⟨p, hpp⟩ : ∃ p, p = place room from_ L.length := ⟨_, rfl⟩
  rw [← hpp] at hp hu0 hu1 hu2 HR
  have HPP := Lib.hid hpp; clear hpp
  go_enter Try.func28, Try.ntmps28
  go_wp2
  go_quiet (fail)
  go_wp2
  go_region_with (go_at_call 42; refine (at_any (g := g) (c := (L.length : Int)) (by exact H.out.struct_) hf L.length (by omega) hr).mono ?_; rintro e w1 ⟨rfl, n1, rfl⟩; rw [← HPP.out])
  all_goals
    go_wp2
    go_ret
    exact ⟨rfl, (by exact ⟨HR.out.struct_, HR.out.row, HR.out.hfrom, HR.out.hlen⟩), (by repeat' (first | (with_reducible assumption) | (with_reducible exact Kp.refl _ _) | (with_reducible exact Kp.of_below _ (by assumption)) | (with_reducible refine Kp.drew ?_) | (with_reducible refine Kp.drewN ?_ _) | (with_reducible refine Kp.alloc ?_ _) | (with_reducible refine Kp.set ?_ ?_ _) | ((try simp); (try omega); done) | exact Kp.refl _ _ | assumption))⟩

def Popped (q g room from_ : Nat) (L : List Fr) (x : Fr) (w : World) (e : Ending) (w' : World) : Prop :=
  e = .returned (.tuple #[frV x, .nilIface]) ∧ RingF w' q g room (place room from_ 1) L ∧ Kp (fun k => k = q ∨ k = g) w w'

set_option maxRecDepth 100000 in
set_option maxHeartbeats 1000000 in
theorem pop_none {w : World} {q g room from_ : Nat} (h : RingF w q g room from_ []) :
    Calls Try.prog 34 #[.pointer (some ⟨q, 0, none⟩)] w fun e w' => e = .returned (.tuple #[zF, .iface 70 (.int .i64 25)]) ∧ Below w.heap.size w w' := by
  have H := Lib.hid h; clear h
  go_enter Try.func34, Try.ntmps34
  go_wp2_with fail
  refine (peek_none (by exact ring_below H.out (by repeat' (first | (with_reducible assumption) | (with_reducible refine Below.setCell ?_ ?_ _) | (with_reducible refine Below.alloc ?_ ?_ _) | (with_reducible refine Below.drew ?_) | (with_reducible refine below_drewN ?_ _) | (with_reducible exact Below.refl _ _) | (show _ ≤ _; (try simp); (try omega); done) | exact Below.refl _ _ | assumption)))).mono ?_
  rintro e w1 ⟨rfl, hb_w1⟩
  obtain ⟨hc_w1, hf_w1⟩ := bcell hb_w1; have hz_w1 := hb_w1.size; (try simp at hz_w1); have hB_w1 : Below w.heap.size w w1 := Below.trans (by repeat' (first | (with_reducible assumption) | (with_reducible refine Below.setCell ?_ ?_ _) | (with_reducible refine Below.alloc ?_ ?_ _) | (with_reducible refine Below.drew ?_) | (with_reducible refine below_drewN ?_ _) | (with_reducible exact Below.refl _ _) | (show _ ≤ _; (try simp); (try omega); done) | exact Below.refl _ _ | assumption)) (hb_w1.mono (by (try simp); (try omega)))
  have hR := ((Has.new w 35 #[.int .u32 0, .bool false, .slice none 0 0]).alloc (.cells #[.int .u32 0, .bool false, .slice none 0 0] 35)).below hb_w1 (by simp <;> omega)
  have hN := (has_new1 w (.cells #[.int .u32 0, .bool false, .slice none 0 0] 35) 35 #[.int .u32 0, .bool false, .slice none 0 0]).below hb_w1 (by simp <;> omega)
  have r0 : w1.cell? ⟨w.heap.size, 0, none⟩ = some (.int .u32 0) := (hR.cell 0).trans rfl
  have r1 : w1.cell? ⟨w.heap.size, 1, none⟩ = some (.bool false) := (hR.cell 1).trans rfl
  have r2 : w1.cell? ⟨w.heap.size, 2, none⟩ = some (.slice none 0 0) := (hR.cell 2).trans rfl
  have n0 : w1.cell? ⟨w.heap.size + 1, 0, none⟩ = some (.int .u32 0) := (hN.cell 0).trans rfl
  have n1 : w1.cell? ⟨w.heap.size + 1, 1, none⟩ = some (.bool false) := (hN.cell 1).trans rfl
  have n2 : w1.cell? ⟨w.heap.size + 1, 2, none⟩ = some (.slice none 0 0) := (hN.cell 2).trans rfl
  have rf := fun i => hR.frozen i
  have hs1 : ¬ w.heap.size = w1.heap.size := by omega
  have hs2 : ¬ w.heap.size + 1 = w1.heap.size := by omega
  have hlt1 : w.heap.size < w1.heap.size := by omega
  have hlt2 : w.heap.size + 1 < w1.heap.size := by omega
  have HRES := Lib.hid hR
  clear hR hN
  unfold zF
  go_wp2
  refine bodyPost_ret (v := .tuple #[.agg #[.int .u32 0, .bool false, .slice none 0 0], .iface 70 (.int .i64 25)]) (by simp [results, Try.results34, go_sem, hlt1, hlt2, r0, r1, r2, n0, n1, n2, hs1, hs2]) rfl ?_
  exact ⟨rfl, (by repeat' (first | (with_reducible assumption) | (with_reducible refine Below.setCell ?_ ?_ _) | (with_reducible refine Below.alloc ?_ ?_ _) | (with_reducible refine Below.drew ?_) | (with_reducible refine below_drewN ?_ _) | (with_reducible exact Below.refl _ _) | (show _ ≤ _; (try simp); (try omega); done) | exact Below.refl _ _ | assumption))⟩

set_option maxRecDepth 100000 in
set_option maxHeartbeats 1000000 in
theorem pop_one {w : World} {q g room from_ : Nat} {x : Fr} {L : List Fr} (h : RingF w q g room from_ (x :: L)) (hr : room ≤ 64) (hd : ∃ A n c, x.data = .slice A n c) :
    Calls Try.prog 34 #[.pointer (some ⟨q, 0, none⟩)] w (Popped q g room from_ L x w) := by
  have hf := h.hfrom
  have hl := h.hlen
  simp only [List.length_cons] at hl
  have hne : ¬ q = g := h.ne_ (by decide)
  have hne2 : ¬ g = q := fun e => hne e.symm
  have hlt := h.lt
  have H := Lib.hid h; clear h
  obtain ⟨A, n, c, hdv⟩ := hd
  have HPK : Hid (∀ W, RingF W q g room from_ (x :: L) → Calls Try.prog 44 #[.pointer (some ⟨q, 0, none⟩)] W fun e w' => e = .returned (.tuple #[frV x, .bool true]) ∧ Below W.heap.size W w') := fun W hW => peek_one hW hr ⟨A, n, c, hdv⟩
  unfold frV at HPK
  obtain ⟨id, wide, dv, bs⟩ := x
  dsimp only at hdv HPK
  subst hdv
  unfold Popped frV
  dsimp only
  obtain ⟨p, hpp⟩ : ∃ p, p = place room from_ 1 := ⟨_, rfl⟩
  have hp : p < room := by rw [hpp]; exact place_lt hf (by omega)
  have HPP := Lib.hid hpp; clear hpp
  go_enter Try.func34, Try.ntmps34
  go_wp2_with fail
  refine (HPK.out _ (by exact ring_below H.out (by repeat' (first | (with_reducible assumption) | (with_reducible refine Below.setCell ?_ ?_ _) | (with_reducible refine Below.alloc ?_ ?_ _) | (with_reducible refine Below.drew ?_) | (with_reducible refine below_drewN ?_ _) | (with_reducible exact Below.refl _ _) | (show _ ≤ _; (try simp); (try omega); done) | exact Below.refl _ _ | assumption)))).mono ?_
  rintro e w1 ⟨rfl, hb_w1⟩
  obtain ⟨hc_w1, hf_w1⟩ := bcell hb_w1; have hz_w1 := hb_w1.size; (try simp at hz_w1); have hB_w1 : Below w.heap.size w w1 := Below.trans (by repeat' (first | (with_reducible assumption) | (with_reducible refine Below.setCell ?_ ?_ _) | (with_reducible refine Below.alloc ?_ ?_ _) | (with_reducible refine Below.drew ?_) | (with_reducible refine below_drewN ?_ _) | (with_reducible exact Below.refl _ _) | (show _ ≤ _; (try simp); (try omega); done) | exact Below.refl _ _ | assumption)) (hb_w1.mono (by (try simp); (try omega)))
  have hR := ((Has.new w 35 #[.int .u32 0, .bool false, .slice none 0 0]).alloc (.cells #[.int .u32 0, .bool false, .slice none 0 0] 35)).below hb_w1 (by simp <;> omega)
  have hN := (has_new1 w (.cells #[.int .u32 0, .bool false, .slice none 0 0] 35) 35 #[.int .u32 0, .bool false, .slice none 0 0]).below hb_w1 (by simp <;> omega)
  have r0 : w1.cell? ⟨w.heap.size, 0, none⟩ = some (.int .u32 0) := (hR.cell 0).trans rfl
  have r1 : w1.cell? ⟨w.heap.size, 1, none⟩ = some (.bool false) := (hR.cell 1).trans rfl
  have r2 : w1.cell? ⟨w.heap.size, 2, none⟩ = some (.slice none 0 0) := (hR.cell 2).trans rfl
  have n0 : w1.cell? ⟨w.heap.size + 1, 0, none⟩ = some (.int .u32 0) := (hN.cell 0).trans rfl
  have n1 : w1.cell? ⟨w.heap.size + 1, 1, none⟩ = some (.bool false) := (hN.cell 1).trans rfl
  have n2 : w1.cell? ⟨w.heap.size + 1, 2, none⟩ = some (.slice none 0 0) := (hN.cell 2).trans rfl
  have rf := fun i => hR.frozen i
  have hs1 : ¬ w.heap.size = w1.heap.size := by omega
  have hs2 : ¬ w.heap.size + 1 = w1.heap.size := by omega
  have hlt1 : w.heap.size < w1.heap.size := by omega
  have hlt2 : w.heap.size + 1 < w1.heap.size := by omega
  have HRES := Lib.hid hR
  clear hR hN
  go_wp2
  obtain ⟨c0, c1, c2, fq, fg, cg⟩ := (ring_below H.out hB_w1).cells
  obtain ⟨u0, hu0⟩ := cg (from_ * 3) (by omega)
  obtain ⟨u1, hu1⟩ := cg (from_ * 3 + 1) (by omega)
  obtain ⟨u2, hu2⟩ := cg (from_ * 3 + 2) (by omega)
  clear cg
  rw [show (((⟨id, wide, .slice A n c, bs⟩ : Fr) :: L).length : Int) = (L.length : Int) + 1 from by simp] at c2
  have hqs : q < w1.heap.size := by omega
  have hgs : g < w1.heap.size := by omega
  have HW := Lib.hid (ring_below H.out hB_w1)
  have hqa : ¬ q = w.heap.size := by omega
  have hga : ¬ g = w.heap.size := by omega
  have hqb : ¬ q = w.heap.size + 1 := by omega
  have hgb : ¬ g = w.heap.size + 1 := by omega
  have hqc : ¬ q = w1.heap.size := by omega
  have hgc : ¬ g = w1.heap.size := by omega
  go_region
  go_wp2_with fail
  refine (at_any (g := g) (c := ((L.length : Int) + 1)) (by have := HW.out.struct_; rw [show (((⟨id, wide, .slice A n c, bs⟩ : Fr) :: L).length : Int) = (L.length : Int) + 1 from by simp] at this; exact (((this.far (p := ⟨g, from_ * 3, none⟩) hne _).far (p := ⟨g, from_ * 3 + 1, none⟩) hne _).far (p := ⟨g, from_ * 3 + 2, none⟩) hne _).alloc _) hf 1 (by omega) hr).mono ?_
  rintro e w2 ⟨rfl, k2, rfl⟩
  rw [← HPP.out]
  have e3 : (L.length : Int) + 1 - 1 = (L.length : Int) := by omega
  go_wp2
  generalize hW : World.setCell _ _ _ = W
  have hqa2 : ¬ w.heap.size = q := fun e => hqa e.symm
  have hga2 : ¬ w.heap.size = g := fun e => hga e.symm
  have hres : Has W w.heap.size 35 #[.int .u32 id, .bool wide, .slice A n c] := by
    subst hW
    refine has_to (has_to (has_to (cs := #[.int .u32 0, .bool false, .slice none 0 0]) ?_ 0 _ rfl) 1 _ rfl) 2 _ rfl
    exact (((((HRES.out.far (p := ⟨g, from_ * 3, none⟩) hga2 _).far (p := ⟨g, from_ * 3 + 1, none⟩) hga2 _).far (p := ⟨g, from_ * 3 + 2, none⟩) hga2 _).alloc _).far (p := ⟨q, 1, none⟩) hqa2 _).far (p := ⟨q, 2, none⟩) hqa2 _
  have hring : RingF W q g room (place room from_ 1) L := by
    subst hW
    refine HW.out.pop_at (by decide) (.int .u32 0) (.bool false) (.slice none 0 0) ?_ ?_
    · rw [← HPP.out]
      refine Has.far (Has.far (Has.far (has_to (has_to (cs := #[.slice (some ⟨g, 0, none⟩) room room, .int .i64 (from_ : Int), .int .i64 ((L.length : Int) + 1)]) ?_ 1 _ rfl) 2 _ rfl) hqa _) hqa _) hqa _
      have := HW.out.struct_
      rw [show (((⟨id, wide, .slice A n c, bs⟩ : Fr) :: L).length : Int) = (L.length : Int) + 1 from by simp] at this
      exact (((this.far (p := ⟨g, from_ * 3, none⟩) hne _).far (p := ⟨g, from_ * 3 + 1, none⟩) hne _).far (p := ⟨g, from_ * 3 + 2, none⟩) hne _).alloc _
    · refine (heap_setCell_other _ _ g _ hga).trans ((heap_setCell_other _ _ g _ hga).trans ((heap_setCell_other _ _ g _ hga).trans ((heap_setCell_other _ _ g _ hne2).trans ((heap_setCell_other _ _ g _ hne2).trans ?_))))
      exact heap_alloc_old _ _ (by simp; omega)
  have hkp : Kp (fun k => k = q ∨ k = g) w W := by
    subst hW
    exact (by repeat' (first | (with_reducible assumption) | (with_reducible exact Kp.refl _ _) | (with_reducible exact Kp.of_below _ (by assumption)) | (with_reducible refine Kp.drew ?_) | (with_reducible refine Kp.drewN ?_ _) | (with_reducible refine Kp.alloc ?_ _) | (with_reducible refine Kp.set ?_ ?_ _) | ((try simp); (try omega); done) | exact Kp.refl _ _ | assumption))
  have s0 : W.cell? ⟨w.heap.size, 0, none⟩ = some (.int .u32 id) := (hres.cell 0).trans rfl
  have s1 : W.cell? ⟨w.heap.size, 1, none⟩ = some (.bool wide) := (hres.cell 1).trans rfl
  have s2 : W.cell? ⟨w.heap.size, 2, none⟩ = some (.slice A n c) := (hres.cell 2).trans rfl
  refine bodyPost_ret (v := .tuple #[.agg #[.int .u32 id, .bool wide, .slice A n c], .nilIface]) (by simp [results, Try.results34, go_sem, s0, s1, s2]) rfl ?_
  exact ⟨rfl, hring, hkp⟩

def Made (room : Nat) (w : World) (e : Ending) (w' : World) : Prop :=
  ∃ q g, e = .returned (.tuple #[.pointer (some ⟨q, 0, none⟩), .nilIface]) ∧ RingF w' q g room 0 [] ∧ Below w.heap.size w w' ∧ w.heap.size ≤ q ∧ w.heap.size ≤ g

set_option maxRecDepth 100000 in
set_option maxHeartbeats 1000000 in
theorem new_bad (room : Int) (w : World) (h1 : room < 1 ∨ 64 < room) :
    Calls Try.prog 24 #[.int .i64 room] w fun e w' => e = .returned (.tuple #[.pointer none, .iface 70 (.int .i64 1)]) ∧ w = w' := by
  have h := h1; clear h1
  rcases h with h | h
  all_goals
    go_enter Try.func24, Try.ntmps24
    go_wp2
    go_ret2
    exact ⟨rfl, rfl⟩

set_option maxRecDepth 100000 in
set_option maxHeartbeats 1000000 in
theorem new_ok (room : Nat) (w : World) (h1 : 1 ≤ room) (hr : room ≤ 64) :
    Calls Try.prog 24 #[.int .i64 (room : Int)] w (Made room w) := by
  obtain ⟨i0, hi, hz0, hz1, hz2⟩ := info_parts Try.infoQframe
  have hmk := fun W => run_make (P := Try.prog) W 97 35 i0 zF Try.underlying97 hi hz0 .i64 .i64 (room : Int) (room : Int) (by omega) (by omega) (by rw [hz2]; omega) (by omega)
  rw [hz1] at hmk
  go_enter Try.func24, Try.ntmps24
  go_wp2
  go_ret2
  exact ⟨w.heap.size + 1, w.heap.size, rfl, ⟨(by exact has_new1 w _ _ _), ⟨_, (by exact (Has.new w _ _).alloc _), by rw [size_madeCells], by intro i x hi; simp at hi⟩, by omega, by simp⟩, (by repeat' (first | (with_reducible assumption) | (with_reducible refine Below.setCell ?_ ?_ _) | (with_reducible refine Below.alloc ?_ ?_ _) | (with_reducible refine Below.drew ?_) | (with_reducible refine below_drewN ?_ _) | (with_reducible exact Below.refl _ _) | (show _ ≤ _; (try simp); (try omega); done) | exact Below.refl _ _ | assumption)), by omega, Nat.le_refl _⟩
end qframe
end Go.Proofs.Ytomkgnlooheibaa
