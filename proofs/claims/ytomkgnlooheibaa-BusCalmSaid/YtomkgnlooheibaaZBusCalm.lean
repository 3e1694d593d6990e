/- Proves BusCalmSaid: on a calm wire each frame comes once to each station that takes it, in the order of arbitration. No condition. -/
import Derived.Test.YtomkgnlooheibaaRows
import Derived.Test.YtomkgnlooheibaaZHz
import Derived.Test.YtomkgnlooheibaaZBusGo
import Derived.Test.YtomkgnlooheibaaPick
namespace Go.Proofs.Ytomkgnlooheibaa.busCalm
open Go.RowKit Go.Bus Go.Bus.ringK Go.Bus.ring3K Go.Bus.busK Go.Bus.cellK Go.Bus.decK Go.Bus.bitK Go.ChangeShapes Go.WideShapes Go.ChangeAt Go.Joins
open busM busO busH busC busW qframe
set_option linter.unusedVariables false
set_option linter.unusedSimpArgs false
/-- All that is known while frames are sent. -/
structure P1 (b : Nat) (K : List Sk) (rules : List (List Rl)) (w0 wr : World) (tv : Value) (D : List SnV) (A : List ASt) (k : Nat) : Prop where
  bus : BusIs 64 wr b K ⟨A, []⟩
  wt : WtOk w0 wr tv D
  calm : busC.Calm rules (sentT D) [] A
  ok : ∀ y ∈ sentT D, 0 ≤ y.1 ∧ y.1 < (rules.length : Int) ∧ okF y.2
  len : D.length ≤ k
theorem P1.below {b : Nat} {K : List Sk} {rules : List (List Rl)} {w0 w w' : World} {tv : Value} {D : List SnV} {A : List ASt} {k : Nat} (h : P1 b K rules w0 w tv D A k) (hb : Below w.heap.size w w') : P1 b K rules w0 w' tv D A k := ⟨h.bus.below hb, h.wt.below hb, h.calm, h.ok, h.len⟩
theorem P1.up {b : Nat} {K : List Sk} {rules : List (List Rl)} {w0 w : World} {tv : Value} {D : List SnV} {A : List ASt} {k : Nat} (h : P1 b K rules w0 w tv D A k) : P1 b K rules w0 w tv D A (k + 1) := ⟨h.bus, h.wt, h.calm, h.ok, by have := h.len; omega⟩
theorem P1.call {b : Nat} {K : List Sk} {rules : List (List Rl)} {w0 w w' : World} {tv : Value} {D : List SnV} {A : List ASt} {k : Nat} (h : P1 b K rules w0 w tv D A k) (hb : BusIs 64 w' b K ⟨A, []⟩) (hk : Kp (busF b K) w w') (hK : ∀ j, busF b K j → w0.heap.size ≤ j) : P1 b K rules w0 w' tv D A k := ⟨hb, h.wt.bus h.bus hk hK, h.calm, h.ok, h.len⟩
theorem sent_snoc (D : List SnV) (y : SnV) : sentT (D ++ [y]) = sentT D ++ [(y.x.by_, y.x.f.a)] := by simp [sentT]
/-- Frames are all right just where Right finds none wrong. -/
theorem ok_of {f : F3} (h0 : 0 ≤ f.1) (hb : ∀ b ∈ f.2.2, 0 ≤ b ∧ b < 256) (h : frNo f = 0) : okF f := by
  unfold frNo at h
  split at h
  · exact absurd h (by decide)
  · rename_i h1
    split at h
    · exact absurd h (by decide)
    · rename_i h2
      refine ⟨h0, ?_, by omega, hb⟩
      split
      · omega
      · rename_i h3
        have : f.2.1 = false := by simpa using h3
        have h4 : ¬ 2047 < f.1 := fun h4 => h1 (.inr ⟨this, h4⟩)
        omega
/-- A box of four cells, written behind its making. -/
theorem box4 {w : World} {t : TypeId} {a b c d a' b' c' d' : Value} : Has (((((w.alloc (.cells #[a, b, c, d] t)).setCell ⟨w.heap.size, 0, none⟩ a').setCell ⟨w.heap.size, 1, none⟩ b').setCell ⟨w.heap.size, 2, none⟩ c').setCell ⟨w.heap.size, 3, none⟩ d') w.heap.size t #[a', b', c', d'] :=
  ((((Has.new w t #[a, b, c, d]).set 0 a').set 1 b').set 2 c').set 3 d'

theorem P1.more {b : Nat} {K : List Sk} {rules : List (List Rl)} {w0 w w7 : World} {tv v7 : Value} {D : List SnV} {A : List ASt} {k n : Nat} {y : SnV} {O : Obj} (hbus : BusIs 64 w b K ⟨A, []⟩) (hwt : WtOk w0 w tv D) (hcalm : busC.Calm rules (sentT D ++ [(y.x.by_, y.x.f.a)]) [] A)
    (hok : ∀ z ∈ sentT D, 0 ≤ z.1 ∧ z.1 < (rules.length : Int) ∧ okF z.2) (hoky : 0 ≤ y.x.by_ ∧ y.x.by_ < (rules.length : Int) ∧ okF y.x.f.a) (hlen : D.length ≤ k) (hy : SlK 1 byteE w0 (Old w0.heap.size) y.v y.x.f.bytes)
    (ho7 : w7.ownsRow w0.heap.size tSn 4 v7 (D.length + 1) (D.flatMap SnV.c ++ SnV.c y)) (hg7 : ((w.drewN n).alloc O).grownBy w7 tv.ownBlock) : P1 b K rules w0 w7 v7 (D ++ [y]) A (k + 1) := by
  have hkp : Kp (fun j => tv.ownBlock = some j) w w7 := (((Kp.refl _ w).drewN n).alloc _).grown hg7 fun j hj => .inl hj
  have hbel : Below w0.heap.size w0 w7 := hkp.to_below hwt.bel hwt.bel.size fun j hj => (hwt.row.lt j hj).1
  refine ⟨hbus.kept hkp fun j t hj ht => ?_, hwt.more (E := [y]) (by intro z hz; simp at hz; subst hz; exact hy) (by simpa using ho7) hbel, by rw [sent_snoc]; exact hcalm, fun z hz => ?_, by simp; omega⟩
  · have := own_ty hwt.row hj
    rw [ht] at this
    cases this
    decide
  · rw [sent_snoc] at hz
    rcases List.mem_append.1 hz with h | h
    · exact hok z h
    · simp at h
      subst h
      exact hoky

/-- All that is known while frames go. -/
structure P2 (b : Nat) (K : List Sk) (rules : List (List Rl)) (w0 wr : World) (tv ov : Value) (D O : List SnV) (A : List ASt) : Prop where
  bus : BusIs 64 wr b K ⟨A, []⟩
  wt : WtOk w0 wr tv D
  od : WtOk w0 wr ov O
  far : ∀ g, tv.ownBlock = some g → ov.ownBlock ≠ some g
  calm : busC.Calm rules (sentT D) (sentT O) A
  ok : ∀ y ∈ sentT D, 0 ≤ y.1 ∧ y.1 < (rules.length : Int) ∧ okF y.2
  len : D.length + O.length ≤ 60
theorem P2.below {b : Nat} {K : List Sk} {rules : List (List Rl)} {w0 w w' : World} {tv ov : Value} {D O : List SnV} {A : List ASt} (h : P2 b K rules w0 w tv ov D O A) (hb : Below w.heap.size w w') : P2 b K rules w0 w' tv ov D O A := ⟨h.bus.below hb, h.wt.below hb, h.od.below hb, h.far, h.calm, h.ok, h.len⟩
/-- The empty row of a literal. -/
theorem own_empty (w : World) (base : Nat) (e : TypeId) (size : Nat) (hb : base ≤ w.heap.size) : (w.alloc (.cells #[] e)).ownsRow base e size (.slice (some ⟨w.heap.size, 0, none⟩) 0 0) 0 [] :=
  ⟨by simp, .inr ⟨w.heap.size, 0, #[], rfl, hb, Has.new w e #[], Nat.le_refl _, Nat.zero_le _, by simp, by simp⟩⟩
theorem one_flat (D : List SnV) (h : ∀ y ∈ D, y.v.oneCell' = true) : ∀ u ∈ D.flatMap SnV.c, u.oneCell' = true := by
  intro u hu
  obtain ⟨y, hy, hu⟩ := List.mem_flatMap.1 hu
  simp [SnV.c] at hu
  rcases hu with rfl | rfl | rfl | rfl
  · rfl
  · rfl
  · rfl
  · exact h y hy
/-- All that is known while frames are taken. -/
structure P3 (b : Nat) (K : List Sk) (rules : List (List Rl)) (w0 wr : World) (ov : Value) (O : List SnV) (A : List ASt) (k j : Nat) : Prop where
  bus : BusIs 64 wr b K ⟨A, []⟩
  od : WtOk w0 wr ov O
  tak : Tak rules (sentT O) k j A
theorem P3.below {b : Nat} {K : List Sk} {rules : List (List Rl)} {w0 w w' : World} {ov : Value} {O : List SnV} {A : List ASt} {k j : Nat} (h : P3 b K rules w0 w ov O A k j) (hb : Below w.heap.size w w') : P3 b K rules w0 w' ov O A k j := ⟨h.bus.below hb, h.od.below hb, h.tak⟩
theorem P3.call {b : Nat} {K : List Sk} {rules : List (List Rl)} {w0 w w' : World} {ov : Value} {O : List SnV} {A A' : List ASt} {k j k' j' : Nat} (h : P3 b K rules w0 w ov O A k j) (hb : BusIs 64 w' b K ⟨A', []⟩) (hk : Kp (busF b K) w w') (hK : ∀ j, busF b K j → w0.heap.size ≤ j) (ht : Tak rules (sentT O) k' j' A') : P3 b K rules w0 w' ov O A' k' j' := ⟨hb, h.od.bus h.bus hk hK, ht⟩
def lenV (v : Value) : Nat := match v with | .slice _ n _ => n | _ => 0
theorem sent_len (D : List SnV) : (sentT D).length = D.length := by simp [sentT]
theorem sent_sn (D : List SnV) : (D.map (·.x)).map sn = sentT D := by rw [List.map_map]; rfl
/-- One more behind what went. -/
theorem P2.went {b : Nat} {K : List Sk} {rules : List (List Rl)} {w0 w w7 : World} {tv ov v7 : Value} {D O : List SnV} {A : List ASt} {n : Nat} {y : SnV} {Ob : Obj} (h : P2 b K rules w0 w tv ov D O A) (hy : SlK 1 byteE w0 (Old w0.heap.size) y.v y.x.f.bytes)
    (ho7 : w7.ownsRow w0.heap.size tSn 4 v7 (O.length + 1) (O.flatMap SnV.c ++ SnV.c y)) (hg7 : ((w.drewN n).alloc Ob).grownBy w7 ov.ownBlock) : BusIs 64 w7 b K ⟨A, []⟩ ∧ WtOk w0 w7 tv D ∧ WtOk w0 w7 v7 (O ++ [y]) := by
  have hkp : Kp (fun j => ov.ownBlock = some j) w w7 := (((Kp.refl _ w).drewN n).alloc _).grown hg7 fun j hj => .inl hj
  have hbel : Below w0.heap.size w0 w7 := hkp.to_below h.od.bel h.od.bel.size fun j hj => (h.od.row.lt j hj).1
  refine ⟨h.bus.kept hkp fun j t hj ht => ?_, h.wt.kept hkp (fun g hg hf => h.far g hg hf) hbel, h.od.more (E := [y]) (by intro z hz; simp at hz; subst hz; exact hy) (by simpa using ho7) hbel⟩
  have := own_ty h.od.row hj
  rw [ht] at this
  cases this
  decide

set_option maxRecDepth 100000 in
set_option maxHeartbeats 4000000 in
theorem walk (rv sv : Value) (rules : List (List Rl)) (frames : List SntD) (w : World) (hR : SlK 1 rowsE w (Old w.heap.size) rv rules) (hRb : ∀ l ∈ rules, l.length * 12 ≤ 140737488351232) (hRl : rules.length * 24 ≤ 140737488351232)
    (hS : SlK 4 sntE w (Old w.heap.size) sv frames) (hSo : ∀ x ∈ frames, x.Ok) :
    Calls Try.prog 4 #[rv, sv] w fun e w' => e = .returned (.bool true) ∧ Below w.heap.size w w' := by
  obtain ⟨i0, hi, hz0, hz1, hz2⟩ := info_parts Try.infoESnt
  obtain ⟨Ar, cr, rfl, hcr, hmr⟩ := hR.form
  obtain ⟨As, cs, rfl, hcs, hms⟩ := hS.form
  unfold maxLen at hmr hms
  have HR := Lib.hid hR
  have HS := Lib.hid hS
  have HSO := Lib.hid hSo
  have HRB := Lib.hid hRb
  clear hR hS hSo hRb
  have hrl : rules.length ≤ 9223372036854775807 := by omega
  go_enter Try.func4, Try.ntmps4
  go_wp2_with fail
  refine (works_yes _).mono ?_
  rintro e w1 ⟨rfl, hb1⟩
  have HB1 := Lib.hid hb1
  have HR1 := Lib.hid ((HR.out.below rowsE_mono hb1).more rowsE_mono fun b hb => Nat.lt_of_lt_of_le hb hb1.size)
  clear hb1
  by_cases hn1 : rules.length < 1
  · have d1 : decide ((rules.length : Int) < 1) = true := decide_eq_true (by omega)
    go_wp2
    go_ret
    exact ⟨rfl, HB1.out⟩
  have d1 : decide ((rules.length : Int) < 1) = false := decide_eq_false (by omega)
  by_cases hn8 : 8 < rules.length
  · have d2 : decide (8 < (rules.length : Int)) = true := decide_eq_true (by omega)
    go_wp2
    go_ret
    exact ⟨rfl, HB1.out⟩
  have d2 : decide (8 < (rules.length : Int)) = false := decide_eq_false (by omega)
  have hnA : 1 ≤ rules.length := by omega
  have hnB : rules.length ≤ 8 := by omega
  clear hn1 hn8
  go_wp2_with fail
  refine (new_is (room := 64) _ rules HR1.out hnA hnB (by omega) (by omega) (fun l hl => by have := HRB.out l hl; omega)).mono ?_
  rintro e w2 ⟨b, K, rfl, hbus, hb2, hK⟩
  have HB2 := Lib.hid (HB1.out.trans (hb2.mono HB1.out.size))
  have HK := Lib.hid (fun k hk => Nat.le_trans HB1.out.size (hK k hk))
  have HST : Hid (P1 b K rules w w2 (.slice none 0 0) [] (rules.map freshA) 0) := ⟨hbus, WtOk.nil_ HB2.out, calm_new rules, (by intro y hy; cases hy), Nat.le_refl _⟩
  clear hbus hb2 hK HB2 HB1 HR1 d1 d2
  go_wp2
  go_loopw [9, 8] (fun i tv' wr => ∃ (tv : Value) (k : Nat) (D : List SnV) (A : List ASt), tv = tv' ∧ k ≤ frames.length ∧ k ≤ 60 ∧ i = .int .i64 k ∧ Hid (P1 b K rules w wr tv D A k)) (fun i _ _ => frames.length - (intOf i).toNat)
  case atStart => exact ⟨_, 0, [], _, rfl, Nat.zero_le _, Nat.zero_le _, rfl, HST⟩
  case round =>
    obtain ⟨tv, k, D, A, rfl, hk, hk6, rfl, HT⟩ := hrel
    by_cases hlt : k < frames.length ∧ k < 60
    · obtain ⟨hlt, hlt6⟩ := hlt
      obtain ⟨x, hx⟩ : ∃ x, frames[k]? = some x := ⟨_, List.getElem?_eq_getElem hlt⟩
      have hxo := HSO.out x (List.mem_of_getElem? hx)
      obtain ⟨g, off, cells, rfl, hg, hcl, hrg, hE⟩ := HS.out.at_ (A := As) hlt
      have hgl : g < w.heap.size := hg
      have hxe : frames[k] = x := (List.getElem?_eq_some_iff.1 hx).2
      rw [hxe] at hE
      obtain ⟨fv, rfl, hfv⟩ := hE
      obtain ⟨Af, cf, rfl, _, _⟩ := hfv.form
      have e := fun (o : Nat) => HT.out.wt.bel.cell (p := ⟨g, o, none⟩) hgl
      have q0 : wr.cell? ⟨g, off + k * 4, none⟩ = some (.int .i64 x.by_) := (e _).trans (hrg 0 _ rfl)
      have q1 : wr.cell? ⟨g, off + k * 4 + 1, none⟩ = some (.int .u32 x.f.id) := (e _).trans (hrg 1 _ rfl)
      have q2 : wr.cell? ⟨g, off + k * 4 + 2, none⟩ = some (.bool x.f.wide) := (e _).trans (hrg 2 _ rfl)
      have q3 : wr.cell? ⟨g, off + k * 4 + 3, none⟩ = some (.slice Af x.f.bytes.length cf) := (e _).trans (hrg 3 _ rfl)
      have HFV := Lib.hid hfv
      have HFS := Lib.hid (sl_of_slk (f := Value.int .u8) (fun _ _ _ h => h) hfv)
      have HXO := Lib.hid hxo
      have hgr : g < wr.heap.size := Nat.lt_of_lt_of_le hgl HT.out.wt.bel.size
      have hb64 := HXO.out.1
      unfold busO.Int64 at hb64
      obtain ⟨i, hi5⟩ : ∃ i : Nat, x.by_ % (rules.length : Int) = i := ⟨(x.by_ % (rules.length : Int)).toNat, by have := Int.emod_nonneg x.by_ (show (rules.length : Int) ≠ 0 by omega); omega⟩
      have hil : i < rules.length := by have := Int.emod_lt_of_pos x.by_ (show (0 : Int) < rules.length by omega); omega
      have hPK : Hid (∀ W, Calls Try.prog 16 #[.int .i64 x.by_, .int .i64 rules.length] W fun e w' => e = .returned (.int .i64 (i : Int)) ∧ W = w') := fun W => hi5 ▸ pickK.pick_any _ _ W (by omega) (by omega) hb64.1 hb64.2
      have q0a : ∀ o, (wr.drew.alloc o).cell? ⟨g, off + k * 4, none⟩ = some (.int .i64 x.by_) := fun o => (World.cell?_alloc_lt _ _ _ (by exact hgr)).trans q0
      have q1a : ∀ o, (wr.drew.alloc o).cell? ⟨g, off + k * 4 + 1, none⟩ = some (.int .u32 x.f.id) := fun o => (World.cell?_alloc_lt _ _ _ (by exact hgr)).trans q1
      have q2a : ∀ o, (wr.drew.alloc o).cell? ⟨g, off + k * 4 + 2, none⟩ = some (.bool x.f.wide) := fun o => (World.cell?_alloc_lt _ _ _ (by exact hgr)).trans q2
      have q3a : ∀ o, (wr.drew.alloc o).cell? ⟨g, off + k * 4 + 3, none⟩ = some (.slice Af x.f.bytes.length cf) := fun o => (World.cell?_alloc_lt _ _ _ (by exact hgr)).trans q3
      have Q0 := Lib.hid q0a
      have Q1 := Lib.hid q1a
      have Q2 := Lib.hid q2a
      have Q3 := Lib.hid q3a
      clear hrg hcl hx hfv e hxo hxe hb64 q0a q1a q2a q3a
      go_wp2
      go_region_held3 (fun W => W.cell? ⟨g, off + k * 4, none⟩ = some (.int .i64 x.by_) ∧ W.cell? ⟨g, off + k * 4 + 1, none⟩ = some (.int .u32 x.f.id) ∧ W.cell? ⟨g, off + k * 4 + 2, none⟩ = some (.bool x.f.wide) ∧ W.cell? ⟨g, off + k * 4 + 3, none⟩ = some (.slice Af x.f.bytes.length cf))
        (first | exact ⟨by exact q0, by exact q1, by exact q2, by exact q3⟩ | exact ⟨by exact Q0.out _, by exact Q1.out _, by exact Q2.out _, by exact Q3.out _⟩ | go_keep)
        (first | (go_at_call 16; refine (hPK.out _).mono ?_; rintro e w3 ⟨rfl, rfl⟩))
      all_goals
        have hal : Below wr.heap.size wr (wr.alloc (.cells #[.int .i64 (i : Int), .int .u32 x.f.id, .bool x.f.wide, .slice Af x.f.bytes.length cf] 44)).drew := ((Below.refl _ _).alloc (Nat.le_refl _) _).drew
        have HT3 := Lib.hid (HT.out.below hal)
        have HX3 : Hid (Has (wr.alloc (.cells #[.int .i64 (i : Int), .int .u32 x.f.id, .bool x.f.wide, .slice Af x.f.bytes.length cf] 44)).drew wr.heap.size 44 #[.int .i64 (i : Int), .int .u32 x.f.id, .bool x.f.wide, .slice Af x.f.bytes.length cf]) := Has.drew (Has.new wr _ _)
        have HNB : Hid (¬ busF b K wr.heap.size) := fun h => absurd (HT.out.bus.lt h) (Nat.lt_irrefl _)
        clear hal q0 q1 q2 q3 hgr
        generalize (wr.alloc (.cells #[.int .i64 (i : Int), .int .u32 x.f.id, .bool x.f.wide, .slice Af x.f.bytes.length cf] 44)).drew = w3 at HT3 HX3 ⊢
        have x0 : w3.cell? ⟨wr.heap.size, 0, none⟩ = some (.int .i64 (i : Int)) := (HX3.out.cell 0).trans rfl
        have x1 : w3.cell? ⟨wr.heap.size, 1, none⟩ = some (.int .u32 x.f.id) := (HX3.out.cell 1).trans rfl
        have x2 : w3.cell? ⟨wr.heap.size, 2, none⟩ = some (.bool x.f.wide) := (HX3.out.cell 2).trans rfl
        have x3 : w3.cell? ⟨wr.heap.size, 3, none⟩ = some (.slice Af x.f.bytes.length cf) := (HX3.out.cell 3).trans rfl
        have xl := HX3.out.lt
        go_wp2_with fail
        refine (enc_any x.f.id x.f.wide _ x.f.bytes w3 (HFS.out.at_below HT3.out.wt.bel) HXO.out.2.1 HXO.out.2.2.2.1).mono ?_
        rintro e w4 ⟨A4, n4, c4, rfl, hb4⟩
        have HX4 := Lib.hid (HX3.out.below hb4 xl)
        have HT4 := Lib.hid (HT3.out.below hb4)
        clear x0 x1 x2 x3 xl hb4 HX3 HT3
        have x0 : w4.cell? ⟨wr.heap.size, 0, none⟩ = some (.int .i64 (i : Int)) := (HX4.out.cell 0).trans rfl
        have x1 : w4.cell? ⟨wr.heap.size, 1, none⟩ = some (.int .u32 x.f.id) := (HX4.out.cell 1).trans rfl
        have x2 : w4.cell? ⟨wr.heap.size, 2, none⟩ = some (.bool x.f.wide) := (HX4.out.cell 2).trans rfl
        have x3 : w4.cell? ⟨wr.heap.size, 3, none⟩ = some (.slice Af x.f.bytes.length cf) := (HX4.out.cell 3).trans rfl
        have xl := HX4.out.lt
        have hdl : D.length ≤ 60 := by have := HT4.out.len; omega
        have HCA := Lib.hid (send_calm HT4.out.calm i hil (x.f.id, x.f.wide, x.f.bytes) (by simp [sentT]; omega))
        by_cases hno : frNo (x.f.id, x.f.wide, x.f.bytes) = 0
        · unfold encE
          rw [if_pos hno]
          obtain ⟨A', hsn, hca⟩ := HCA.out.2 hno
          have HCL := Lib.hid hca
          have HSN := Lib.hid hsn
          have HNO := Lib.hid hno
          clear hsn hca hno HCA
          go_wp2_with fail
          refine (send_is HT4.out.bus (i : Int) x.f.id x.f.wide _ x.f.bytes (HFS.out.at_below HT4.out.wt.bel) HXO.out.2.1 HXO.out.2.2.2.1 (by have := HXO.out.2.2.2.2; omega)).mono ?_
          rintro e w5 ⟨rfl, hbus5, hk5⟩
          dsimp only at hbus5 ⊢
          rw [HSN.out] at hbus5 ⊢
          dsimp only [errNo] at hbus5 ⊢
          rw [if_pos rfl]
          have HB5 := Lib.hid hbus5
          have HW5 := Lib.hid (HT4.out.wt.bus HT4.out.bus hk5 HK.out)
          have HX5 := Lib.hid (hk5.has HX4.out HNB.out)
          clear hbus5 hk5 x0 x1 x2 x3 xl HX4
          have x0 : w5.cell? ⟨wr.heap.size, 0, none⟩ = some (.int .i64 (i : Int)) := (HX5.out.cell 0).trans rfl
          have x1 : w5.cell? ⟨wr.heap.size, 1, none⟩ = some (.int .u32 x.f.id) := (HX5.out.cell 1).trans rfl
          have x2 : w5.cell? ⟨wr.heap.size, 2, none⟩ = some (.bool x.f.wide) := (HX5.out.cell 2).trans rfl
          have x3 : w5.cell? ⟨wr.heap.size, 3, none⟩ = some (.slice Af x.f.bytes.length cf) := (HX5.out.cell 3).trans rfl
          have xl := HX5.out.lt
          have HOY : Hid (0 ≤ (i : Int) ∧ (i : Int) < (rules.length : Int) ∧ okF x.f.a) := ⟨by omega, by omega, ok_of HXO.out.2.1 HXO.out.2.2.2.1 HNO.out⟩
          go_wp2
          go_quiet (fail)
          have h5s : w.heap.size ≤ w5.heap.size := HW5.out.bel.size
          go_wp2_with (at_builtin; refine wpList_append_lies _ rfl _ _ 31 rfl w.heap.size tSn i0 (.agg #[.int .i64 0, .int .u32 0, .bool false, .slice none 0 0]) 4 40 Try.underlying31 hi hz0 hz1 hz2 rfl (by decide) _ D.length (D.flatMap SnV.c) rfl (by exact HW5.out.row.alloc _) ⟨w5.heap.size, 0, none⟩ 1 1 (SnV.c ⟨⟨i, x.f⟩, .slice Af x.f.bytes.length cf⟩) rfl rfl (by exact World.news_of_block (cs := #[.int .i64 (i : Int), .int .u32 x.f.id, .bool x.f.wide, .slice Af x.f.bytes.length cf]) (Has.new _ tSn _)) (by intro u hu; simp [SnV.c] at hu; rcases hu with rfl | rfl | rfl | rfl <;> rfl) (by decide) (by unfold maxLen; omega) (by omega) (by simp; omega) _ rfl ?_; intro g7 p7 w7 ho7 hg7 hor7 hlt7; have HT7 := Lib.hid (P1.more (k := k) (y := ⟨⟨i, x.f⟩, .slice Af x.f.bytes.length cf⟩) HB5.out HW5.out HCL.out HT4.out.ok HOY.out HT4.out.len HFV.out ho7 hg7); clear ho7 hg7 hor7 hlt7)
          exact ⟨⟨_, k + 1, _, A', rfl, by omega, by omega, by go_num, HT7⟩, by simp [intOf]; omega⟩
        · unfold encE
          rw [if_neg hno]
          have HSN := Lib.hid (HCA.out.1 hno)
          have HNO := Lib.hid hno
          clear hno HCA
          go_wp2_with fail
          refine (send_is HT4.out.bus (i : Int) x.f.id x.f.wide _ x.f.bytes (HFS.out.at_below HT4.out.wt.bel) HXO.out.2.1 HXO.out.2.2.2.1 (by have := HXO.out.2.2.2.2; omega)).mono ?_
          rintro e w5 ⟨rfl, hbus5, hk5⟩
          dsimp only at hbus5 ⊢
          rw [HSN.out] at hbus5 ⊢
          dsimp only [errNo] at hbus5 ⊢
          rw [if_neg HNO.out]
          have HT5 := Lib.hid (HT4.out.call hbus5 hk5 HK.out)
          clear hbus5 hk5 x0 x1 x2 x3 xl
          go_wp2
          go_quiet (fail)
          go_wp2
          exact ⟨⟨_, k + 1, D, A, rfl, by omega, by omega, by go_num, HT5.out.up.below (below_drewN (Below.refl _ _) _)⟩, by simp [intOf]; omega⟩
    · have hex : (¬ k < frames.length) ∨ (k < frames.length ∧ ¬ k < 60) := by omega
      have HP : Hid (P2 b K rules w wr tv (.slice none 0 0) D [] A) := ⟨HT.out.bus, HT.out.wt, WtOk.nil_ HT.out.wt.bel, (by intro g hg h; simp [Value.ownBlock] at h), HT.out.calm, HT.out.ok, by have := HT.out.len; simp; omega⟩
      clear HT hlt hk hk6 HSO HS HST
      rcases hex with d1 | ⟨d1, d2⟩
      all_goals
        go_wp2
        go_loopw [8, 14] (fun tv' ov' wr => ∃ (tv ov : Value) (D O : List SnV) (A : List ASt), tv = tv' ∧ ov = ov' ∧ Hid (P2 b K rules w wr tv ov D O A)) (fun t _ _ => lenV t)
        case atStart => exact ⟨_, _, D, [], A, rfl, rfl, HP⟩
        case round =>
          clear HP
          obtain ⟨tv, ov, D, O, A, rfl, rfl, HT⟩ := hrel
          by_cases hne : 0 < D.length
          · obtain ⟨a, y, A', hg, hy, ht, hc⟩ := tick_calm HT.out.calm HT.out.ok (by rw [sent_len, sent_len]; have := HT.out.len; omega) (by rw [sent_len]; exact hne)
            obtain ⟨d, hd, hyd⟩ : ∃ d, D[a]? = some d ∧ y = (d.x.by_, d.x.f.a) := by
              rw [sentT, List.getElem?_map] at hy
              obtain ⟨d, h1, h2⟩ := Option.map_eq_some_iff.1 hy
              exact ⟨d, h1, h2.symm⟩
            have hal : a < D.length := (List.getElem?_eq_some_iff.1 hd).1
            have hdl : D.length + O.length ≤ 60 := HT.out.len
            have HG : Hid (Calls Try.prog 18 #[tv] wr fun e w' => e = .returned (.int .i64 (a : Int)) ∧ Below wr.heap.size wr w') := (goes_any tv (D.map (·.x)) wr HT.out.wt.sl).mono (by
              rintro e w' ⟨rfl, hb⟩
              refine ⟨?_, hb⟩
              rw [sent_sn, List.length_map, ← sent_len D, hg]
              rfl)
            obtain ⟨g, ct, Ad, cd, rfl, hct1, hct2, hgb, hgl, hvy, c0, c1, c2, c3⟩ := HT.out.wt.el hd
            obtain ⟨dx, dv⟩ := d
            dsimp only at hvy c0 c1 c2 c3 hyd
            subst hvy
            subst hyd
            obtain ⟨q, hq⟩ : ∃ q : Addr, (if ct = a + 1 then some (⟨g, 0, none⟩ : Addr) else some ⟨g, (a + 1) * 4, none⟩) = some q := by split <;> exact ⟨_, rfl⟩
            have HQ := Lib.hid hq
            clear hq
            have HY := Lib.hid (HT.out.wt.each _ (List.mem_of_getElem? hd))
            have HD := Lib.hid hd
            have HTK := Lib.hid ht
            have HCL := Lib.hid hc
            unfold maxLen at hct2
            have hac : a ≤ ct := by omega
            have hal1 : a + 1 ≤ D.length := by omega
            clear hg hy ht hc hd
            go_wp2_with fail
            refine HG.out.mono ?_
            rintro e w2 ⟨rfl, hb2⟩
            have HT2 := Lib.hid (HT.out.below hb2)
            have k0 : w2.cell? ⟨g, a * 4, none⟩ = some (.int .i64 dx.by_) := (hb2.cell (p := ⟨g, a * 4, none⟩) hgl).trans c0
            have k1 : w2.cell? ⟨g, a * 4 + 1, none⟩ = some (.int .u32 dx.f.id) := (hb2.cell (p := ⟨g, a * 4 + 1, none⟩) hgl).trans c1
            have k2 : w2.cell? ⟨g, a * 4 + 2, none⟩ = some (.bool dx.f.wide) := (hb2.cell (p := ⟨g, a * 4 + 2, none⟩) hgl).trans c2
            have k3 : w2.cell? ⟨g, a * 4 + 3, none⟩ = some (.slice Ad dx.f.bytes.length cd) := (hb2.cell (p := ⟨g, a * 4 + 3, none⟩) hgl).trans c3
            have hgl2 : g < w2.heap.size := Nat.lt_of_lt_of_le hgl hb2.size
            have h2s : w.heap.size ≤ w2.heap.size := HT2.out.wt.bel.size
            clear c0 c1 c2 c3 hb2 HG HT
            go_wp2_with (first | (at_builtin; refine wpList_append_lies _ rfl _ _ 31 rfl w.heap.size tSn i0 (.agg #[.int .i64 0, .int .u32 0, .bool false, .slice none 0 0]) 4 40 Try.underlying31 hi hz0 hz1 hz2 rfl (by decide) _ O.length (O.flatMap SnV.c) rfl (by exact HT2.out.od.row.alloc _) ⟨w2.heap.size, 0, none⟩ 1 1 (SnV.c ⟨dx, .slice Ad dx.f.bytes.length cd⟩) rfl rfl (by exact World.news_of_block (cs := #[.int .i64 dx.by_, .int .u32 dx.f.id, .bool dx.f.wide, .slice Ad dx.f.bytes.length cd]) (Has.new _ tSn _)) (by intro u hu; simp [SnV.c] at hu; rcases hu with rfl | rfl | rfl | rfl <;> rfl) (by decide) (by unfold maxLen; omega) (by omega) (by simp; omega) _ rfl ?_; intro g7 p7 w7 ho7 hg7 hor7 hlt7; have HT7 := Lib.hid (P2.went (n := 0) HT2.out HY.out ho7 hg7); clear ho7 hg7 k0 k1 k2 k3 hgl2; have HN7 : Hid (∀ W, Below w7.heap.size w7 W → ∀ (lo m j : Nat) (u : Value), (((D.drop lo).take m).flatMap SnV.c)[j]? = some u → W.cell? ⟨g, lo * 4 + j, none⟩ = some u) := Lib.hid (HT7.out.2.1.news rfl (by omega))) | (at_builtin; refine wpList_append_own _ rfl _ _ 31 rfl w7.heap.size tSn i0 (.agg #[.int .i64 0, .int .u32 0, .bool false, .slice none 0 0]) 4 40 Try.underlying31 hi hz0 hz1 hz2 rfl (by decide) _ 0 [] rfl (by exact own_empty w7 _ _ _ (Nat.le_refl _)) ⟨g, 0, none⟩ a ct ((D.take a).flatMap SnV.c) rfl (by rw [flat_len, List.length_take]; congr 1; omega) (by intro j u hj; rw [Addr.add_mid]; have h := HN7.out (w7.alloc (.cells #[] tSn)) ((Below.refl _ _).alloc (Nat.le_refl _) _) 0 a j u hj; simpa using h) (one_flat _ (fun y hy => HT7.out.2.1.one (List.mem_of_mem_take hy))) (by unfold maxLen; omega) (by omega) (by simp) ?_; intro v8 w8 ho8 hg8 _; have HO8 := Lib.hid (show w8.ownsRow w7.heap.size tSn 4 v8 a ((D.take a).flatMap SnV.c) from by simpa using ho8); have HB8 := Lib.hid (show Below w7.heap.size w7 w8 from below_lit hg8); clear ho8 hg8) | (at_builtin; refine wpList_append_own _ rfl _ _ 31 rfl w7.heap.size tSn i0 (.agg #[.int .i64 0, .int .u32 0, .bool false, .slice none 0 0]) 4 40 Try.underlying31 hi hz0 hz1 hz2 rfl (by decide) _ a ((D.take a).flatMap SnV.c) rfl (by exact HO8.out) q (D.length - (a + 1)) (ct - (a + 1)) ((D.drop (a + 1)).flatMap SnV.c) (by exact congrArg (fun z => Value.slice z (D.length - (a + 1)) (ct - (a + 1))) HQ.out) (by rw [flat_len, List.length_drop]) (cut_news HQ.out hct1 (HN7.out w8 HB8.out)) (one_flat _ (fun y hy => HT7.out.2.1.one (List.mem_of_mem_drop hy))) (by unfold maxLen; omega) (by omega) (by have h := HB8.out.size; exact h) ?_; intro v9 w9 ho9 hg9 _; have H9 := Lib.hid (wait_less HT7.out hal HB8.out HO8.out ho9 hg9); clear ho9 hg9; have hw9 := H9.out.2.1.form; obtain ⟨A9, c9, rfl, h91, h92⟩ := hw9; have HE9 : Hid ((D.eraseIdx a).length + 1 = D.length) := Lib.hid (by rw [List.length_eraseIdx, if_pos hal]; omega)) | (go_at_call 13; refine (tick_is H9.out.1 ⟨false, false, 0, .slice none 0 0, []⟩ (FlIs.nil_ _ _) (by simp)).mono ?_; rintro e w10 ⟨rfl, hbus10, hk10⟩; have htk : tickA 64 ⟨A, []⟩ (WireD.a ⟨false, false, 0, .slice none 0 0, []⟩) = some ⟨A', []⟩ := HTK.out; rw [htk] at hbus10 ⊢; have HP10 : Hid (P2 b K rules w w10 (.slice A9 (D.eraseIdx a).length c9) (.slice (some ⟨g7, 0, none⟩) (O.length + 1) p7) (D.eraseIdx a) (O ++ [⟨dx, .slice Ad dx.f.bytes.length cd⟩]) A') := ⟨hbus10, H9.out.2.1.bus H9.out.1 hk10 HK.out, H9.out.2.2.1.bus H9.out.1 hk10 HK.out, H9.out.2.2.2, by rw [sent_erase, sent_snoc]; exact HCL.out, fun y hy => HT2.out.ok y (by rw [sent_erase] at hy; exact List.mem_of_mem_eraseIdx hy), by have := HE9.out; simp; omega⟩; clear htk hbus10 hk10; dsimp only))
            exact ⟨⟨_, _, _, _, _, rfl, rfl, HP10⟩, by have := HE9.out; simp [lenV]; omega⟩
          · obtain rfl : D = [] := List.eq_nil_of_length_eq_zero (by omega)
            obtain ⟨At, ct, rfl, _, _⟩ := HT.out.wt.form
            obtain ⟨Ao, co, rfl, ho1, ho2⟩ := HT.out.od.form
            unfold maxLen at ho2
            go_wp2_with (first | (go_at_call 13; refine (tick_is HT.out.bus ⟨false, false, 0, .slice none 0 0, []⟩ (FlIs.nil_ _ _) (by simp)).mono ?_; rintro e w4 ⟨rfl, hbus4, hk4⟩; have htk : tickA 64 ⟨A, []⟩ (WireD.a ⟨false, false, 0, .slice none 0 0, []⟩) = none := tick_idle HT.out.calm _; rw [htk] at hbus4 ⊢; have HT4 : Hid (P3 b K rules w w4 (.slice Ao O.length co) O A 0 0) := ⟨hbus4, HT.out.od.bus HT.out.bus hk4 HK.out, tak_of HT.out.calm⟩; clear htk hbus4 hk4; dsimp only [errNo]; rw [if_neg (by decide)]) | (go_at_call 9; refine (isK.num_no 25 _ (by omega) (by omega)).mono ?_; rintro e wq ⟨rfl, rfl⟩))
            clear HT hne
            go_loopw [17] (fun i wr => ∃ (m : Nat) (A : List ASt), m ≤ rules.length ∧ i = .int .i64 m ∧ Hid (P3 b K rules w wr (.slice Ao O.length co) O A m 0)) (fun i _ => rules.length - (intOf i).toNat)
            case atStart => exact ⟨0, A, Nat.zero_le _, rfl, HT4⟩
            case round =>
              clear HT4
              obtain ⟨m, A, hm, rfl, HTm⟩ := hrel
              by_cases hlm : m < rules.length
              · go_wp2
                go_loopw [18] (fun i wr => ∃ (j : Nat) (A : List ASt), j ≤ O.length ∧ i = .int .i64 j ∧ Hid (P3 b K rules w wr (.slice Ao O.length co) O A m j)) (fun i _ => O.length - (intOf i).toNat)
                case atStart => exact ⟨0, A, Nat.zero_le _, rfl, HTm⟩
                case round =>
                  obtain ⟨j, A, hj, rfl, HTj⟩ := hrel
                  by_cases hlj : j < O.length
                  · obtain ⟨y, hy⟩ : ∃ y, O[j]? = some y := ⟨_, List.getElem?_eq_getElem hlj⟩
                    obtain ⟨g, co', Ad, cd, hov, hco1, hco2, hgb, hgl, hvy, c0, c1, c2, c3⟩ := HTj.out.od.el hy
                    obtain ⟨rfl, rfl⟩ : Ao = some ⟨g, 0, none⟩ ∧ co = co' := by simpa using hov
                    clear hov hco2
                    obtain ⟨gr, offr, cells, rfl, hgr, hcl, hrg, hE⟩ := HR.out.at_ (A := Ar) hlm
                    obtain ⟨r, hr⟩ : ∃ r, rules[m]? = some r := ⟨_, List.getElem?_eq_getElem hlm⟩
                    have hre : rules[m] = r := (List.getElem?_eq_some_iff.1 hr).2
                    rw [hre] at hE
                    obtain ⟨v3, rfl, hv3⟩ := hE
                    obtain ⟨A3, c3', rfl, _, _⟩ := hv3.form
                    have hgrl : gr < w.heap.size := hgr
                    have r0 : wr.cell? ⟨gr, offr + m * 1, none⟩ = some (.slice A3 r.length c3') := (HTj.out.od.bel.cell (p := ⟨gr, offr + m * 1, none⟩) hgrl).trans (hrg 0 _ rfl)
                    rw [Nat.mul_one] at r0
                    have hyT : (sentT O)[j]? = some (y.x.by_, y.x.f.a) := by rw [sentT, List.getElem?_map, hy]; rfl
                    have HY := Lib.hid hy
                    have HYT := Lib.hid hyT
                    have HRR := Lib.hid hr
                    have HV3 := Lib.hid hv3
                    have HVY := Lib.hid hvy
                    have HDV := Lib.hid (sl_of_slk (f := Value.int .u8) (fun _ _ _ h => h) (hvy ▸ HTj.out.od.each y (List.mem_of_getElem? hy)))
                    have hgrr : gr < wr.heap.size := Nat.lt_of_lt_of_le hgrl HTj.out.od.bel.size
                    have hB := HTj.out.od.bel
                    clear hy hyT hr hv3 hvy hrg hcl hgr hre
                    by_cases hby : y.x.by_ = (m : Int)
                    · have d0 : (y.x.by_ == (m : Int)) = true := by simpa using hby
                      have HT6 : Hid (P3 b K rules w wr (.slice (some ⟨g, 0, none⟩) O.length co) O A m (j + 1)) := ⟨HTj.out.bus, HTj.out.od, tak_skip HTj.out.tak HRR.out HYT.out (by unfold comesTo; simp [hby])⟩
                      clear hby
                      go_wp2
                      go_quiet (fail)
                      go_wp2
                      exact ⟨⟨j + 1, A, by omega, by go_num, HT6.out.below (below_drewN (Below.refl _ _) _)⟩, by simp [intOf]; omega⟩
                    · have d0 : (y.x.by_ == (m : Int)) = false := by simpa using hby
                      obtain ⟨t, ht⟩ : ∃ t, takesL r y.x.f.a = t := ⟨_, rfl⟩
                      have HTK : Hid (∀ W, Below w.heap.size w W → Calls Try.prog 19 #[.slice A3 r.length c3', .agg #[.int .u32 y.x.f.id, .bool y.x.f.wide, .slice Ad y.x.f.bytes.length cd]] W fun e w' => e = .returned (.bool t) ∧ Below W.heap.size W w') := fun W hW => ht ▸ takes_any _ r (Old w.heap.size) _ _ _ y.x.f.bytes W (fun b hb => Nat.lt_of_lt_of_le hb hW.size) (HV3.out.belowF ruleE_mono (fun _ h => h) hW)
                      have hct : comesTo m r (y.x.by_, y.x.f.a) = t := by unfold comesTo; rw [ht]; simp [hby]
                      have HCT := Lib.hid hct
                      clear hct ht hby
                      go_wp2
                      go_region_held3 (fun W => W.cell? ⟨g, j * 4, none⟩ = some (.int .i64 y.x.by_) ∧ W.cell? ⟨g, j * 4 + 1, none⟩ = some (.int .u32 y.x.f.id) ∧ W.cell? ⟨g, j * 4 + 2, none⟩ = some (.bool y.x.f.wide) ∧ W.cell? ⟨g, j * 4 + 3, none⟩ = some (.slice Ad y.x.f.bytes.length cd) ∧ W.cell? ⟨gr, offr + m, none⟩ = some (.slice A3 r.length c3'))
                        (first | exact ⟨by exact c0, by exact c1, by exact c2, by exact c3, by exact r0⟩ | exact ⟨by assumption, by assumption, by assumption, by assumption, by assumption⟩)
                        (first | (go_at_call 19; refine (HTK.out _ (by first | exact hB.drew | exact hB)).mono ?_; rintro e w3 ⟨rfl, hb3⟩; have HT3 := Lib.hid (HTj.out.below (Below.trans (Below.drew (Below.refl wr.heap.size wr)) hb3)); have k0 := (hb3.cell (p := ⟨g, j * 4, none⟩) (by exact hgl)).trans (by exact c0); have k1 := (hb3.cell (p := ⟨g, j * 4 + 1, none⟩) (by exact hgl)).trans (by exact c1); have k2 := (hb3.cell (p := ⟨g, j * 4 + 2, none⟩) (by exact hgl)).trans (by exact c2); have k3 := (hb3.cell (p := ⟨g, j * 4 + 3, none⟩) (by exact hgl)).trans (by exact c3); have s0 := (hb3.cell (p := ⟨gr, offr + m, none⟩) (by exact hgrr)).trans (by exact r0); clear hb3))
                      cases t with
                      | false =>
                        have HT6 : Hid (P3 b K rules w w3 (.slice (some ⟨g, 0, none⟩) O.length co) O A m (j + 1)) := ⟨HT3.out.bus, HT3.out.od, tak_skip HT3.out.tak HRR.out HYT.out HCT.out⟩
                        go_wp2
                        exact ⟨⟨j + 1, A, by omega, by go_num, HT6⟩, by simp [intOf]; omega⟩
                      | true =>
                        obtain ⟨A', hta, htt⟩ := tak_take HT3.out.tak HRR.out HYT.out HCT.out
                        have HTA := Lib.hid hta
                        have HTB := Lib.hid htt
                        clear hta htt k0 k1 k2 k3 s0 c0 c1 c2 c3 r0
                        go_wp2_with fail
                        refine (take_is HT3.out.bus (m : Int)).mono ?_
                        rintro e w6 ⟨v6, rfl, ho6, hbt6, hbus6, hk6⟩
                        dsimp only at ho6 hbus6 ⊢
                        rw [HTA.out] at ho6 hbus6 ⊢
                        dsimp only [FrD.a] at ho6 hbus6 ⊢
                        obtain ⟨A6, c6, rfl⟩ := decW.own_slice ho6
                        have HT6 := Lib.hid (HT3.out.call hbus6 hk6 HK.out HTB.out)
                        have hal : Below w6.heap.size w6 (w6.alloc (.cells #[.int .u32 y.x.f.id, .bool y.x.f.wide, .slice A6 y.x.f.bytes.length c6] 35)) := (Below.refl _ _).alloc (Nat.le_refl _) _
                        have HT7 := Lib.hid (HT6.out.below hal)
                        have HV7 := Lib.hid ((Sl.of_own ho6).at_below hal)
                        have HX7 := Lib.hid (Has.new w6 35 #[.int .u32 y.x.f.id, .bool y.x.f.wide, .slice A6 y.x.f.bytes.length c6])
                        clear ho6 hbt6 hbus6 hk6 hal
                        dsimp only [errNo]
                        rw [if_pos rfl]
                        go_wp2_with fail
                        generalize w6.alloc (.cells #[.int .u32 y.x.f.id, .bool y.x.f.wide, .slice A6 y.x.f.bytes.length c6] 35) = w7 at HT7 HV7 HX7 ⊢
                        obtain ⟨hg7, k0, k1, k2, k3⟩ := HT7.out.od.el_at HY.out HVY.out
                        have x0 : w7.cell? ⟨w6.heap.size, 0, none⟩ = some (.int .u32 y.x.f.id) := (HX7.out.cell 0).trans rfl
                        have x1 : w7.cell? ⟨w6.heap.size, 1, none⟩ = some (.bool y.x.f.wide) := (HX7.out.cell 1).trans rfl
                        have x2 : w7.cell? ⟨w6.heap.size, 2, none⟩ = some (.slice A6 y.x.f.bytes.length c6) := (HX7.out.cell 2).trans rfl
                        have xl := HX7.out.lt
                        have HSM : Hid (∀ W, Below w7.heap.size w7 W → Calls Try.prog 20 #[.agg #[.int .u32 y.x.f.id, .bool y.x.f.wide, .slice A6 y.x.f.bytes.length c6], .agg #[.int .u32 y.x.f.id, .bool y.x.f.wide, .slice Ad y.x.f.bytes.length cd]] W fun e w' => e = .returned (.bool true) ∧ Below W.heap.size W w') := fun W hW => (sameW.frame_any _ _ _ _ _ _ y.x.f.bytes y.x.f.bytes W (HV7.out.at_below hW) (HDV.out.at_below (HT7.out.od.bel.trans (hW.mono HT7.out.od.bel.size)))).mono (by rintro e w' ⟨rfl, hb⟩; exact ⟨by simp, hb⟩)
                        go_region_held3 (fun W => W.cell? ⟨g, j * 4 + 1, none⟩ = some (.int .u32 y.x.f.id) ∧ W.cell? ⟨g, j * 4 + 2, none⟩ = some (.bool y.x.f.wide) ∧ W.cell? ⟨g, j * 4 + 3, none⟩ = some (.slice Ad y.x.f.bytes.length cd) ∧ W.cell? ⟨w6.heap.size, 0, none⟩ = some (.int .u32 y.x.f.id) ∧ W.cell? ⟨w6.heap.size, 1, none⟩ = some (.bool y.x.f.wide) ∧ W.cell? ⟨w6.heap.size, 2, none⟩ = some (.slice A6 y.x.f.bytes.length c6))
                          (first | exact ⟨by exact k1, by exact k2, by exact k3, by exact x0, by exact x1, by exact x2⟩ | exact ⟨by assumption, by assumption, by assumption, by assumption, by assumption, by assumption⟩)
                          (first | (go_at_call 20; refine (HSM.out _ (by first | exact (Below.refl _ _).drew | exact (Below.refl _ _))).mono ?_; rintro e w8 ⟨rfl, hb8⟩; have HT8 := Lib.hid (HT7.out.below (Below.trans (Below.drew (Below.refl w7.heap.size w7)) hb8)); have l1 := (hb8.cell (p := ⟨g, j * 4 + 1, none⟩) (by exact hg7)).trans (by exact k1); have l2 := (hb8.cell (p := ⟨g, j * 4 + 2, none⟩) (by exact hg7)).trans (by exact k2); have l3 := (hb8.cell (p := ⟨g, j * 4 + 3, none⟩) (by exact hg7)).trans (by exact k3); have y0 := (hb8.cell (p := ⟨w6.heap.size, 0, none⟩) (by exact xl)).trans (by exact x0); have y1 := (hb8.cell (p := ⟨w6.heap.size, 1, none⟩) (by exact xl)).trans (by exact x1); have y2 := (hb8.cell (p := ⟨w6.heap.size, 2, none⟩) (by exact xl)).trans (by exact x2); clear hb8))
                        go_wp2
                        exact ⟨⟨j + 1, A', by omega, by go_num, HT8⟩, by simp [intOf]; omega⟩
                  · obtain rfl : j = O.length := by omega
                    have hte := tak_end (by have := HTj.out.tak; rwa [← sent_len O] at this) hlm
                    have HTA := Lib.hid hte.1
                    have HTB := Lib.hid hte.2
                    clear hte
                    go_wp2_with fail
                    refine (take_is HTj.out.bus (m : Int)).mono ?_
                    rintro e w6 ⟨v6, rfl, ho6, hbt6, hbus6, hk6⟩
                    dsimp only at ho6 hbus6 ⊢
                    rw [HTA.out] at ho6 hbus6 ⊢
                    obtain ⟨A6, c6, rfl⟩ := decW.own_slice ho6
                    have HT6 := Lib.hid (HTj.out.call hbus6 hk6 HK.out HTB.out)
                    clear ho6 hbt6 hbus6 hk6
                    dsimp only [errNo]
                    rw [if_neg (by decide)]
                    go_wp2_with (first | (go_at_call 9; refine (isK.num_no 25 _ (by omega) (by omega)).mono ?_; rintro e wq ⟨rfl, rfl⟩))
                    exact ⟨⟨m + 1, A, by omega, by go_num, HT6.out.below ((Below.refl _ _).alloc (Nat.le_refl _) _)⟩, by simp [intOf]; omega⟩
              · obtain rfl : m = rules.length := by omega
                go_wp2
                go_ret
                exact ⟨rfl, HTm.out.od.bel⟩
/-! The row's step. -/
theorem own : ownKnob Try.prog.godebug = none := by kernel_rfl
theorem laidOut : laidOutB Try.prog = true := by kernel_rfl

set_option maxRecDepth 100000 in
theorem lifted (os : Os) (started : os.Started) (H : Type) (enc : TypeId × Value → H) :
    ReturnsInHanded {} Try.checked os 4 .any (Rows.busCalmSpec.pre6 enc Try.prog Try.f4 Rows.busCalmRow.domain false) (Rows.busCalmSpec.post enc Try.prog Try.f4 false true false false) := by
  refine returnsInHanded_of_change_sized (C := Try.checked) own started (by kernel_rfl) Try.func4
    (ChangeSpec.witness6 (enc := enc) (C := Try.checked) false ⟨#[], #[.slice none 0 0, .slice none 0 0], []⟩ 8 (by kernel_rfl) (by kernel_rfl) (by kernel_rfl) (by kernel_rfl)) ?_
  intro W base args ds gs before hval0 hW hcnd hsz0 _
  have hval : ∀ (j : Nat) t v, Try.f4.params[j]? = some t → args[j]? = some v → Value.okWide Try.prog W .any base t v := hval0
  have hsz : (DataW.weightsEach Try.prog (Try.f4.params.toList ++ Rows.busCalmSpec.plain.varTypes Try.prog) (ds ++ gs)).all (· ≤ reachBytes) = true := hsz0
  have hW' := hW
  obtain ⟨p, q, hA0, hV, rfl, hfz, hnd⟩ := hW
  have hA : DataW.TrodAll enc Try.prog W 0 (fun _ => true) true Try.f4.params.toList args.toList ds p := hA0
  rw [Try.params4] at hA hval hsz
  obtain ⟨v0, vs0, d0, ds0, p0, q0, hargs, rfl, rfl, h0, r0⟩ := trodAll_cons hA
  obtain ⟨v1, vs1, d1, ds1, p1, q1, rfl, rfl, rfl, h1, r1⟩ := trodAll_cons r0
  obtain ⟨rfl, rfl, rfl⟩ := trodAll_nil r1
  obtain rfl : args = #[v0, v1] := by cases args; simp_all
  obtain ⟨rfl, rfl⟩ := trodVars_none hV
  have k0 := h0
  have lt0 : ∀ x ∈ p0, x.block < W.heap.size := by obtain ⟨m, hm⟩ := h0; exact DataW.trod_lt m _ _ _ hm
  have wt0 : ∀ m ∈ d0.weights Try.prog 22, m ≤ reachBytes := fun m hm => by
    simpa using List.all_eq_true.1 hsz m (DataW.weights_mem_each (j := 0) rfl rfl m hm)
  have k1 := h1
  have lt1 : ∀ x ∈ p1, x.block < W.heap.size := by obtain ⟨m, hm⟩ := h1; exact DataW.trod_lt m _ _ _ hm
  have wt1 : ∀ m ∈ d1.weights Try.prog 31, m ≤ reachBytes := fun m hm => by
    simpa using List.all_eq_true.1 hsz m (DataW.weights_mem_each (j := 1) rfl rfl m hm)
  obtain ⟨l0, fc0, fd0, fe0⟩ := busO.open_rules (hval 0 22 v0 rfl rfl) h0 wt0
  obtain ⟨l1, fc1, fd1⟩ := busO.open_sents (hval 1 31 v1 rfl rfl) h1 wt1
  clear hA0 hval0 hsz0
  refine (walk v0 v1 l0 l1 W fc0 fd0 fe0 fc1 fd1).mono fun e W' ⟨he, bel⟩ => ?_
  subst he
  exact ⟨_, rfl, _, _, _, [], _, [], hW', trodAll_mk1 (shut_bool Try.underlying4 _), (trodAll_cons_mk (Below.trod laidOut (by kernel_rfl) (of_decide_eq_true (by kernel_rfl)) k0 bel lt0) (trodAll_cons_mk (Below.trod laidOut (by kernel_rfl) (of_decide_eq_true (by kernel_rfl)) k1 bel lt1) trodAll_mk0)), rfl, bel.frame _, fun h => by cases h⟩

theorem over : Rows.busCalmRow.holds Try.pinned (OpenSpec.ofChange Rows.busCalmSpec) :=
  OpenClaim.holds_of_wide 4 Try.f4 rfl rfl rfl rfl rfl rfl rfl ⟨rfl, rfl, rfl, rfl, rfl⟩ rfl rfl rfl rfl rfl (by kernel_rfl) Try.func4 (by kernel_rfl)
    (of_decide_eq_true (by kernel_rfl)) (by unfold Func.isWrapper; first | (rw [if_pos (by decide +kernel)]; kernel_rfl) | (rw [if_neg (by decide +kernel)]; exact ⟨rfl, rfl⟩))
    (fun os started H enc _ => lifted os started H enc)

theorem proved : Rows.BusCalmSaid := over
#print axioms proved
end Go.Proofs.Ytomkgnlooheibaa.busCalm
