/- Proves BusHonestSaid: each frame that a station takes is one that another station has sent. No condition. -/
import Derived.Test.YtomkgnlooheibaaRows
import Derived.Test.YtomkgnlooheibaaZHz
namespace Go.Proofs.Ytomkgnlooheibaa.busHonest
open Go.RowKit Go.Bus Go.Bus.ringK Go.Bus.ring3K Go.Bus.busK Go.Bus.cellK Go.Bus.decK Go.Bus.bitK Go.ChangeShapes Go.WideShapes Go.ChangeAt Go.Joins
open busM busO busH qframe
set_option linter.unusedVariables false
set_option linter.unusedSimpArgs false
/-- All that is known between two steps. -/
structure St (room b : Nat) (K : List Sk) (w0 : World) (wr : World) (tv : Value) (D : List SnV) (A : ABus) (k : Nat) : Prop where
  bus : BusIs room wr b K A
  hon : Hon (sentT D) A
  sent : SentOk wr w0.heap.size tv D
  bel : Below w0.heap.size w0 wr
  late : A.late.length ≤ k
  len : D.length ≤ k

theorem sent_snoc (D : List SnV) (y : SnV) : sentT (D ++ [y]) = sentT D ++ [(y.x.by_, y.x.f.a)] := by simp [sentT]
theorem St.more {room b : Nat} {K : List Sk} {w0 w w7 : World} {tv v7 : Value} {D : List SnV} {A : ABus} {k : Nat} {y : SnV} {O : Obj} (hbus : BusIs room w b K A) (hhon : Hon (sentT (D ++ [y])) A) (hs : SentOk w w0.heap.size tv D) (hb : Below w0.heap.size w0 w) (hl : A.late.length ≤ k) (hd : D.length ≤ k)
    (hy : w.ownsRow w0.heap.size tU 1 y.v y.x.f.bytes.length (y.x.f.bytes.map (Value.int .u8))) (ho7 : w7.ownsRow w0.heap.size tSn 4 v7 (D.length + 1) (D.flatMap SnV.c ++ SnV.c y)) (hg7 : (w.alloc O).grownBy w7 tv.ownBlock) : St room b K w0 w7 v7 (D ++ [y]) A (k + 1) := by
  have hkp : Kp (fun j => tv.ownBlock = some j) w w7 := ((Kp.refl _ w).alloc _).grown hg7 fun j hj => .inl hj
  refine ⟨hbus.kept hkp fun j t hj ht => ?_, hhon, hs.more hy ho7 hg7, hkp.to_below hb hb.size fun j hj => (hs.row.lt j hj).1, by omega, by simp; omega⟩
  have := own_ty hs.row hj
  rw [ht] at this
  cases this
  decide
theorem send_err {room : Nat} {A : List ASt} {n : Int} {f : F3} (h : (sendA room A n f).1 ≠ 0) : (sendA room A n f).2 = A := by
  unfold sendA at h ⊢
  split
  · rfl
  · rename_i hn
    rw [if_neg hn] at h
    split
    · rfl
    · rename_i s hs
      rw [hs] at h
      dsimp only at h
      split
      · rfl
      · rename_i hno
        rw [if_neg hno] at h
        split
        · rfl
        · rename_i hl
          rw [if_neg hl] at h
          exact absurd rfl h
theorem St.up {room b : Nat} {K : List Sk} {w0 w : World} {tv : Value} {D : List SnV} {A : ABus} {k : Nat} (h : St room b K w0 w tv D A k) : St room b K w0 w tv D A (k + 1) := ⟨h.bus, h.hon, h.sent, h.bel, by have := h.late; omega, by have := h.len; omega⟩
theorem St.below {room b : Nat} {K : List Sk} {w0 w w' : World} {tv : Value} {D : List SnV} {A : ABus} {k : Nat} (h : St room b K w0 w tv D A k) (hb : Below w.heap.size w w') : St room b K w0 w' tv D A k := ⟨h.bus.below hb, h.hon, h.sent.below hb, h.bel.trans (hb.mono h.bel.size), h.late, h.len⟩
/-- A call of the bus that leaves the honest so. -/
theorem St.call {room b : Nat} {K : List Sk} {w0 w w' : World} {tv : Value} {D : List SnV} {A A' : ABus} {k k' : Nat} (h : St room b K w0 w tv D A k) (hb : BusIs room w' b K A') (hk : Kp (busF b K) w w') (hh : Hon (sentT D) A') (hK : ∀ j, busF b K j → w0.heap.size ≤ j) (hl : A'.late.length ≤ k') (hk' : k ≤ k') : St room b K w0 w' tv D A' k' :=
  ⟨hb, hh, h.sent.bus h.bus hk, hk.to_below h.bel h.bel.size hK, hl, by have := h.len; omega⟩
/-- A cell of a block of no such type. -/
theorem St.set {room b : Nat} {K : List Sk} {w0 w : World} {tv : Value} {D : List SnV} {A : ABus} {k g : Nat} {t : TypeId} {cs : Array Value} (h : St room b K w0 w tv D A k) (hg : Has w g t cs) (ht : t ∉ [tS, tQ, tF, tR, tU, tB, tP, tL, tBo]) (ht2 : t ≠ tSn ∧ t ≠ tU) (hge : w0.heap.size ≤ g) (i : Nat) (u : Value) : St room b K w0 (w.setCell ⟨g, i, none⟩ u) tv D A k := by
  have hk : Kp (fun j => j = g) w (w.setCell ⟨g, i, none⟩ u) := (Kp.refl (fun j => j = g) w).set (p := ⟨g, i, none⟩) (.inl rfl) u
  refine ⟨h.bus.kept hk fun j t' hj h' => ?_, h.hon, h.sent.kept hk fun j t' hj h' => ?_, hk.to_below h.bel h.bel.size fun j hj => by have e : j = g := hj; omega, h.late, h.len⟩
  · have e : j = g := hj
    subst e
    rw [has_ty hg] at h'
    cases h'
    exact ht
  · have e : j = g := hj
    subst e
    rw [has_ty hg] at h'
    cases h'
    exact ht2

set_option maxRecDepth 100000 in
set_option maxHeartbeats 4000000 in
theorem walk (room : Int) (rv sv : Value) (rules : List (List Rl)) (steps : List StpD) (w : World) (hr : (Lit.int .i64 room).wf = true) (hR : SlK 1 rowsE w (Old w.heap.size) rv rules) (hRb : ∀ l ∈ rules, l.length * 12 ≤ 140737488351232) (hRl : rules.length * 24 ≤ 140737488351232)
    (hS : SlK 9 stpE w (Old w.heap.size) sv steps) (hSo : ∀ x ∈ steps, x.Ok) :
    Calls Try.prog 3 #[.int .i64 room, rv, sv] w fun e w' => e = .returned (.bool true) ∧ Below w.heap.size w w' := by
  obtain ⟨i0, hi, hz0, hz1, hz2⟩ := info_parts Try.infoESnt
  obtain ⟨hr1, hr2⟩ := wf_i64 hr
  clear hr
  obtain ⟨Ar, cr, rfl, hcr, hmr⟩ := hR.form
  obtain ⟨As, cs, rfl, hcs, hms⟩ := hS.form
  unfold maxLen at hmr hms
  have HR := Lib.hid hR
  have HS := Lib.hid hS
  have HSO := Lib.hid hSo
  have HRB := Lib.hid hRb
  clear hR hS hSo hRb
  have hrl : rules.length ≤ 9223372036854775807 := by omega
  go_enter Try.func3, Try.ntmps3
  go_wp2_with fail
  refine (works_yes _).mono ?_
  rintro e w1 ⟨rfl, hb1⟩
  have HB1 := Lib.hid hb1
  have HR1 := Lib.hid ((HR.out.below rowsE_mono hb1).more rowsE_mono fun b hb => Nat.lt_of_lt_of_le hb hb1.size)
  clear hb1
  by_cases hn : rules.length < 1 ∨ 8 < rules.length
  · go_wp2_with fail
    refine (new_few room _ Ar rules.length cr hn hrl).mono ?_
    rintro e w2 ⟨rfl, rfl⟩
    clear hn
    dsimp only [errNo]
    rw [if_neg (by decide)]
    go_wp2_with (first | (go_at_call 9; refine (isK.num_no 1 _ (by omega) (by omega)).mono ?_; rintro e wq ⟨rfl, rfl⟩))
    go_ret
    exact ⟨rfl, HB1.out⟩
  have hn1 : 1 ≤ rules.length := by omega
  have hn8 : rules.length ≤ 8 := by omega
  clear hn
  by_cases hrm : room < 1 ∨ 64 < room
  · go_wp2_with fail
    refine (new_room room _ _ rules HR1.out hn1 hn8 hrm).mono ?_
    rintro e w2 ⟨rfl, hb2⟩
    have HB2 := Lib.hid (HB1.out.trans (hb2.mono HB1.out.size))
    clear hrm hb2
    dsimp only [errNo]
    rw [if_neg (by decide)]
    go_wp2_with (first | (go_at_call 9; refine (isK.num_no 1 _ (by omega) (by omega)).mono ?_; rintro e wq ⟨rfl, rfl⟩))
    go_ret
    exact ⟨rfl, HB2.out⟩
  have hrA : 1 ≤ room := by omega
  have hrB : room ≤ 64 := by omega
  clear hrm
  obtain ⟨rm, rfl⟩ : ∃ rm : Nat, room = (rm : Int) := ⟨room.toNat, by omega⟩
  go_wp2_with fail
  refine (new_is (room := rm) _ rules HR1.out hn1 hn8 (by omega) (by omega) (fun l hl => by have := HRB.out l hl; omega)).mono ?_
  rintro e w2 ⟨b, K, rfl, hbus, hb2, hK⟩
  have HB2 := Lib.hid (HB1.out.trans (hb2.mono HB1.out.size))
  have HK := Lib.hid (fun k hk => Nat.le_trans HB1.out.size (hK k hk))
  have HBUS := Lib.hid hbus
  clear hbus hb2 hK
  by_cases h400 : steps.length ≤ 400
  case neg =>
    have t0 : decide (400 < (steps.length : Int)) = true := decide_eq_true (by omega)
    go_wp2_with (first | (go_at_call 9; refine (num_nil _).mono ?_; rintro e wq ⟨rfl, rfl⟩))
    go_ret
    exact ⟨rfl, HB2.out⟩
  case pos =>
  have t0 : decide (400 < (steps.length : Int)) = false := decide_eq_false (by omega)
  have HST : Hid (St rm b K w w2 (.slice none 0 0) [] ⟨rules.map freshA, []⟩ 0) := ⟨HBUS.out, new_hon rules, ⟨World.ownsRow_nil _ _ _ _, by intro y hy; cases hy⟩, HB2.out, Nat.le_refl _, Nat.le_refl _⟩
  clear HBUS HB2
  go_wp2
  go_loopw [10, 9] (fun i tv' wr => ∃ (tv : Value) (k : Nat) (D : List SnV) (A : ABus), tv = tv' ∧ k ≤ steps.length ∧ i = .int .i64 k ∧ Hid (St rm b K w wr tv D A k)) (fun i _ _ => steps.length - (intOf i).toNat)
  case atStart => exact ⟨_, 0, [], _, rfl, Nat.zero_le _, rfl, HST⟩
  case round =>
    obtain ⟨tv, k, D, A, rfl, hk, rfl, HT⟩ := hrel
    by_cases hlt : k < steps.length
    · obtain ⟨g, off, cells, rfl, hg, hcl, hrg, hE⟩ := HS.out.at_ (A := As) hlt
      have hgl : g < w.heap.size := hg
      obtain ⟨x, hx⟩ : ∃ x, x = steps[k] := ⟨_, rfl⟩
      rw [← hx] at hE
      have hxo := HSO.out x (by rw [hx]; exact List.getElem_mem hlt)
      obtain ⟨fv, uv, rfl, hfv, huv⟩ := hE
      obtain ⟨Af, cf, rfl, _, _⟩ := hfv.form
      obtain ⟨Au, cu, rfl, _, _⟩ := huv.form
      have e := fun (o : Nat) => HT.out.bel.cell (p := ⟨g, o, none⟩) hgl

      have q0 : wr.cell? ⟨g, off + k * 9, none⟩ = some (.int .i64 x.kind) := (e _).trans (hrg 0 _ rfl)
      have q1 : wr.cell? ⟨g, off + k * 9 + 1, none⟩ = some (.int .i64 x.stn) := (e _).trans (hrg 1 _ rfl)
      have q2 : wr.cell? ⟨g, off + k * 9 + 2, none⟩ = some (.int .u32 x.f.id) := (e _).trans (hrg 2 _ rfl)
      have q3 : wr.cell? ⟨g, off + k * 9 + 3, none⟩ = some (.bool x.f.wide) := (e _).trans (hrg 3 _ rfl)
      have q4 : wr.cell? ⟨g, off + k * 9 + 4, none⟩ = some (.slice Af x.f.bytes.length cf) := (e _).trans (hrg 4 _ rfl)
      have q5 : wr.cell? ⟨g, off + k * 9 + 5, none⟩ = some (.bool x.lost) := (e _).trans (hrg 5 _ rfl)
      have q6 : wr.cell? ⟨g, off + k * 9 + 6, none⟩ = some (.bool x.twice) := (e _).trans (hrg 6 _ rfl)
      have q7 : wr.cell? ⟨g, off + k * 9 + 7, none⟩ = some (.int .i64 x.late) := (e _).trans (hrg 7 _ rfl)
      have q8 : wr.cell? ⟨g, off + k * 9 + 8, none⟩ = some (.slice Au x.flips.length cu) := (e _).trans (hrg 8 _ rfl)
      have HFV := Lib.hid (sl_of_slk (f := Value.int .u8) (fun _ _ _ h => h) hfv)
      have HUV := Lib.hid (sl_of_slk (f := Value.int .i64) (fun _ _ _ h => h) huv)
      have HXO := Lib.hid hxo
      have hgr : g < wr.heap.size := Nat.lt_of_lt_of_le hgl HT.out.bel.size
      clear hrg hcl hx hfv huv e hxo
      have hal := (Below.refl wr.heap.size wr).alloc (Nat.le_refl _) (.cells #[.int .i64 x.kind, .int .i64 x.stn, .int .u32 x.f.id, .bool x.f.wide, .slice Af x.f.bytes.length cf, .bool x.lost, .bool x.twice, .int .i64 x.late, .slice Au x.flips.length cu] 40)
      have HT1 : Hid (St rm b K w (wr.alloc (.cells #[.int .i64 x.kind, .int .i64 x.stn, .int .u32 x.f.id, .bool x.f.wide, .slice Af x.f.bytes.length cf, .bool x.lost, .bool x.twice, .int .i64 x.late, .slice Au x.flips.length cu] 40)) tv D A k) := ⟨HT.out.bus.below hal, HT.out.hon, HT.out.sent.below hal, HT.out.bel.trans (hal.mono HT.out.bel.size), HT.out.late, HT.out.len⟩
      have HX1 : Hid (Has (wr.alloc (.cells #[.int .i64 x.kind, .int .i64 x.stn, .int .u32 x.f.id, .bool x.f.wide, .slice Af x.f.bytes.length cf, .bool x.lost, .bool x.twice, .int .i64 x.late, .slice Au x.flips.length cu] 40)) wr.heap.size 40 #[.int .i64 x.kind, .int .i64 x.stn, .int .u32 x.f.id, .bool x.f.wide, .slice Af x.f.bytes.length cf, .bool x.lost, .bool x.twice, .int .i64 x.late, .slice Au x.flips.length cu]) := Has.new wr _ _
      have HNB : Hid (¬ busF b K wr.heap.size) := fun h => absurd (HT.out.bus.lt h) (Nat.lt_irrefl _)
      clear hal
      by_cases k1 : x.kind = 1
      · have t1 : (x.kind == 1) = true := by simpa using k1
        clear k1
        go_wp2_with fail
        generalize wr.alloc (.cells #[.int .i64 x.kind, .int .i64 x.stn, .int .u32 x.f.id, .bool x.f.wide, .slice Af x.f.bytes.length cf, .bool x.lost, .bool x.twice, .int .i64 x.late, .slice Au x.flips.length cu] 40) = w3 at HT1 HX1 ⊢
        refine (send_is HT1.out.bus x.stn x.f.id x.f.wide _ x.f.bytes (HFV.out.at_below HT1.out.bel) HXO.out.2.2.1.1 HXO.out.2.2.1.2.2.1 (by have := HXO.out.2.2.1.2.2.2; omega)).mono ?_
        rintro e w4 ⟨rfl, hbus4, hk4⟩
        have hX4 := hk4.has HX1.out HNB.out
        have p1 : w4.cell? ⟨wr.heap.size, 1, none⟩ = some (.int .i64 x.stn) := (hX4.cell 1).trans rfl
        have p2 : w4.cell? ⟨wr.heap.size, 2, none⟩ = some (.int .u32 x.f.id) := (hX4.cell 2).trans rfl
        have p3 : w4.cell? ⟨wr.heap.size, 3, none⟩ = some (.bool x.f.wide) := (hX4.cell 3).trans rfl
        have p4 : w4.cell? ⟨wr.heap.size, 4, none⟩ = some (.slice Af x.f.bytes.length cf) := (hX4.cell 4).trans rfl
        have pl := hX4.lt
        have HX4 := Lib.hid hX4
        clear hX4
        by_cases ho : (sendA rm A.st x.stn (x.f.id, x.f.wide, x.f.bytes)).1 = 0
        · have hh := send_hon (room := rm) (n := x.stn) (f := (x.f.id, x.f.wide, x.f.bytes)) HT1.out.hon HXO.out.2.2.1.1 HXO.out.2.2.1.2.2.1 ho
          have HH := Lib.hid hh
          have HB4 := Lib.hid (hk4.to_below HT1.out.bel HT1.out.bel.size HK.out)
          have HS4 := Lib.hid (HT1.out.sent.bus HT1.out.bus hk4)
          have HBUS4 := Lib.hid hbus4
          rw [ho]
          clear hh hbus4 hk4 ho
          dsimp only [errNo]
          rw [if_pos rfl]
          go_wp2_with fail
          refine (copy_frame _ _ _ x.f.bytes _ (HFV.out.at_below HB4.out) HXO.out.2.2.1.2.2.2).mono ?_
          rintro e w5 ⟨v5, rfl, ho5, hb5⟩
          obtain ⟨A5, c5, rfl⟩ := decW.own_slice ho5
          have hX5 := HX4.out.below hb5 pl
          have p1' : w5.cell? ⟨wr.heap.size, 1, none⟩ = some (.int .i64 x.stn) := (hX5.cell 1).trans rfl
          have pl5 := hX5.lt
          have hal5 : Below w5.heap.size w5 (w5.alloc (.cells #[.int .u32 x.f.id, .bool x.f.wide, .slice A5 x.f.bytes.length c5] 35)) := (Below.refl _ _).alloc (Nat.le_refl _) _
          have HB5 := Lib.hid (HB4.out.trans (hb5.mono HB4.out.size))
          have HO6 := Lib.hid (own_kept (own_base ho5 HB4.out.size) hal5)
          have HS6 := Lib.hid ((HS4.out.below hb5).below hal5)
          have HBUS6 := Lib.hid ((HBUS4.out.below hb5).below hal5)
          have HB6 := Lib.hid (HB5.out.trans (hal5.mono HB5.out.size))
          have hdl : D.length ≤ 400 := by have := HT1.out.len; omega
          have hb6s := HB6.out.size
          have hhs : Hid (Hon (sentT (D ++ [⟨⟨x.stn, x.f⟩, .slice A5 x.f.bytes.length c5⟩])) ⟨(sendA rm A.st x.stn (x.f.id, x.f.wide, x.f.bytes)).2, A.late⟩) := by unfold Hid; rw [sent_snoc]; exact HH.out
          clear hX5 ho5 hb5 hal5 p1 p2 p3 p4
          go_wp2_with (at_builtin; refine wpList_append_lies _ rfl _ _ 31 rfl w.heap.size tSn i0 (.agg #[.int .i64 0, .int .u32 0, .bool false, .slice none 0 0]) 4 40 Try.underlying31 hi hz0 hz1 hz2 rfl (by decide) _ D.length (D.flatMap SnV.c) rfl (by exact HS6.out.row.alloc _) ⟨w5.heap.size + 1, 0, none⟩ 1 1 (SnV.c ⟨⟨x.stn, x.f⟩, .slice A5 x.f.bytes.length c5⟩) rfl rfl (by exact World.news_of_block (cs := #[.int .i64 x.stn, .int .u32 x.f.id, .bool x.f.wide, .slice A5 x.f.bytes.length c5]) (has_new1 w5 _ tSn _)) (by intro u hu; simp [SnV.c] at hu; rcases hu with rfl | rfl | rfl | rfl <;> rfl) (by decide) (by unfold maxLen; omega) (by omega) (by simp; have := HB5.out.size; omega) _ rfl ?_; intro g7 p7 w7 ho7 hg7 hor7 hlt7; have HT7 := Lib.hid (St.more (k := k) HBUS6.out hhs.out HS6.out HB6.out HT1.out.late HT1.out.len HO6.out ho7 hg7); clear ho7 hg7 hor7)
          exact ⟨⟨_, k + 1, _, _, rfl, by omega, by go_num, HT7⟩, by simp [intOf]; omega⟩
        · have hA := send_err ho
          have HT4 : Hid (St rm b K w w4 tv D A k) := by
            have hb := hbus4
            rw [hA] at hb
            exact HT1.out.call hb hk4 HT1.out.hon HK.out HT1.out.late (Nat.le_refl _)
          dsimp only [errNo]
          rw [if_neg ho]
          clear hbus4 hk4 ho hA
          go_wp2
          exact ⟨⟨_, k + 1, D, A, rfl, by omega, by go_num, HT4.out.up⟩, by simp [intOf]; omega⟩
      by_cases k2 : x.kind = 2
      · have t1 : (x.kind == 1) = false := by simpa using k1
        have t2 : (x.kind == 2) = true := by simpa using k2
        clear k1 k2
        go_wp2_with fail
        have hsz3 : (wr.alloc (.cells #[.int .i64 x.kind, .int .i64 x.stn, .int .u32 x.f.id, .bool x.f.wide, .slice Af x.f.bytes.length cf, .bool x.lost, .bool x.twice, .int .i64 x.late, .slice Au x.flips.length cu] 40)).heap.size = wr.heap.size + 1 := by simp
        have HS3 := Lib.hid hsz3
        generalize wr.alloc (.cells #[.int .i64 x.kind, .int .i64 x.stn, .int .u32 x.f.id, .bool x.f.wide, .slice Af x.f.bytes.length cf, .bool x.lost, .bool x.twice, .int .i64 x.late, .slice Au x.flips.length cu] 40) = w3 at HT1 HX1 HS3 hsz3 ⊢
        rw [← hsz3]
        clear hsz3
        have hal3 : Below w3.heap.size w3 (w3.alloc (.cells #[.bool x.lost, .bool x.twice, .int .i64 x.late, .slice Au x.flips.length cu] 38)) := (Below.refl _ _).alloc (Nat.le_refl _) _
        have HT3 := Lib.hid (HT1.out.below hal3)
        have HW3 := Lib.hid (Has.new w3 38 #[.bool x.lost, .bool x.twice, .int .i64 x.late, .slice Au x.flips.length cu])
        refine (five_any _ x.flips _ (HUV.out.at_below HT3.out.bel) (by have := HXO.out.2.2.2.2.2; omega)).mono ?_
        rintro e w4 ⟨v4, rfl, ho4, hb4⟩
        obtain ⟨A4, c4, rfl⟩ := decW.own_slice ho4
        have HT4 := Lib.hid (HT3.out.below hb4)
        have hW4 := HW3.out.below hb4 HW3.out.lt
        have HO4 := Lib.hid ho4
        have m0 : w4.cell? ⟨w3.heap.size, 0, none⟩ = some (.bool x.lost) := (hW4.cell 0).trans rfl
        have m1 : w4.cell? ⟨w3.heap.size, 1, none⟩ = some (.bool x.twice) := (hW4.cell 1).trans rfl
        have m2 : w4.cell? ⟨w3.heap.size, 2, none⟩ = some (.int .i64 x.late) := (hW4.cell 2).trans rfl
        have m3 : w4.cell? ⟨w3.heap.size, 3, none⟩ = some (.slice Au x.flips.length cu) := (hW4.cell 3).trans rfl
        have mf := fun i => hW4.frozen i
        have HW4 := Lib.hid hW4
        have hwb : w.heap.size ≤ w3.heap.size := HT1.out.bel.size
        have hgr3 : g < w4.heap.size := Nat.lt_of_lt_of_le hgl HT4.out.bel.size
        clear ho4 hb4 hW4 hal3
        go_wp2_with fail
        have HT5 := Lib.hid (HT4.out.set HW4.out (by decide) (by decide) hwb 3 (.slice A4 (x.flips.take 5).length c4))
        have HF5 : Hid (FlIs (w4.setCell ⟨w3.heap.size, 3, none⟩ (.slice A4 (x.flips.take 5).length c4)) K (.slice A4 (x.flips.take 5).length c4) (x.flips.take 5)) := by
          exact fl_of_own HT5.out.bus (((Kp.refl (fun j => j = w3.heap.size) w4).set (p := ⟨w3.heap.size, 3, none⟩) (.inl rfl) (.slice A4 (x.flips.take 5).length c4)).own HO4.out fun g hg hf => by
            have e : g = w3.heap.size := hf
            have h1 := own_ty HO4.out hg
            rw [e, has_ty HW4.out] at h1
            exact absurd (Option.some.inj h1) (by decide))
        have h5l : (x.flips.take 5).length ≤ 5 := by rw [List.length_take]; omega
        have H5L := Lib.hid h5l
        clear h5l m0 m1 m2 m3 mf
        obtain ⟨fl, hfl⟩ : ∃ fl, fl = x.flips.take 5 := ⟨_, rfl⟩
        rw [← hfl] at HF5 H5L HT5
        have e5 : min 5 x.flips.length = fl.length := by rw [hfl, List.length_take]
        (try rw [e5])
        (try rw [← hfl])
        clear hfl e5 HO4
        generalize w4.setCell ⟨w3.heap.size, 3, none⟩ (.slice A4 fl.length c4) = w5 at HT5 HF5 ⊢
        refine (tick_is HT5.out.bus ⟨x.lost, x.twice, x.late, .slice A4 fl.length c4, fl⟩ HF5.out (by have := HT5.out.late; omega)).mono ?_
        rintro e w6 ⟨rfl, hbus6, hk6⟩
        cases ht : tickA rm A (WireD.a ⟨x.lost, x.twice, x.late, .slice A4 fl.length c4, fl⟩) with
        | none =>
          rw [ht] at hbus6
          have HT6 := Lib.hid (HT5.out.call (A' := A) hbus6 hk6 HT5.out.hon HK.out HT5.out.late (Nat.le_refl _))
          clear ht hbus6 hk6
          dsimp only [errNo]
          rw [if_neg (by decide)]
          go_wp2_with (first | (go_at_call 9; refine (isK.num_no 25 _ (by omega) (by omega)).mono ?_; rintro e wq ⟨rfl, rfl⟩))
          exact ⟨⟨_, k + 1, D, A, rfl, by omega, by go_num, HT6.out.up⟩, by simp [intOf]; omega⟩
        | some A' =>
          rw [ht] at hbus6
          have hl6 := tick_len ht
          have HT6 := Lib.hid (HT5.out.call (A' := A') hbus6 hk6 (tick_hon HT5.out.hon H5L.out ht) HK.out (k' := k + 1) (by have := HT5.out.late; omega) (by omega))
          clear ht hbus6 hk6 hl6
          dsimp only
          go_wp2
          exact ⟨⟨_, k + 1, D, A', rfl, by omega, by go_num, HT6⟩, by simp [intOf]; omega⟩
      by_cases k3 : x.kind = 3
      · have t1 : (x.kind == 1) = false := by simpa using k1
        have t2 : (x.kind == 2) = false := by simpa using k2
        have t3 : (x.kind == 3) = true := by simpa using k3
        clear k1 k2 k3
        go_wp2_with fail
        generalize wr.alloc (.cells #[.int .i64 x.kind, .int .i64 x.stn, .int .u32 x.f.id, .bool x.f.wide, .slice Af x.f.bytes.length cf, .bool x.lost, .bool x.twice, .int .i64 x.late, .slice Au x.flips.length cu] 40) = w3 at HT1 HX1 ⊢
        refine (take_is HT1.out.bus x.stn).mono ?_
        rintro e w6 ⟨v6, rfl, ho6, hbt6, hbus6, hk6⟩
        obtain ⟨hh6, hin6⟩ := take_hon (n := x.stn) HT1.out.hon
        obtain ⟨A6, c6, rfl⟩ := decW.own_slice ho6
        have hX6 := hk6.has HX1.out HNB.out
        have p1 : w6.cell? ⟨wr.heap.size, 1, none⟩ = some (.int .i64 x.stn) := (hX6.cell 1).trans rfl
        have pl := hX6.lt
        clear hX6
        have HT6 := Lib.hid (HT1.out.call (A' := ⟨(takeA A.st x.stn).2.2, A.late⟩) hbus6 hk6 hh6 HK.out HT1.out.late (Nat.le_refl _))
        have HO6 := Lib.hid ho6
        have HIN6 := Lib.hid hin6
        clear ho6 hbt6 hbus6 hk6 hh6 hin6
        obtain ⟨o, ho⟩ : ∃ o, o = takeA A.st x.stn := ⟨_, rfl⟩
        rw [← ho] at HT6 HO6 HIN6 ⊢
        obtain ⟨no, ⟨fi, fw, fb⟩, st6⟩ := o
        dsimp only at HT6 HO6 HIN6 ⊢
        clear ho
        by_cases hno : no = 0
        · subst hno
          dsimp only [errNo]
          rw [if_pos rfl]
          have hal6 : Below w6.heap.size w6 (w6.alloc (.cells #[.int .u32 fi, .bool fw, .slice A6 fb.length c6] 35)) := (Below.refl _ _).alloc (Nat.le_refl _) _
          have HT7 := Lib.hid (HT6.out.below hal6)
          have HV7 := Lib.hid ((Sl.of_own HO6.out).at_below hal6)
          have hht := Lib.hid (hit_of (HIN6.out rfl))
          clear hal6
          go_wp2_with fail
          refine (among_any tv (D.map (·.x)) x.stn fi fw _ fb _ HT7.out.sent.sl HV7.out).mono ?_
          rintro e w8 ⟨rfl, hb8⟩
          rw [show (D.map (·.x)).any (hit x.stn fi fw fb) = true from hht.out]
          have HT8 := Lib.hid (HT7.out.below hb8)
          clear hb8
          go_wp2
          exact ⟨⟨_, k + 1, D, _, rfl, by omega, by go_num, HT8.out.up⟩, by simp [intOf]; omega⟩
        · dsimp only [errNo]
          rw [if_neg hno]
          have hal6 : Below w6.heap.size w6 (w6.alloc (.cells #[.int .u32 fi, .bool fw, .slice A6 fb.length c6] 35)) := (Below.refl _ _).alloc (Nat.le_refl _) _
          have HT8 := Lib.hid (HT6.out.below hal6)
          clear hal6 hno
          go_wp2
          exact ⟨⟨_, k + 1, D, _, rfl, by omega, by go_num, HT8.out.up⟩, by simp [intOf]; omega⟩
      · have t1 : (x.kind == 1) = false := by simpa using k1
        have t2 : (x.kind == 2) = false := by simpa using k2
        have t3 : (x.kind == 3) = false := by simpa using k3
        clear k1 k2 k3
        go_wp2
        exact ⟨⟨_, k + 1, D, A, rfl, by omega, by go_num, ⟨HT1.out.bus, HT1.out.hon, HT1.out.sent, HT1.out.bel, by have := HT1.out.late; omega, by have := HT1.out.len; omega⟩⟩, by simp [intOf]; omega⟩
    · obtain rfl : k = steps.length := by omega
      have HT0 := HT
      clear HS HSO hlt
      go_wp2
      go_loopw [17] (fun i wr => ∃ (m : Nat) (A : ABus), m ≤ rules.length ∧ i = .int .i64 m ∧ Hid (St rm b K w wr tv D A steps.length)) (fun i _ => rules.length - (intOf i).toNat)
      case atStart => exact ⟨0, A, Nat.zero_le _, rfl, HT⟩
      case round =>
        obtain ⟨m, A, hm, rfl, HTm⟩ := hrel
        by_cases hlm : m < rules.length
        · go_wp2
          go_loopw [18] (fun i wr => ∃ (j : Nat) (A : ABus), j ≤ 64 ∧ i = .int .i64 j ∧ Hid (St rm b K w wr tv D A steps.length)) (fun i _ => 64 - (intOf i).toNat)
          case atStart => exact ⟨0, A, Nat.zero_le _, rfl, HTm⟩
          case round =>
            obtain ⟨j, A, hj, rfl, HTj⟩ := hrel
            by_cases hlj : j < 64
            · go_wp2_with fail
              refine (take_is HTj.out.bus (m : Int)).mono ?_
              rintro e w6 ⟨v6, rfl, ho6, hbt6, hbus6, hk6⟩
              obtain ⟨hh6, hin6⟩ := take_hon (n := (m : Int)) HTj.out.hon
              obtain ⟨A6, c6, rfl⟩ := decW.own_slice ho6
              have HT6 := Lib.hid (HTj.out.call (A' := ⟨(takeA A.st (m : Int)).2.2, A.late⟩) hbus6 hk6 hh6 HK.out HTj.out.late (Nat.le_refl _))
              have HO6 := Lib.hid ho6
              have HIN6 := Lib.hid hin6
              clear ho6 hbt6 hbus6 hk6 hh6 hin6
              obtain ⟨o, ho⟩ : ∃ o, o = takeA A.st (m : Int) := ⟨_, rfl⟩
              rw [← ho] at HT6 HO6 HIN6 ⊢
              obtain ⟨no, ⟨fi, fw, fb⟩, st6⟩ := o
              dsimp only at HT6 HO6 HIN6 ⊢
              clear ho
              by_cases hno : no = 0
              · subst hno
                dsimp only [errNo]
                rw [if_pos rfl]
                have hal6 : Below w6.heap.size w6 (w6.alloc (.cells #[.int .u32 fi, .bool fw, .slice A6 fb.length c6] 35)) := (Below.refl _ _).alloc (Nat.le_refl _) _
                have HT7 := Lib.hid (HT6.out.below hal6)
                have HV7 := Lib.hid ((Sl.of_own HO6.out).at_below hal6)
                have hht := Lib.hid (hit_of (HIN6.out rfl))
                clear hal6
                go_wp2_with fail
                refine (among_any tv (D.map (·.x)) (m : Int) fi fw _ fb _ HT7.out.sent.sl HV7.out).mono ?_
                rintro e w8 ⟨rfl, hb8⟩
                rw [show (D.map (·.x)).any (hit (m : Int) fi fw fb) = true from hht.out]
                have HT8 := Lib.hid (HT7.out.below hb8)
                clear hb8
                go_wp2
                exact ⟨⟨j + 1, _, by omega, by go_num, HT8⟩, by simp [intOf]; omega⟩
              · dsimp only [errNo]
                rw [if_neg hno]
                have hal6 : Below w6.heap.size w6 (w6.alloc (.cells #[.int .u32 fi, .bool fw, .slice A6 fb.length c6] 35)) := (Below.refl _ _).alloc (Nat.le_refl _) _
                have HT8 := Lib.hid (HT6.out.below hal6)
                clear hal6 hno
                go_wp2
                exact ⟨⟨j + 1, _, by omega, by go_num, HT8⟩, by simp [intOf]; omega⟩
            · obtain rfl : j = 64 := by omega
              go_wp2
              exact ⟨⟨m + 1, A, by omega, by go_num, HTj⟩, by simp [intOf]; omega⟩
        · obtain rfl : m = rules.length := by omega
          go_wp2
          go_ret
          exact ⟨rfl, HTm.out.bel⟩
/-! The row's step. -/
theorem own : ownKnob Try.prog.godebug = none := by kernel_rfl
theorem laidOut : laidOutB Try.prog = true := by kernel_rfl

set_option maxRecDepth 100000 in
theorem lifted (os : Os) (started : os.Started) (H : Type) (enc : TypeId × Value → H) :
    ReturnsInHanded {} Try.checked os 3 .any (Rows.busHonestSpec.pre6 enc Try.prog Try.f3 Rows.busHonestRow.domain false) (Rows.busHonestSpec.post enc Try.prog Try.f3 false true false false) := by
  refine returnsInHanded_of_change_sized (C := Try.checked) own started (by kernel_rfl) Try.func3
    (ChangeSpec.witness6 (enc := enc) (C := Try.checked) false ⟨#[], #[.int .i64 0, .slice none 0 0, .slice none 0 0], []⟩ 8 (by kernel_rfl) (by kernel_rfl) (by kernel_rfl) (by kernel_rfl)) ?_
  intro W base args ds gs before hval0 hW hcnd hsz0 _
  have hval : ∀ (j : Nat) t v, Try.f3.params[j]? = some t → args[j]? = some v → Value.okWide Try.prog W .any base t v := hval0
  have hsz : (DataW.weightsEach Try.prog (Try.f3.params.toList ++ Rows.busHonestSpec.plain.varTypes Try.prog) (ds ++ gs)).all (· ≤ reachBytes) = true := hsz0
  have hW' := hW
  obtain ⟨p, q, hA0, hV, rfl, hfz, hnd⟩ := hW
  have hA : DataW.TrodAll enc Try.prog W 0 (fun _ => true) true Try.f3.params.toList args.toList ds p := hA0
  rw [Try.params3] at hA hval hsz
  obtain ⟨v0, vs0, d0, ds0, p0, q0, hargs, rfl, rfl, h0, r0⟩ := trodAll_cons hA
  obtain ⟨v1, vs1, d1, ds1, p1, q1, rfl, rfl, rfl, h1, r1⟩ := trodAll_cons r0
  obtain ⟨v2, vs2, d2, ds2, p2, q2, rfl, rfl, rfl, h2, r2⟩ := trodAll_cons r1
  obtain ⟨rfl, rfl, rfl⟩ := trodAll_nil r2
  obtain rfl : args = #[v0, v1, v2] := by cases args; simp_all
  obtain ⟨rfl, rfl⟩ := trodVars_none hV
  have k0 := h0
  have lt0 : ∀ x ∈ p0, x.block < W.heap.size := by obtain ⟨m, hm⟩ := h0; exact DataW.trod_lt m _ _ _ hm
  have wt0 : ∀ m ∈ d0.weights Try.prog 3, m ≤ reachBytes := fun m hm => by
    simpa using List.all_eq_true.1 hsz m (DataW.weights_mem_each (j := 0) rfl rfl m hm)
  have k1 := h1
  have lt1 : ∀ x ∈ p1, x.block < W.heap.size := by obtain ⟨m, hm⟩ := h1; exact DataW.trod_lt m _ _ _ hm
  have wt1 : ∀ m ∈ d1.weights Try.prog 22, m ≤ reachBytes := fun m hm => by
    simpa using List.all_eq_true.1 hsz m (DataW.weights_mem_each (j := 1) rfl rfl m hm)
  have k2 := h2
  have lt2 : ∀ x ∈ p2, x.block < W.heap.size := by obtain ⟨m, hm⟩ := h2; exact DataW.trod_lt m _ _ _ hm
  have wt2 : ∀ m ∈ d2.weights Try.prog 23, m ≤ reachBytes := fun m hm => by
    simpa using List.all_eq_true.1 hsz m (DataW.weights_mem_each (j := 2) rfl rfl m hm)
  obtain ⟨x0, rfl, rfl, rfl, g0⟩ := open_int Try.underlying3 (hval 0 3 v0 rfl rfl) h0
  obtain ⟨l1, fc1, fd1, fe1⟩ := busO.open_rules (hval 1 22 v1 rfl rfl) h1 wt1
  obtain ⟨l2, fc2, fd2⟩ := busO.open_steps (hval 2 23 v2 rfl rfl) h2 wt2
  clear hA0 hval0 hsz0
  refine (walk x0 v1 v2 l1 l2 W g0 fc1 fd1 fe1 fc2 fd2).mono fun e W' ⟨he, bel⟩ => ?_
  subst he
  exact ⟨_, rfl, _, _, _, [], _, [], hW', trodAll_mk1 (shut_bool Try.underlying4 _), (trodAll_cons_mk (shut_int Try.underlying3 g0) (trodAll_cons_mk (Below.trod laidOut (by kernel_rfl) (of_decide_eq_true (by kernel_rfl)) k1 bel lt1) (trodAll_cons_mk (Below.trod laidOut (by kernel_rfl) (of_decide_eq_true (by kernel_rfl)) k2 bel lt2) trodAll_mk0))), rfl, bel.frame _, fun h => by cases h⟩

theorem over : Rows.busHonestRow.holds Try.pinned (OpenSpec.ofChange Rows.busHonestSpec) :=
  OpenClaim.holds_of_wide 3 Try.f3 rfl rfl rfl rfl rfl rfl rfl ⟨rfl, rfl, rfl, rfl, rfl⟩ rfl rfl rfl rfl rfl (by kernel_rfl) Try.func3 (by kernel_rfl)
    (of_decide_eq_true (by kernel_rfl)) (by unfold Func.isWrapper; first | (rw [if_pos (by decide +kernel)]; kernel_rfl) | (rw [if_neg (by decide +kernel)]; exact ⟨rfl, rfl⟩))
    (fun os started H enc _ => lifted os started H enc)

theorem proved : Rows.BusHonestSaid := over
#print axioms proved
end Go.Proofs.Ytomkgnlooheibaa.busHonest
