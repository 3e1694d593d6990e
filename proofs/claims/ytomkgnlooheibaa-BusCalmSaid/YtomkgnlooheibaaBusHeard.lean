/- bus: a station hears what comes (station.hear): damaged, refused, dropped, or taken. No condition. -/
import Derived.Test.YtomkgnlooheibaaBusHear
import Derived.Deep.RegionHeld3
namespace Go.Proofs.Ytomkgnlooheibaa
open Go.RowKit Go.Bus Go.Bus.ringK Go.Bus.ring3K Go.Bus.busK Go.Bus.cellK Go.Bus.decK
set_option linter.unusedVariables false
set_option linter.unusedSimpArgs false
namespace busM
open qframe
theorem StOk.re {room : Nat} {w w' : World} {s s' : Stn} (h : StOk room w s) (hk : Kp (mut1 (skel s)) w w') (e : skel s' = skel s) (er : s'.rv = s.rv) (el : s'.rules = s.rules) (hb : Has w' s.box tS (stC s'))
    (ho : RingF w' s.qo s.ro room s'.fo s'.out) (hi : RingF w' s.qi s.ri room s'.fi s'.inn) (fo : ∀ x ∈ s'.out, x ∈ s.out ∨ FrOk w' x) (fi : ∀ x ∈ s'.inn, x ∈ s.inn ∨ FrOk w' x) (hn : (blk s').Nodup) : StOk room w' s' := by
  have e1 : s'.box = s.box := congrArg (·.1) e
  have e2 : s'.qo = s.qo := congrArg (·.2.1) e
  have e3 : s'.qi = s.qi := congrArg (·.2.2.1) e
  have e4 : s'.ro = s.ro := congrArg (·.2.2.2.1) e
  have e5 : s'.ri = s.ri := congrArg (·.2.2.2.2) e
  have nm : ∀ {k : Nat} {t : TypeId}, tyAt w k = some t → t ∉ [tS, tQ, tF] → ¬ mut1 (skel s) k := by
    intro k t h1 h2 hm
    rcases h.mut_ty hm with h3 | h3 | h3 <;> rw [h1] at h3 <;> cases h3 <;> simp at h2
  have old : ∀ x, FrOk w x → FrOk w' x := fun x hx => ⟨own_at hx.1 fun g hg => hk.block g (ty_lt (own_ty hx.1 hg)) (nm (own_ty hx.1 hg) (by decide)), hx.2⟩
  refine ⟨by rw [e1]; exact hb, by rw [e2, e4]; exact ho, by rw [e3, e5]; exact hi, ?_, ?_, ?_, by rw [e2, e3]; exact h.hq, by rw [e4, e5]; exact h.hr, hn⟩
  · rw [er, el]
    exact own_at h.rules fun g hg => hk.block g (ty_lt (own_ty h.rules hg)) (nm (own_ty h.rules hg) (by decide))
  · intro x hx
    rcases fo x hx with h1 | h1
    · exact old x (h.fout x h1)
    · exact h1
  · intro x hx
    rcases fi x hx with h1 | h1
    · exact old x (h.finn x h1)
    · exact h1
theorem StOk.ne_ {room : Nat} {w : World} {s : Stn} (h : StOk room w s) : s.box ≠ s.qo ∧ s.box ≠ s.ro ∧ s.box ≠ s.qi ∧ s.box ≠ s.ri ∧ s.qo ≠ s.ro ∧ s.qo ≠ s.ri ∧ s.qi ≠ s.ri ∧ s.qi ≠ s.ro := by
  have no : ∀ (a b : Nat) (s t : TypeId), s ≠ t → tyAt w a = some s → tyAt w b = some t → a ≠ b := fun a b s t hab ha hb e => by subst e; exact hab (Option.some.inj (ha.symm.trans hb))
  have hb := has_ty h.box
  have o := ring_ty h.out
  have i := ring_ty h.inn
  have c1 : tS ≠ tQ := by decide
  have c2 : tS ≠ tF := by decide
  have c3 : tQ ≠ tF := by decide
  exact ⟨no _ _ _ _ c1 hb o.1, no _ _ _ _ c2 hb o.2, no _ _ _ _ c1 hb i.1, no _ _ _ _ c2 hb i.2, no _ _ _ _ c3 o.1 o.2, no _ _ _ _ c3 o.1 i.2, no _ _ _ _ c3 i.1 i.2, no _ _ _ _ c3 i.1 o.2⟩
theorem StOk.lts {room : Nat} {w : World} {s : Stn} (h : StOk room w s) : s.box < w.heap.size ∧ s.qo < w.heap.size ∧ s.ro < w.heap.size ∧ s.qi < w.heap.size ∧ s.ri < w.heap.size := ⟨h.box.lt, h.out.lt.1, h.out.lt.2, h.inn.lt.1, h.inn.lt.2⟩
/-- What came, as it lies: a frame, or an error. -/
def Came (w : World) (r : FrOut) (fv ev : Value) : Prop :=
  match r with
  | .error x => fv = decW.noFrame ∧ ev = decW.errV x
  | .ok f => ev = .nilIface ∧ okF f ∧ ∃ v, fv = .agg #[.int .u32 f.1, .bool f.2.1, v] ∧ w.ownsRow 0 tU 1 v f.2.2.length (f.2.2.map (Value.int .u8))
def Heard (room : Nat) (w : World) (s : Stn) (r : FrOut) (e : Ending) (w' : World) : Prop :=
  e = .returned (.tuple #[]) ∧ ∃ s', StOk room w' s' ∧ s'.a = hearA room r s.a ∧ skel s' = skel s ∧ Kp (mut1 (skel s)) w w' ∧ ∀ k ∈ blk s', k ∈ blk s ∨ w.heap.size ≤ k
/-- Only a count is new. -/
theorem StOk.count {room : Nat} {w w' : World} {s : Stn} {c : Cn} (h : StOk room w s) (hk : Kp (fun k => k = s.box) w w') (hb : Has w' s.box tS (stC { s with cn := c })) :
    StOk room w' { s with cn := c } ∧ Kp (mut1 (skel s)) w w' := by
  have hk' : Kp (mut1 (skel s)) w w' := hk.mono fun k e => .inl e
  obtain ⟨n1, n2, n3, n4, _⟩ := h.ne_
  obtain ⟨_, l1, l2, l3, l4⟩ := h.lts
  exact ⟨h.re hk' rfl rfl rfl hb (h.out.keep (hk.block _ l1 (fun e => n1 e.symm)) (hk.block _ l2 (fun e => n2 e.symm))) (h.inn.keep (hk.block _ l3 (fun e => n3 e.symm)) (hk.block _ l4 (fun e => n4 e.symm))) (fun x hx => .inl hx) (fun x hx => .inl hx) h.hb, hk'⟩
theorem StOk.cells {room : Nat} {w : World} {s : Stn} (h : StOk room w s) :
    w.cell? ⟨s.box, 0, none⟩ = some (.pointer (some ⟨s.qo, 0, none⟩)) ∧ w.cell? ⟨s.box, 1, none⟩ = some (.pointer (some ⟨s.qi, 0, none⟩)) ∧ w.cell? ⟨s.box, 2, none⟩ = some s.rv ∧ w.cell? ⟨s.box, 3, none⟩ = some (.int .i64 s.cn.sent) ∧
    w.cell? ⟨s.box, 4, none⟩ = some (.int .i64 s.cn.taken) ∧ w.cell? ⟨s.box, 5, none⟩ = some (.int .i64 s.cn.refused) ∧ w.cell? ⟨s.box, 6, none⟩ = some (.int .i64 s.cn.damaged) ∧ w.cell? ⟨s.box, 7, none⟩ = some (.int .i64 s.cn.dropped) ∧ (∀ i, w.frozen? ⟨s.box, i, none⟩ = false) :=
  ⟨(h.box.cell 0).trans rfl, (h.box.cell 1).trans rfl, (h.box.cell 2).trans rfl, (h.box.cell 3).trans rfl, (h.box.cell 4).trans rfl, (h.box.cell 5).trans rfl, (h.box.cell 6).trans rfl, (h.box.cell 7).trans rfl, fun i => h.box.frozen i⟩
theorem StOk.ruled {room : Nat} {w : World} {s : Stn} (h : StOk room w s) : SlK 3 ruleE w (Old w.heap.size) s.rv s.rules := by
  refine ⟨s.rules.flatMap Rl.c, ?_, fun i x hi => ?_⟩
  · rcases h.rules.2 with ⟨hv, h0⟩ | ⟨g, cap, cur, hv, hb, hg, hn, hm, hs, ht⟩
    · have hnil : s.rules = [] := List.eq_nil_of_length_eq_zero h0
      rw [hv, hnil]
      exact Src.nil_ 3 w _
    · rw [hv]
      refine ⟨_, cap, rfl, hn, hm, h.rules.1, fun _ => ⟨g, 0, rfl, ?_, fun j u hj => ?_⟩⟩
      · exact ty_lt (own_ty h.rules (by rw [hv]; rfl))
      · have h1 := h.rules.cells (g := g) (by rw [hv]; rfl) j u hj
        rw [Addr.add_mid] at h1
        exact h1
  · have : ∀ (l : List Rl) (i : Nat) (x : Rl), l[i]? = some x → eltOf 3 (l.flatMap Rl.c) i = Rl.c x := by
      intro l
      induction l with
      | nil => intro i x hi; simp at hi
      | cons y t ih =>
        intro i x hi
        cases i with
        | zero => simp at hi; subst hi; simp [eltOf, Rl.c]
        | succ i =>
          have h2 := ih i x (by simpa using hi)
          unfold eltOf at h2 ⊢
          rw [← h2, List.flatMap_cons, show (i + 1) * 3 = (Rl.c y).length + i * 3 from by simp [Rl.c]; omega, ← List.drop_drop, List.drop_left]
    exact this _ _ _ hi

/-- A frame of its own put into the row of what came, and counted. -/
theorem StOk.taken_ {room B : Nat} {w2 w3 : World} {s : Stn} {x : Fr} {c : Cn} (h : StOk room w2 s) (hr : RingF w3 s.qi s.ri room s.fi (s.inn ++ [x])) (hk : Kp (fun k => k = s.qi ∨ k = s.ri) w2 w3)
    (ho : w3.ownsRow B tU 1 x.data x.bytes.length (x.bytes.map (Value.int .u8))) (hf : okF (frA x)) (hB : ∀ k ∈ blk s, k < B) (i : Nat) (u : Value) (hc : (stC s).setIfInBounds i u = stC { s with inn := s.inn ++ [x], cn := c }) :
    StOk room (w3.setCell ⟨s.box, i, none⟩ u) { s with inn := s.inn ++ [x], cn := c } ∧ Kp (mut1 (skel s)) w2 (w3.setCell ⟨s.box, i, none⟩ u) ∧ ∀ k ∈ blk { s with inn := s.inn ++ [x], cn := c }, k ∈ blk s ∨ B ≤ k := by
  obtain ⟨n1, n2, n3, n4, n5, n6, n7, n8⟩ := h.ne_
  obtain ⟨l0, l1, l2, l3, l4⟩ := h.lts
  have hbq : ¬ (s.box = s.qi ∨ s.box = s.ri) := fun h => h.elim n3 n4
  have hkw : Kp (mut1 (skel s)) w2 (w3.setCell ⟨s.box, i, none⟩ u) := by
    refine Kp.set (hk.mono fun k e => ?_) (.inl (.inl rfl)) u
    rcases e with rfl | rfl
    · exact .inr (.inr (.inl rfl))
    · exact .inr (.inr (.inr (.inr rfl)))
  have hb3 := hk.has h.box hbq
  have hblk : ∀ k, x.data.ownBlock = some k → B ≤ k := fun k hg => (ho.lt k hg).1
  have eblk : blk { s with inn := s.inn ++ [x], cn := c } = blk s ++ [x].filterMap (·.data.ownBlock) := List.filterMap_append
  have hin : ∀ k, k ∈ [x].filterMap (·.data.ownBlock) → x.data.ownBlock = some k := by
    intro k hk
    obtain ⟨y, hy, e⟩ := List.mem_filterMap.1 hk
    simp at hy
    subst hy
    exact e
  refine ⟨h.re hkw rfl rfl rfl ?_ ?_ ?_ (fun y hy => .inl hy) ?_ ?_, hkw, ?_⟩
  · exact has_to hb3 i u hc
  · refine ring_far (h.out.keep (hk.block _ l1 ?_) (hk.block _ l2 ?_)) n1.symm n2.symm u
    · exact fun e => e.elim h.hq n6
    · exact fun e => e.elim (fun e => n8 e.symm) h.hr
  · exact ring_far hr n3.symm n4.symm u
  · intro y hy
    rcases List.mem_append.1 hy with h1 | h1
    · exact .inl h1
    · simp at h1
      subst h1
      refine .inr ⟨own_base (own_at ho fun g hg => heap_setCell_other w3 _ g u ?_) (Nat.zero_le _), hf⟩
      intro e
      have h1 := own_ty ho hg
      have h2 := has_ty hb3
      rw [show g = s.box from e, h2] at h1
      exact absurd (Option.some.inj h1) (by decide)
  · rw [eblk]
    refine List.nodup_append.2 ⟨h.hb, ?_, ?_⟩
    · cases hx : x.data.ownBlock with
      | none => simp [hx]
      | some g => simp [hx]
    · intro a ha b hb e
      subst e
      have h1 := hB a ha
      have h2 := hblk a (hin a hb)
      omega
  · intro k hk
    rw [eblk] at hk
    rcases List.mem_append.1 hk with h1 | h1
    · exact .inl h1
    · exact .inr (hblk k (hin k h1))

set_option maxRecDepth 100000 in
set_option maxHeartbeats 1000000 in
theorem hear_bad {room : Nat} {w : World} {s : Stn} (h : StOk room w s) (x : Err) :
    Calls Try.prog 79 #[.pointer (some ⟨s.box, 0, none⟩), decW.noFrame, decW.errV x] w (Heard room w s (.error x)) := by
  obtain ⟨c0, c1, c2, c3, c4, c5, c6, c7, cf⟩ := h.cells
  have hlt := h.box.lt
  have hne : ¬ s.box = w.heap.size := by omega
  have H := Lib.hid h; clear h
  obtain ⟨k, o⟩ := x
  cases o
  all_goals
    unfold decW.errV decW.noFrame
    (try unfold unW.faultV)
    go_enter Try.func79, Try.ntmps79
    go_wp2
    go_end0
    have hb : Has ((w.setCell ⟨s.box, 6, none⟩ (.int .i64 (wrap64 (s.cn.damaged + 1)))).alloc (.cells #[.int .u32 0, .bool false, .slice none 0 0] 35)) s.box tS (stC { s with cn := { s.cn with damaged := inc s.cn.damaged } }) := (has_to H.out.box 6 _ rfl).alloc _
    obtain ⟨h1, h2⟩ := H.out.count (by exact (by repeat' (first | (with_reducible assumption) | (with_reducible exact Kp.refl _ _) | (with_reducible exact Kp.of_below _ (by assumption)) | (with_reducible refine Kp.drew ?_) | (with_reducible refine Kp.drewN ?_ _) | (with_reducible refine Kp.alloc ?_ _) | (with_reducible refine Kp.set ?_ ?_ _) | ((try simp); (try omega); done) | exact Kp.refl _ _ | assumption))) hb
    exact ⟨rfl, _, h1, rfl, rfl, h2, fun k hk => .inl hk⟩

set_option maxRecDepth 100000 in
set_option maxHeartbeats 2000000 in
theorem hear_good {room : Nat} {w : World} {s : Stn} (h : StOk room w s) (hr1 : 1 ≤ room) (hr : room ≤ 64) (f : F3) (hf : okF f) (v : Value) (hv : Sl w w.heap.size (Value.int .u8) v f.2.2) :
    Calls Try.prog 79 #[.pointer (some ⟨s.box, 0, none⟩), .agg #[.int .u32 f.1, .bool f.2.1, v], .nilIface] w (Heard room w s (.ok f)) := by
  obtain ⟨c0, c1, c2, c3, c4, c5, c6, c7, cf⟩ := h.cells
  obtain ⟨A, cap, rfl, hcap, hmax⟩ := hv.form
  unfold maxLen at hmax
  have hlt := h.box.lt
  have hne : ¬ s.box = w.heap.size := by omega
  have HV := Lib.hid hv; clear hv
  have HF := Lib.hid hf; clear hf
  obtain ⟨id, wide, bs⟩ := f
  dsimp only at HV HF ⊢
  have hbl : bs.length ≤ 8 := HF.out.2.2.1
  have HRL := Lib.hid h.ruled
  have hrs : ∃ A n c, s.rv = .slice A n c := by obtain ⟨A, c, e, _⟩ := h.ruled.form; exact ⟨A, _, c, e⟩
  obtain ⟨A3, n3, p3, hrv⟩ := hrs
  rw [hrv] at c2 HRL
  have HRV := Lib.hid hrv; clear hrv
  have H := Lib.hid h; clear h
  by_cases ht : takesL s.rules (id, wide, bs) = true
  case neg =>
    rw [Bool.not_eq_true] at ht
    have HT := Lib.hid ht; clear ht
    have HA : Hid (hearA room (.ok (id, wide, bs)) s.a = { s.a with cn := { s.cn with refused := inc s.cn.refused } }) := by
      unfold Hid hearA
      exact if_pos HT.out
    go_enter Try.func79, Try.ntmps79
    go_wp2
    have hX0 := Has.new w 35 #[.int .u32 id, .bool wide, .slice A bs.length cap]
    have hB0 : Below w.heap.size w (w.alloc (.cells #[.int .u32 id, .bool wide, .slice A bs.length cap] 35)) := (by repeat' (first | (with_reducible assumption) | (with_reducible refine Below.setCell ?_ ?_ _) | (with_reducible refine Below.alloc ?_ ?_ _) | (with_reducible refine Below.drew ?_) | (with_reducible refine below_drewN ?_ _) | (with_reducible exact Below.refl _ _) | (show _ ≤ _; (try simp); (try omega); done) | exact Below.refl _ _ | assumption))
    generalize w.alloc (.cells #[.int .u32 id, .bool wide, .slice A bs.length cap] 35) = W0 at hX0 hB0 ⊢
    have k0 : W0.cell? ⟨w.heap.size, 0, none⟩ = some (.int .u32 id) := (hX0.cell 0).trans rfl
    have k1 : W0.cell? ⟨w.heap.size, 1, none⟩ = some (.bool wide) := (hX0.cell 1).trans rfl
    have k2 : W0.cell? ⟨w.heap.size, 2, none⟩ = some (.slice A bs.length cap) := (hX0.cell 2).trans rfl
    have kb : W0.cell? ⟨s.box, 2, none⟩ = some (.slice A3 n3 p3) := (hB0.cell (p := ⟨s.box, 2, none⟩) hlt).trans c2
    have kz := hX0.lt
    go_region_held3 (fun W => W.cell? ⟨s.box, 2, none⟩ = some (.slice A3 n3 p3) ∧ W.cell? ⟨w.heap.size, 0, none⟩ = some (.int .u32 id) ∧ W.cell? ⟨w.heap.size, 1, none⟩ = some (.bool wide) ∧ W.cell? ⟨w.heap.size, 2, none⟩ = some (.slice A bs.length cap) ∧ w.heap.size < W.heap.size)
      (first | exact ⟨by exact kb, by exact k0, by exact k1, by exact k2, by exact kz⟩ | exact ⟨by assumption, by assumption, by assumption, by assumption, by assumption⟩)
      (first | (go_at_call 19; refine (takes_any _ s.rules (Old w.heap.size) _ _ _ bs _ (by intro b hb; exact Nat.lt_of_lt_of_le hb (by exact Nat.le_of_lt kz)) (by exact HRL.out.below ruleE_mono (by first | exact hB0.drew | exact hB0))).mono ?_; rintro e w1 ⟨rfl, hb1⟩; rw [HT.out]; (try go_split_ands); have q0 : w1.cell? ⟨w.heap.size, 0, none⟩ = some (.int .u32 id) := (hb1.cell (p := ⟨w.heap.size, 0, none⟩) (by exact kz)).trans (by exact k0); have q1 : w1.cell? ⟨w.heap.size, 1, none⟩ = some (.bool wide) := (hb1.cell (p := ⟨w.heap.size, 1, none⟩) (by exact kz)).trans (by exact k1); have q2 : w1.cell? ⟨w.heap.size, 2, none⟩ = some (.slice A bs.length cap) := (hb1.cell (p := ⟨w.heap.size, 2, none⟩) (by exact kz)).trans (by exact k2); have qb : w1.cell? ⟨s.box, 2, none⟩ = some (.slice A3 n3 p3) := (hb1.cell (p := ⟨s.box, 2, none⟩) (by exact Nat.lt_trans hlt kz)).trans (by exact kb); have qz : w.heap.size < w1.heap.size := Nat.lt_of_lt_of_le kz hb1.size; have hB1 : Below w.heap.size w w1 := Below.trans (by first | exact hB0.drew | exact hB0) (hb1.mono (Nat.le_of_lt kz))))
    have H1 := Lib.hid (H.out.below hB1)
    clear c0 c1 c2 c3 c4 c5 c6 c7 cf k0 k1 k2 kb
    obtain ⟨c0, c1, c2, c3, c4, c5, c6, c7, cf⟩ := H1.out.cells
    go_wp2
    go_end0
    refine ⟨rfl, { s with cn := { s.cn with refused := inc s.cn.refused } }, ?_, HA.out.symm, rfl, ?_, fun k hk => .inl hk⟩
    · exact (H1.out.count (by exact (by repeat' (first | (with_reducible assumption) | (with_reducible exact Kp.refl _ _) | (with_reducible exact Kp.of_below _ (by assumption)) | (with_reducible refine Kp.drew ?_) | (with_reducible refine Kp.drewN ?_ _) | (with_reducible refine Kp.alloc ?_ _) | (with_reducible refine Kp.set ?_ ?_ _) | ((try simp); (try omega); done) | exact Kp.refl _ _ | assumption))) (by exact has_to H1.out.box 5 _ rfl)).1
    · exact (Kp.of_below _ hB1).trans (H1.out.count (c := { s.cn with refused := inc s.cn.refused }) (by exact (by repeat' (first | (with_reducible assumption) | (with_reducible exact Kp.refl _ _) | (with_reducible exact Kp.of_below _ (by assumption)) | (with_reducible refine Kp.drew ?_) | (with_reducible refine Kp.drewN ?_ _) | (with_reducible refine Kp.alloc ?_ _) | (with_reducible refine Kp.set ?_ ?_ _) | ((try simp); (try omega); done) | exact Kp.refl _ _ | assumption))) (by exact has_to H1.out.box 5 _ rfl)).2
  case pos =>
    have HT := Lib.hid ht; clear ht
    go_enter Try.func79, Try.ntmps79
    go_wp2
    have hX0 := Has.new w 35 #[.int .u32 id, .bool wide, .slice A bs.length cap]
    have hB0 : Below w.heap.size w (w.alloc (.cells #[.int .u32 id, .bool wide, .slice A bs.length cap] 35)) := (by repeat' (first | (with_reducible assumption) | (with_reducible refine Below.setCell ?_ ?_ _) | (with_reducible refine Below.alloc ?_ ?_ _) | (with_reducible refine Below.drew ?_) | (with_reducible refine below_drewN ?_ _) | (with_reducible exact Below.refl _ _) | (show _ ≤ _; (try simp); (try omega); done) | exact Below.refl _ _ | assumption))
    generalize w.alloc (.cells #[.int .u32 id, .bool wide, .slice A bs.length cap] 35) = W0 at hX0 hB0 ⊢
    have k0 : W0.cell? ⟨w.heap.size, 0, none⟩ = some (.int .u32 id) := (hX0.cell 0).trans rfl
    have k1 : W0.cell? ⟨w.heap.size, 1, none⟩ = some (.bool wide) := (hX0.cell 1).trans rfl
    have k2 : W0.cell? ⟨w.heap.size, 2, none⟩ = some (.slice A bs.length cap) := (hX0.cell 2).trans rfl
    have kb : W0.cell? ⟨s.box, 2, none⟩ = some (.slice A3 n3 p3) := (hB0.cell (p := ⟨s.box, 2, none⟩) hlt).trans c2
    have kz := hX0.lt
    go_region_held3 (fun W => W.cell? ⟨s.box, 2, none⟩ = some (.slice A3 n3 p3) ∧ W.cell? ⟨w.heap.size, 0, none⟩ = some (.int .u32 id) ∧ W.cell? ⟨w.heap.size, 1, none⟩ = some (.bool wide) ∧ W.cell? ⟨w.heap.size, 2, none⟩ = some (.slice A bs.length cap) ∧ w.heap.size < W.heap.size)
      (first | exact ⟨by exact kb, by exact k0, by exact k1, by exact k2, by exact kz⟩ | exact ⟨by assumption, by assumption, by assumption, by assumption, by assumption⟩)
      (first | (go_at_call 19; refine (takes_any _ s.rules (Old w.heap.size) _ _ _ bs _ (by intro b hb; exact Nat.lt_of_lt_of_le hb (by exact Nat.le_of_lt kz)) (by exact HRL.out.below ruleE_mono (by first | exact hB0.drew | exact hB0))).mono ?_; rintro e w1 ⟨rfl, hb1⟩; rw [HT.out]; (try go_split_ands); have q0 : w1.cell? ⟨w.heap.size, 0, none⟩ = some (.int .u32 id) := (hb1.cell (p := ⟨w.heap.size, 0, none⟩) (by exact kz)).trans (by exact k0); have q1 : w1.cell? ⟨w.heap.size, 1, none⟩ = some (.bool wide) := (hb1.cell (p := ⟨w.heap.size, 1, none⟩) (by exact kz)).trans (by exact k1); have q2 : w1.cell? ⟨w.heap.size, 2, none⟩ = some (.slice A bs.length cap) := (hb1.cell (p := ⟨w.heap.size, 2, none⟩) (by exact kz)).trans (by exact k2); have qb : w1.cell? ⟨s.box, 2, none⟩ = some (.slice A3 n3 p3) := (hb1.cell (p := ⟨s.box, 2, none⟩) (by exact Nat.lt_trans hlt kz)).trans (by exact kb); have qz : w.heap.size < w1.heap.size := Nat.lt_of_lt_of_le kz hb1.size; have hB1 : Below w.heap.size w w1 := Below.trans (by first | exact hB0.drew | exact hB0) (hb1.mono (Nat.le_of_lt kz))))
    have H1 := Lib.hid (H.out.below hB1)
    clear c0 c1 c2 c3 c4 c5 c6 c7 cf k0 k1 k2 kb
    obtain ⟨c0, c1, c2, c3, c4, c5, c6, c7, cf⟩ := H1.out.cells
    go_wp2
    by_cases hfull : s.inn.length = room
    · have HA : Hid (hearA room (.ok (id, wide, bs)) s.a = { s.a with cn := { s.cn with dropped := inc s.cn.dropped } }) := by
        unfold Hid hearA
        refine (if_neg (by rw [show s.a.rules = s.rules from rfl, HT.out]; simp)).trans (if_pos ?_)
        show (s.inn.map frA).length = room
        rw [List.length_map, hfull]
      have HN := Lib.hid hfull; clear hfull
      go_region_held3 (fun W => W.cell? ⟨s.box, 1, none⟩ = some (.pointer (some ⟨s.qi, 0, none⟩)) ∧ W.cell? ⟨w.heap.size, 0, none⟩ = some (.int .u32 id) ∧ W.cell? ⟨w.heap.size, 1, none⟩ = some (.bool wide) ∧ W.cell? ⟨w.heap.size, 2, none⟩ = some (.slice A bs.length cap) ∧ w.heap.size < W.heap.size)
        (first | exact ⟨by exact c1, by exact q0, by exact q1, by exact q2, by exact qz⟩ | exact ⟨by assumption, by assumption, by assumption, by assumption, by assumption⟩)
        (first | (go_at_call 29; refine (own_any _ _ _ bs _ (by exact HV.out.at_below (by first | exact hB1.drew | exact hB1)) (by omega)).mono ?_; rintro e w2 ⟨v2, rfl, hown2, hb2⟩; obtain ⟨A2, p2, rfl⟩ := decW.own_slice hown2; have HO2 := Lib.hid hown2; clear hown2; (try go_split_ands); have y0 : w2.cell? ⟨w.heap.size, 0, none⟩ = some (.int .u32 id) := (hb2.cell (p := ⟨w.heap.size, 0, none⟩) (by exact qz)).trans (by exact q0); have y1 : w2.cell? ⟨w.heap.size, 1, none⟩ = some (.bool wide) := (hb2.cell (p := ⟨w.heap.size, 1, none⟩) (by exact qz)).trans (by exact q1); have y2 : w2.cell? ⟨w.heap.size, 2, none⟩ = some (.slice A bs.length cap) := (hb2.cell (p := ⟨w.heap.size, 2, none⟩) (by exact qz)).trans (by exact q2); have yb : w2.cell? ⟨s.box, 1, none⟩ = some (.pointer (some ⟨s.qi, 0, none⟩)) := (hb2.cell (p := ⟨s.box, 1, none⟩) (by exact Nat.lt_trans hlt qz)).trans (by exact c1); have yz : w.heap.size < w2.heap.size := Nat.lt_of_lt_of_le qz hb2.size; have hB2 : Below w.heap.size w w2 := Below.trans (by first | exact hB1.drew | exact hB1) (hb2.mono (Nat.le_of_lt qz)); have H2 := Lib.hid (H.out.below hB2)) | (go_at_call 28; refine (push_full (by exact H2.out.inn) ⟨id, wide, _, bs⟩ HN.out).mono ?_; rintro e w3 ⟨rfl, hb3⟩; (try go_split_ands); have z0 : w3.cell? ⟨w.heap.size, 0, none⟩ = some (.int .u32 id) := (hb3.cell (p := ⟨w.heap.size, 0, none⟩) (by exact yz)).trans (by exact y0); have z1 : w3.cell? ⟨w.heap.size, 1, none⟩ = some (.bool wide) := (hb3.cell (p := ⟨w.heap.size, 1, none⟩) (by exact yz)).trans (by exact y1); have z2 : w3.cell? ⟨w.heap.size, 2, none⟩ = some (.slice A bs.length cap) := (hb3.cell (p := ⟨w.heap.size, 2, none⟩) (by exact yz)).trans (by exact y2); have zb : w3.cell? ⟨s.box, 1, none⟩ = some (.pointer (some ⟨s.qi, 0, none⟩)) := (hb3.cell (p := ⟨s.box, 1, none⟩) (by exact Nat.lt_trans hlt yz)).trans (by exact yb); have zz : w.heap.size < w3.heap.size := Nat.lt_of_lt_of_le yz hb3.size; have hB3 : Below w.heap.size w w3 := Below.trans (by first | exact hB2 | exact hB2.drew) (hb3.mono (Nat.le_of_lt yz))))
      have H3 := H.out.below hB3
      have cc : w3.cell? ⟨s.box, 7, none⟩ = some (.int .i64 s.cn.dropped) := (H3.box.cell 7).trans rfl
      have cf3 := fun i => H3.box.frozen i
      have HH3 := Lib.hid H3
      clear H3
      go_wp2
      go_end0
      refine ⟨rfl, { s with cn := { s.cn with dropped := inc s.cn.dropped } }, ?_, HA.out.symm, rfl, ?_, fun k hk => .inl hk⟩
      · exact (HH3.out.count (by exact (by repeat' (first | (with_reducible assumption) | (with_reducible exact Kp.refl _ _) | (with_reducible exact Kp.of_below _ (by assumption)) | (with_reducible refine Kp.drew ?_) | (with_reducible refine Kp.drewN ?_ _) | (with_reducible refine Kp.alloc ?_ _) | (with_reducible refine Kp.set ?_ ?_ _) | ((try simp); (try omega); done) | exact Kp.refl _ _ | assumption))) (by exact has_to HH3.out.box 7 _ rfl)).1
      · exact (Kp.of_below _ hB3).trans (HH3.out.count (c := { s.cn with dropped := inc s.cn.dropped }) (by exact (by repeat' (first | (with_reducible assumption) | (with_reducible exact Kp.refl _ _) | (with_reducible exact Kp.of_below _ (by assumption)) | (with_reducible refine Kp.drew ?_) | (with_reducible refine Kp.drewN ?_ _) | (with_reducible refine Kp.alloc ?_ _) | (with_reducible refine Kp.set ?_ ?_ _) | ((try simp); (try omega); done) | exact Kp.refl _ _ | assumption))) (by exact has_to HH3.out.box 7 _ rfl)).2
    · have HA : Hid (hearA room (.ok (id, wide, bs)) s.a = { s.a with inn := s.inn.map frA ++ [(id, wide, bs)], cn := { s.cn with taken := inc s.cn.taken } }) := by
        unfold Hid hearA
        refine (if_neg (by rw [show s.a.rules = s.rules from rfl, HT.out]; simp)).trans (if_neg ?_)
        show ¬ (s.inn.map frA).length = room
        rw [List.length_map]
        exact hfull
      have HN : Hid (s.inn.length < room) := Nat.lt_of_le_of_ne H.out.inn.hlen hfull
      clear hfull
      obtain ⟨n1, n2, n3, n4, n5, n6, n7, n8⟩ := H.out.ne_
      obtain ⟨-, l1, l2, l3, l4⟩ := H.out.lts
      have hsq : ¬ (w.heap.size = s.qi ∨ w.heap.size = s.ri) := by omega
      have hbq : ¬ (s.box = s.qi ∨ s.box = s.ri) := fun h => h.elim n3 n4
      go_region_held3 (fun W => W.cell? ⟨s.box, 1, none⟩ = some (.pointer (some ⟨s.qi, 0, none⟩)) ∧ W.cell? ⟨w.heap.size, 0, none⟩ = some (.int .u32 id) ∧ W.cell? ⟨w.heap.size, 1, none⟩ = some (.bool wide) ∧ W.cell? ⟨w.heap.size, 2, none⟩ = some (.slice A bs.length cap) ∧ w.heap.size < W.heap.size)
        (first | exact ⟨by exact c1, by exact q0, by exact q1, by exact q2, by exact qz⟩ | exact ⟨by assumption, by assumption, by assumption, by assumption, by assumption⟩)
        (first | (go_at_call 29; refine (own_any _ _ _ bs _ (by exact HV.out.at_below (by first | exact hB1.drew | exact hB1)) (by omega)).mono ?_; rintro e w2 ⟨v2, rfl, hown2, hb2⟩; obtain ⟨A2, p2, rfl⟩ := decW.own_slice hown2; have HO2 := Lib.hid hown2; clear hown2; (try go_split_ands); have y0 : w2.cell? ⟨w.heap.size, 0, none⟩ = some (.int .u32 id) := (hb2.cell (p := ⟨w.heap.size, 0, none⟩) (by exact qz)).trans (by exact q0); have y1 : w2.cell? ⟨w.heap.size, 1, none⟩ = some (.bool wide) := (hb2.cell (p := ⟨w.heap.size, 1, none⟩) (by exact qz)).trans (by exact q1); have y2 : w2.cell? ⟨w.heap.size, 2, none⟩ = some (.slice A bs.length cap) := (hb2.cell (p := ⟨w.heap.size, 2, none⟩) (by exact qz)).trans (by exact q2); have yb : w2.cell? ⟨s.box, 1, none⟩ = some (.pointer (some ⟨s.qi, 0, none⟩)) := (hb2.cell (p := ⟨s.box, 1, none⟩) (by exact Nat.lt_trans hlt qz)).trans (by exact c1); have yz : w.heap.size < w2.heap.size := Nat.lt_of_lt_of_le qz hb2.size; have hB2 : Below w.heap.size w w2 := Below.trans (by first | exact hB1.drew | exact hB1) (hb2.mono (Nat.le_of_lt qz)); have H2 := Lib.hid (H.out.below hB2)) | (go_at_call 28; refine (push_ok (by exact H2.out.inn) ⟨id, wide, .slice A2 bs.length p2, bs⟩ HN.out hr ⟨_, _, _, rfl⟩).mono ?_; rintro e w3 ⟨rfl, hring3, hkp3⟩; (try go_split_ands); have z0 : w3.cell? ⟨w.heap.size, 0, none⟩ = some (.int .u32 id) := (hkp3.at_ (by exact yz) hsq 0).trans (by exact y0); have z1 : w3.cell? ⟨w.heap.size, 1, none⟩ = some (.bool wide) := (hkp3.at_ (by exact yz) hsq 1).trans (by exact y1); have z2 : w3.cell? ⟨w.heap.size, 2, none⟩ = some (.slice A bs.length cap) := (hkp3.at_ (by exact yz) hsq 2).trans (by exact y2); have zb : w3.cell? ⟨s.box, 1, none⟩ = some (.pointer (some ⟨s.qi, 0, none⟩)) := (hkp3.at_ (by exact Nat.lt_trans hlt yz) hbq 1).trans (by exact yb); have zz : w.heap.size < w3.heap.size := Nat.lt_of_lt_of_le yz hkp3.size))
      have HB3 := Lib.hid (hkp3.has H2.out.box hbq)
      have cc : w3.cell? ⟨s.box, 4, none⟩ = some (.int .i64 s.cn.taken) := (HB3.out.cell 4).trans rfl
      have cf3 := fun i => HB3.out.frozen i
      have HR3 := Lib.hid hring3
      have HK3 := Lib.hid hkp3
      have hO3 : w3.ownsRow w.heap.size tU 1 (.slice A2 bs.length p2) bs.length (bs.map (Value.int .u8)) := by
        refine own_base (base := _) (own_at HO2.out fun g hg => hkp3.block g (ty_lt (own_ty HO2.out hg)) fun e => ?_) (Nat.le_of_lt (by exact qz))
        have hy := own_ty HO2.out hg
        rcases e with e | e
        · rw [e, (ring_ty H2.out.inn).1] at hy; exact absurd (Option.some.inj hy) (by decide)
        · rw [e, (ring_ty H2.out.inn).2] at hy; exact absurd (Option.some.inj hy) (by decide)
      have HO3 := Lib.hid hO3
      clear hring3 hkp3 hO3
      go_wp2
      go_end0
      obtain ⟨t1, t2, t3⟩ := H2.out.taken_ (x := ⟨id, wide, .slice A2 bs.length p2, bs⟩) (c := { s.cn with taken := inc s.cn.taken }) HR3.out HK3.out HO3.out HF.out (fun k hk => H.out.blk_lt hk) 4 (.int .i64 (wrap64 (s.cn.taken + 1))) rfl
      refine ⟨rfl, { s with inn := s.inn ++ [⟨id, wide, .slice A2 bs.length p2, bs⟩], cn := { s.cn with taken := inc s.cn.taken } }, t1, ?_, rfl, (Kp.of_below _ hB2).trans t2, t3⟩
      refine Eq.trans ?_ HA.out.symm
      simp [Stn.a, frA]
theorem hear_any {room : Nat} {w : World} {s : Stn} (h : StOk room w s) (hr1 : 1 ≤ room) (hr : room ≤ 64) (r : FrOut) (fv ev : Value) (hc : Came w r fv ev) :
    Calls Try.prog 79 #[.pointer (some ⟨s.box, 0, none⟩), fv, ev] w (Heard room w s r) := by
  cases r with
  | error x =>
    obtain ⟨rfl, rfl⟩ := hc
    exact hear_bad h x
  | ok f =>
    obtain ⟨rfl, hf, v, rfl, hv⟩ := hc
    exact hear_good h hr1 hr f hf v (Sl.of_own hv)
end busM
end Go.Proofs.Ytomkgnlooheibaa
