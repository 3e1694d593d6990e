/- Texts of this claim, one behind the other. No condition but those that each states. -/
import Derived.Test.YtomkgnlooheibaaBusGoes
import Derived.Deep.RegionHeld3
import Derived.Deep.AppendLies
import Derived.Deep.RegionLaw
import Derived.Laws.AppendOwnNone
import Derived.Test.YtomkgnlooheibaaSame

namespace Go.Proofs.Ytomkgnlooheibaa
open Go.RowKit Go.Bus Go.Bus.ringK Go.Bus.ring3K Go.Bus.busK Go.Bus.cellK Go.Bus.decK Go.Bus.bitK
set_option linter.unusedVariables false
set_option linter.unusedSimpArgs false
namespace busM
open qframe
set_option maxRecDepth 100000 in
set_option maxHeartbeats 1000000 in
theorem enc_bad (id : Int) (wide : Bool) (A : Option Addr) (n c : Nat) (k : Int) (w : World) (hk : k = 26 ∨ k = 15)
    (hB : ∀ W, Calls Try.prog 35 #[.agg #[.int .u32 id, .bool wide, .slice A n c]] W fun e w' => e = .returned (.tuple #[.slice none 0 0, .iface 70 (.int .i64 k)]) ∧ Below W.heap.size W w') :
    Calls Try.prog 17 #[.agg #[.int .u32 id, .bool wide, .slice A n c]] w fun e w' => e = .returned (.tuple #[.slice none 0 0, .iface 70 (.int .i64 k)]) ∧ Below w.heap.size w w' := by
  have HB := Lib.hid hB; clear hB
  rcases hk with rfl | rfl
  all_goals
    go_enter Try.func17, Try.ntmps17
    go_wp2_with fail
    refine (HB.out _).mono ?_
    rintro e w1 ⟨rfl, hb_w1⟩
    have hB1 := Lib.hid (Below.trans (b := _) ((by repeat' (first | (with_reducible assumption) | (with_reducible refine Below.setCell ?_ ?_ _) | (with_reducible refine Below.alloc ?_ ?_ _) | (with_reducible refine Below.drew ?_) | (with_reducible refine below_drewN ?_ _) | (with_reducible exact Below.refl _ _) | (show _ ≤ _; (try simp); (try omega); done) | exact Below.refl _ _ | assumption)) : Below w.heap.size w _) (hb_w1.mono (by (try simp); (try omega))))
    clear hb_w1
    go_wp2
    go_ret2
    exact ⟨rfl, hB1.out⟩
/-- Encode's error, as it lies. -/
def encE (f : F3) : Value := if frNo f = 0 then .nilIface else .iface 70 (.int .i64 (frNo f))
theorem enc_any (id : Int) (wide : Bool) (v : Value) (l : List Int) (w : World) (hv : Sl w w.heap.size (Value.int .u8) v l) (h0 : 0 ≤ id) (hb : ∀ x ∈ l, 0 ≤ x ∧ x < 256) :
    Calls Try.prog 17 #[.agg #[.int .u32 id, .bool wide, v]] w fun e w' => ∃ A n c, e = .returned (.tuple #[.slice A n c, encE (id, wide, l)]) ∧ Below w.heap.size w w' := by
  by_cases h : frNo (id, wide, l) = 0
  · have hok := frNo_ok h h0 hb
    refine (wireW.encode_ok id wide v l w hv h0 (okF_max hok).1 (okF_max hok).2 hok.2.2.1 hb).mono ?_
    rintro e w' ⟨v', rfl, ho, hbl⟩
    obtain ⟨A, c, rfl⟩ := decW.own_slice ho
    exact ⟨A, _, c, by rw [encE, if_pos h], hbl⟩
  · obtain ⟨A, c, rfl, _, _⟩ := hv.form
    have hk : frNo (id, wide, l) = 26 ∨ frNo (id, wide, l) = 15 := by
      rcases frNo_bad h with h1 | h1
      · exact .inl h1.1
      · exact .inr h1.1
    refine (enc_bad id wide A l.length c _ w hk fun W => ?_).mono ?_
    · rcases frNo_bad h with h1 | h1
      · rw [h1.1]; exact bitsW.bits_id id wide _ W h1.2 ⟨_, _, _, rfl⟩
      · rw [h1.1]; exact bitsW.bits_size id wide A l.length c W h1.2.1 h1.2.2.1 h1.2.2.2
    · rintro e w' ⟨rfl, hbl⟩
      exact ⟨_, _, _, by rw [encE, if_neg h], hbl⟩

set_option maxRecDepth 100000 in
set_option maxHeartbeats 1000000 in
theorem there_any {room b : Nat} {w : World} {B : BusS} (h : BusAt room w b B) (n : Int) :
    Calls Try.prog 27 #[.pointer (some ⟨b, 0, none⟩), .int .i64 n] w fun e w' => e = .returned (.bool (decide (0 ≤ n) && decide (n < (B.S.length : Int)))) ∧ w = w' := by
  obtain ⟨g, c, hsv, hgc, hcm, hgl, hslot⟩ := h.slot
  have b0 : w.cell? ⟨b, 0, none⟩ = some (.slice (some ⟨g, 0, none⟩) B.S.length c) := by rw [← hsv]; exact (h.box.cell 0).trans rfl
  clear h hslot hsv
  obtain ⟨m, hm⟩ : ∃ m, m = B.S.length := ⟨_, rfl⟩
  rw [← hm] at b0 ⊢
  clear hm
  by_cases h0 : 0 ≤ n
  · have t0 : decide (0 ≤ n) = true := decide_eq_true h0
    rw [t0, Bool.true_and]
    go_enter Try.func27, Try.ntmps27
    go_wp2
    go_ret
    exact ⟨rfl, rfl⟩
  · have t0 : decide (0 ≤ n) = false := decide_eq_false h0
    rw [t0, Bool.false_and]
    go_enter Try.func27, Try.ntmps27
    go_wp2
    go_ret
    exact ⟨rfl, rfl⟩
def errNo (k : Int) : Value := if k = 0 then .nilIface else .iface 70 (.int .i64 k)
def SendPost (room : Nat) (w : World) (b : Nat) (B : BusS) (o : Int × List ASt) (e : Ending) (w' : World) : Prop :=
  e = .returned (errNo o.1) ∧ ∃ S', BusAt room w' b { B with S := S' } ∧ Mv w B.S w' S' ∧ S'.map Stn.a = o.2

set_option maxRecDepth 100000 in
set_option maxHeartbeats 1000000 in
theorem send_none {room b : Nat} {w : World} {B : BusS} (h : BusAt room w b B) (n : Int) (id : Int) (wide : Bool) (A : Option Addr) (m c : Nat) (hn : ¬ (0 ≤ n ∧ n < (B.S.length : Int))) :
    Calls Try.prog 10 #[.pointer (some ⟨b, 0, none⟩), .int .i64 n, .agg #[.int .u32 id, .bool wide, .slice A m c]] w fun e w' => e = .returned (errNo 1) ∧ Below w.heap.size w w' := by
  have hd : (decide (0 ≤ n) && decide (n < (B.S.length : Int))) = false := by
    by_cases h0 : 0 ≤ n
    · have h1 : ¬ n < (B.S.length : Int) := fun h => hn ⟨h0, h⟩
      simp [h1]
    · simp [h0]
  have HD := Lib.hid hd
  have H := Lib.hid h
  clear h hn hd
  go_enter Try.func10, Try.ntmps10
  go_wp2_with fail
  refine (there_any (H.out.below (by repeat' (first | (with_reducible assumption) | (with_reducible refine Below.setCell ?_ ?_ _) | (with_reducible refine Below.alloc ?_ ?_ _) | (with_reducible refine Below.drew ?_) | (with_reducible refine below_drewN ?_ _) | (with_reducible exact Below.refl _ _) | (show _ ≤ _; (try simp); (try omega); done) | exact Below.refl _ _ | assumption))) n).mono ?_
  rintro e w1 ⟨rfl, rfl⟩
  rw [HD.out]
  go_wp2
  go_ret
  exact ⟨rfl, (by repeat' (first | (with_reducible assumption) | (with_reducible refine Below.setCell ?_ ?_ _) | (with_reducible refine Below.alloc ?_ ?_ _) | (with_reducible refine Below.drew ?_) | (with_reducible refine below_drewN ?_ _) | (with_reducible exact Below.refl _ _) | (show _ ≤ _; (try simp); (try omega); done) | exact Below.refl _ _ | assumption))⟩
/-- A frame of its own behind the row of what waits. -/
theorem StOk.sent_ {room : Nat} {w2 w3 : World} {s : Stn} {x : Fr} (h : StOk room w2 s) (hr : RingF w3 s.qo s.ro room s.fo (s.out ++ [x])) (hk : Kp (fun k => k = s.qo ∨ k = s.ro) w2 w3) (ho : FrOk w3 x) :
    StOk room w3 { s with out := s.out ++ [x] } ∧ Kp (mut1 (skel s)) w2 w3 := by
  obtain ⟨n1, n2, n3, n4, n5, n6, n7, n8⟩ := h.ne_
  obtain ⟨l0, l1, l2, l3, l4⟩ := h.lts
  have hkw : Kp (mut1 (skel s)) w2 w3 := hk.mono fun k e => by
    rcases e with rfl | rfl
    · exact .inr (.inl rfl)
    · exact .inr (.inr (.inr (.inl rfl)))
  refine ⟨h.re hkw rfl rfl rfl (hk.has h.box (fun e => e.elim n1 n2)) hr (h.inn.keep (hk.block _ l3 ?_) (hk.block _ l4 ?_)) ?_ (fun y hy => .inl hy) h.hb, hkw⟩
  · exact fun e => e.elim (fun e => h.hq e.symm) n8
  · exact fun e => e.elim (fun e => n6 e.symm) (fun e => h.hr e.symm)
  · intro y hy
    rcases List.mem_append.1 hy with h1 | h1
    · exact .inl h1
    · simp at h1; subst h1; exact .inr ho
theorem sendA_at {room : Nat} {A : List ASt} {k : Nat} {s : ASt} {f : F3} (hs : A[k]? = some s) : sendA room A (k : Int) f = if frNo f ≠ 0 then (frNo f, A) else if s.out.length = room then (24, A) else (0, A.set k { s with out := s.out ++ [f] }) := by
  unfold sendA
  rw [if_neg (by omega), Int.toNat_natCast, hs]

set_option maxRecDepth 100000 in
set_option maxHeartbeats 4000000 in
theorem send_at {room b : Nat} {w : World} {B : BusS} (h : BusAt room w b B) (k : Nat) (s : Stn) (hs : B.S[k]? = some s) (id : Int) (wide : Bool) (v : Value) (bs : List Int) (hv : Sl w w.heap.size (Value.int .u8) v bs) (h0 : 0 ≤ id) (hb : ∀ x ∈ bs, 0 ≤ x ∧ x < 256) (hbl8 : bs.length ≤ 140737488355328) :
    Calls Try.prog 10 #[.pointer (some ⟨b, 0, none⟩), .int .i64 (k : Int), .agg #[.int .u32 id, .bool wide, v]] w (SendPost room w b B (sendA room (B.S.map Stn.a) (k : Int) (id, wide, bs))) := by
  obtain ⟨g, c, hsv, hgc, hcm, hgl, hslot⟩ := h.slot
  have b0 : w.cell? ⟨b, 0, none⟩ = some (.slice (some ⟨g, 0, none⟩) B.S.length c) := by rw [← hsv]; exact (h.box.cell 0).trans rfl
  have q0 := hslot k s hs
  have hbl := h.box.lt
  have hnn := h.n
  obtain ⟨hra, hrb⟩ := h.room
  have hso := h.sts.all k s hs
  have hk : k < B.S.length := (List.getElem?_eq_some_iff.1 hs).1
  have hbox := hso.box.lt
  have o0 : w.cell? ⟨s.box, 0, none⟩ = some (.pointer (some ⟨s.qo, 0, none⟩)) := (hso.box.cell 0).trans rfl
  obtain ⟨A, cap, rfl, hcap, hmax⟩ := hv.form
  unfold maxLen at hmax
  have hsa : (B.S.map Stn.a)[k]? = some s.a := by rw [List.getElem?_map, hs]; rfl
  obtain ⟨o, ho⟩ : ∃ o, o = sendA room (B.S.map Stn.a) (k : Int) (id, wide, bs) := ⟨_, rfl⟩
  rw [← ho]
  rw [sendA_at hsa] at ho
  have HO := Lib.hid ho
  clear ho
  have HD : Hid ((decide (0 ≤ (k : Int)) && decide ((k : Int) < (B.S.length : Int))) = true) := by unfold Hid; simp; omega
  have HENC : Hid (∀ W, Below w.heap.size w W → Calls Try.prog 17 #[.agg #[.int .u32 id, .bool wide, .slice A bs.length cap]] W fun e w' => ∃ A n c, e = .returned (.tuple #[.slice A n c, encE (id, wide, bs)]) ∧ Below W.heap.size W w') := fun W hW => enc_any id wide _ bs W (hv.at_below hW) h0 hb
  have HOKF : Hid (frNo (id, wide, bs) = 0 → okF (id, wide, bs)) := fun h => frNo_ok h h0 hb
  have nt : ∀ (j : Nat) (t : TypeId), tyAt w j = some t → t ≠ tQ → t ≠ tF → ¬ (j = s.qo ∨ j = s.ro) := by
    intro j t h1 h2 h3 hk
    rcases hk with rfl | rfl
    · rw [(ring_ty hso.out).1] at h1; exact h2 (Option.some.inj h1).symm
    · rw [(ring_ty hso.out).2] at h1; exact h3 (Option.some.inj h1).symm
  have nb := nt b _ (has_ty h.box) (by decide) (by decide)
  have nbox := nt s.box _ (has_ty hso.box) (by decide) (by decide)
  have ng := nt g _ (own_ty h.row (by rw [hsv]; rfl)) (by decide) (by decide)
  have nw : ¬ (w.heap.size = s.qo ∨ w.heap.size = s.ro) := by have := hso.lts; omega
  have HV := Lib.hid hv
  have HSO := Lib.hid hso
  have HS := Lib.hid hs
  have H := Lib.hid h
  clear h hs hso hslot hsv hv hb hsa nt h0
  obtain ⟨n, hn⟩ : ∃ n, n = B.S.length := ⟨_, rfl⟩
  rw [← hn] at b0 hgc hnn hk HD
  have HN0 := Lib.hid hn; clear hn
  go_enter Try.func10, Try.ntmps10
  go_wp2_with fail
  refine (there_any (H.out.below (by repeat' (first | (with_reducible assumption) | (with_reducible refine Below.setCell ?_ ?_ _) | (with_reducible refine Below.alloc ?_ ?_ _) | (with_reducible refine Below.drew ?_) | (with_reducible refine below_drewN ?_ _) | (with_reducible exact Below.refl _ _) | (show _ ≤ _; (try simp); (try omega); done) | exact Below.refl _ _ | assumption))) (k : Int)).mono ?_
  rintro e w1 ⟨rfl, rfl⟩
  rw [← HN0.out, HD.out]
  go_wp2_with fail
  refine (HENC.out _ (by exact (by repeat' (first | (with_reducible assumption) | (with_reducible refine Below.setCell ?_ ?_ _) | (with_reducible refine Below.alloc ?_ ?_ _) | (with_reducible refine Below.drew ?_) | (with_reducible refine below_drewN ?_ _) | (with_reducible exact Below.refl _ _) | (show _ ≤ _; (try simp); (try omega); done) | exact Below.refl _ _ | assumption)))).mono ?_
  rintro e w1 ⟨A4, n4, c4, rfl, hb1⟩
  have hb1' := hb1.mono (B := (w.alloc (.cells #[.int .u32 id, .bool wide, .slice A bs.length cap] 35)).heap.size) (B' := w.heap.size) (by simp)
  have HB1 := Lib.hid (show Below w.heap.size w w1 from Below.trans (b := _) (by repeat' (first | (with_reducible assumption) | (with_reducible refine Below.setCell ?_ ?_ _) | (with_reducible refine Below.alloc ?_ ?_ _) | (with_reducible refine Below.drew ?_) | (with_reducible refine below_drewN ?_ _) | (with_reducible exact Below.refl _ _) | (show _ ≤ _; (try simp); (try omega); done) | exact Below.refl _ _ | assumption)) hb1')
  have hX := (Has.new w 35 #[.int .u32 id, .bool wide, .slice A bs.length cap]).below hb1 (by simp)
  have lt1 := hX.lt
  have b1 : w1.cell? ⟨b, 0, none⟩ = some (.slice (some ⟨g, 0, none⟩) n c) := (HB1.out.cell (p := ⟨b, 0, none⟩) hbl).trans b0
  have q1 : w1.cell? ⟨g, k, none⟩ = some (.pointer (some ⟨s.box, 0, none⟩)) := (HB1.out.cell (p := ⟨g, k, none⟩) hgl).trans q0
  have o1 : w1.cell? ⟨s.box, 0, none⟩ = some (.pointer (some ⟨s.qo, 0, none⟩)) := (HB1.out.cell (p := ⟨s.box, 0, none⟩) hbox).trans o0
  have x1 : w1.cell? ⟨w.heap.size, 0, none⟩ = some (.int .u32 id) := (hX.cell 0).trans rfl
  have y1 : w1.cell? ⟨w.heap.size, 1, none⟩ = some (.bool wide) := (hX.cell 1).trans rfl
  have z1 : w1.cell? ⟨w.heap.size, 2, none⟩ = some (.slice A bs.length cap) := (hX.cell 2).trans rfl
  clear hX hb1 hb1' b0 q0 o0
  unfold encE
  by_cases hno : frNo (id, wide, bs) = 0
  case neg =>
    have HNO := Lib.hid hno
    rw [if_neg hno]
    have HPO : Hid (o = (frNo (id, wide, bs), B.S.map Stn.a)) := HO.out.trans (if_pos hno)
    clear hno
    go_wp2
    go_ret
    rw [HPO.out]
    exact ⟨by rw [errNo, if_neg HNO.out]; rfl, B.S, H.out.below HB1.out, Mv.below HB1.out, rfl⟩
  case pos =>
    have HNO := Lib.hid hno
    rw [if_pos hno]
    have HO2 := Lib.hid (HO.out.trans (if_neg (show ¬ frNo (id, wide, bs) ≠ 0 from fun h => h hno)))
    clear hno
    go_wp2
    by_cases hfull : s.out.length = room
    case pos =>
      have HN := Lib.hid hfull
      have HPO := Lib.hid (HO2.out.trans (if_pos (show s.a.out.length = room by show (s.out.map frA).length = room; rw [List.length_map, hfull])))
      clear hfull
      go_region_held3 (fun W => W.cell? ⟨b, 0, none⟩ = some (.slice (some ⟨g, 0, none⟩) n c) ∧ W.cell? ⟨g, k, none⟩ = some (.pointer (some ⟨s.box, 0, none⟩)) ∧ W.cell? ⟨s.box, 0, none⟩ = some (.pointer (some ⟨s.qo, 0, none⟩)) ∧ W.cell? ⟨w.heap.size, 0, none⟩ = some (.int .u32 id) ∧ W.cell? ⟨w.heap.size, 1, none⟩ = some (.bool wide) ∧ W.cell? ⟨w.heap.size, 2, none⟩ = some (.slice A bs.length cap) ∧ w.heap.size < W.heap.size)
        (first | exact ⟨by exact b1, by exact q1, by exact o1, by exact x1, by exact y1, by exact z1, by exact lt1⟩ | exact ⟨by assumption, by assumption, by assumption, by assumption, by assumption, by assumption, by assumption⟩)
        (first | (go_at_call 29; refine (own_any _ _ _ bs _ (by exact HV.out.at_below (by first | exact HB1.out.drew | exact HB1.out)) (by omega)).mono ?_; rintro e w2 ⟨v2, rfl, hown2, hb2⟩; obtain ⟨A2, p2, rfl⟩ := decW.own_slice hown2; have HOW2 := Lib.hid hown2; clear hown2; (try go_split_ands); have b2 : w2.cell? ⟨b, 0, none⟩ = some (.slice (some ⟨g, 0, none⟩) n c) := (hb2.cell (p := ⟨b, 0, none⟩) (by exact Nat.lt_trans hbl lt1)).trans (by exact b1); have q2 : w2.cell? ⟨g, k, none⟩ = some (.pointer (some ⟨s.box, 0, none⟩)) := (hb2.cell (p := ⟨g, k, none⟩) (by exact Nat.lt_trans hgl lt1)).trans (by exact q1); have o2 : w2.cell? ⟨s.box, 0, none⟩ = some (.pointer (some ⟨s.qo, 0, none⟩)) := (hb2.cell (p := ⟨s.box, 0, none⟩) (by exact Nat.lt_trans hbox lt1)).trans (by exact o1); have x2 : w2.cell? ⟨w.heap.size, 0, none⟩ = some (.int .u32 id) := (hb2.cell (p := ⟨w.heap.size, 0, none⟩) (by exact lt1)).trans (by exact x1); have y2 : w2.cell? ⟨w.heap.size, 1, none⟩ = some (.bool wide) := (hb2.cell (p := ⟨w.heap.size, 1, none⟩) (by exact lt1)).trans (by exact y1); have z2 : w2.cell? ⟨w.heap.size, 2, none⟩ = some (.slice A bs.length cap) := (hb2.cell (p := ⟨w.heap.size, 2, none⟩) (by exact lt1)).trans (by exact z1); have lt2 : w.heap.size < w2.heap.size := Nat.lt_of_lt_of_le lt1 hb2.size; have HB2 := Lib.hid (show Below w.heap.size w w2 from Below.trans (by first | exact HB1.out.drew | exact HB1.out) (hb2.mono (Nat.le_of_lt lt1))); have HS2 := Lib.hid (HSO.out.below HB2.out); clear hb2) | (go_at_call 28; refine (push_full (by exact HS2.out.out) ⟨id, wide, _, bs⟩ HN.out).mono ?_; rintro e w3 ⟨rfl, hb3⟩; (try go_split_ands); have b3 : w3.cell? ⟨b, 0, none⟩ = some (.slice (some ⟨g, 0, none⟩) n c) := (hb3.cell (p := ⟨b, 0, none⟩) (by exact Nat.lt_trans hbl lt2)).trans (by exact b2); have q3 : w3.cell? ⟨g, k, none⟩ = some (.pointer (some ⟨s.box, 0, none⟩)) := (hb3.cell (p := ⟨g, k, none⟩) (by exact Nat.lt_trans hgl lt2)).trans (by exact q2); have o3 : w3.cell? ⟨s.box, 0, none⟩ = some (.pointer (some ⟨s.qo, 0, none⟩)) := (hb3.cell (p := ⟨s.box, 0, none⟩) (by exact Nat.lt_trans hbox lt2)).trans (by exact o2); have x3 : w3.cell? ⟨w.heap.size, 0, none⟩ = some (.int .u32 id) := (hb3.cell (p := ⟨w.heap.size, 0, none⟩) (by exact lt2)).trans (by exact x2); have y3 : w3.cell? ⟨w.heap.size, 1, none⟩ = some (.bool wide) := (hb3.cell (p := ⟨w.heap.size, 1, none⟩) (by exact lt2)).trans (by exact y2); have z3 : w3.cell? ⟨w.heap.size, 2, none⟩ = some (.slice A bs.length cap) := (hb3.cell (p := ⟨w.heap.size, 2, none⟩) (by exact lt2)).trans (by exact z2); have lt3 : w.heap.size < w3.heap.size := Nat.lt_of_lt_of_le lt2 hb3.size; have HB3 := Lib.hid (show Below w.heap.size w w3 from Below.trans HB2.out (hb3.mono (Nat.le_of_lt lt2))); clear hb3))
      go_wp2
      go_ret
      rw [HPO.out]
      exact ⟨rfl, B.S, H.out.below HB3.out, Mv.below HB3.out, rfl⟩
    case neg =>
      have HN : Hid (s.out.length < room) := Nat.lt_of_le_of_ne HSO.out.out.hlen hfull
      have HPO := Lib.hid (HO2.out.trans (if_neg (show ¬ s.a.out.length = room by show ¬ (s.out.map frA).length = room; rw [List.length_map]; exact hfull)))
      clear hfull
      go_region_held3 (fun W => W.cell? ⟨b, 0, none⟩ = some (.slice (some ⟨g, 0, none⟩) n c) ∧ W.cell? ⟨g, k, none⟩ = some (.pointer (some ⟨s.box, 0, none⟩)) ∧ W.cell? ⟨s.box, 0, none⟩ = some (.pointer (some ⟨s.qo, 0, none⟩)) ∧ W.cell? ⟨w.heap.size, 0, none⟩ = some (.int .u32 id) ∧ W.cell? ⟨w.heap.size, 1, none⟩ = some (.bool wide) ∧ W.cell? ⟨w.heap.size, 2, none⟩ = some (.slice A bs.length cap) ∧ w.heap.size < W.heap.size)
        (first | exact ⟨by exact b1, by exact q1, by exact o1, by exact x1, by exact y1, by exact z1, by exact lt1⟩ | exact ⟨by assumption, by assumption, by assumption, by assumption, by assumption, by assumption, by assumption⟩)
        (first | (go_at_call 29; refine (own_any _ _ _ bs _ (by exact HV.out.at_below (by first | exact HB1.out.drew | exact HB1.out)) (by omega)).mono ?_; rintro e w2 ⟨v2, rfl, hown2, hb2⟩; obtain ⟨A2, p2, rfl⟩ := decW.own_slice hown2; have HOW2 := Lib.hid hown2; clear hown2; (try go_split_ands); have b2 : w2.cell? ⟨b, 0, none⟩ = some (.slice (some ⟨g, 0, none⟩) n c) := (hb2.cell (p := ⟨b, 0, none⟩) (by exact Nat.lt_trans hbl lt1)).trans (by exact b1); have q2 : w2.cell? ⟨g, k, none⟩ = some (.pointer (some ⟨s.box, 0, none⟩)) := (hb2.cell (p := ⟨g, k, none⟩) (by exact Nat.lt_trans hgl lt1)).trans (by exact q1); have o2 : w2.cell? ⟨s.box, 0, none⟩ = some (.pointer (some ⟨s.qo, 0, none⟩)) := (hb2.cell (p := ⟨s.box, 0, none⟩) (by exact Nat.lt_trans hbox lt1)).trans (by exact o1); have x2 : w2.cell? ⟨w.heap.size, 0, none⟩ = some (.int .u32 id) := (hb2.cell (p := ⟨w.heap.size, 0, none⟩) (by exact lt1)).trans (by exact x1); have y2 : w2.cell? ⟨w.heap.size, 1, none⟩ = some (.bool wide) := (hb2.cell (p := ⟨w.heap.size, 1, none⟩) (by exact lt1)).trans (by exact y1); have z2 : w2.cell? ⟨w.heap.size, 2, none⟩ = some (.slice A bs.length cap) := (hb2.cell (p := ⟨w.heap.size, 2, none⟩) (by exact lt1)).trans (by exact z1); have lt2 : w.heap.size < w2.heap.size := Nat.lt_of_lt_of_le lt1 hb2.size; have HB2 := Lib.hid (show Below w.heap.size w w2 from Below.trans (by first | exact HB1.out.drew | exact HB1.out) (hb2.mono (Nat.le_of_lt lt1))); have HS2 := Lib.hid (HSO.out.below HB2.out); clear hb2) | (go_at_call 28; refine (push_ok (by exact HS2.out.out) ⟨id, wide, .slice A2 bs.length p2, bs⟩ HN.out hrb ⟨_, _, _, rfl⟩).mono ?_; rintro e w3 ⟨rfl, hring3, hkp3⟩; (try go_split_ands); have b3 : w3.cell? ⟨b, 0, none⟩ = some (.slice (some ⟨g, 0, none⟩) n c) := (hkp3.at_ (by exact Nat.lt_trans hbl lt2) nb 0).trans (by exact b2); have q3 : w3.cell? ⟨g, k, none⟩ = some (.pointer (some ⟨s.box, 0, none⟩)) := (hkp3.at_ (by exact Nat.lt_trans hgl lt2) ng k).trans (by exact q2); have o3 : w3.cell? ⟨s.box, 0, none⟩ = some (.pointer (some ⟨s.qo, 0, none⟩)) := (hkp3.at_ (by exact Nat.lt_trans hbox lt2) nbox 0).trans (by exact o2); have x3 : w3.cell? ⟨w.heap.size, 0, none⟩ = some (.int .u32 id) := (hkp3.at_ (by exact lt2) nw 0).trans (by exact x2); have y3 : w3.cell? ⟨w.heap.size, 1, none⟩ = some (.bool wide) := (hkp3.at_ (by exact lt2) nw 1).trans (by exact y2); have z3 : w3.cell? ⟨w.heap.size, 2, none⟩ = some (.slice A bs.length cap) := (hkp3.at_ (by exact lt2) nw 2).trans (by exact z2); have lt3 : w.heap.size < w3.heap.size := Nat.lt_of_lt_of_le lt2 hkp3.size; have HR3 := Lib.hid hring3; have HK3 := Lib.hid hkp3; clear hring3 hkp3))
      go_wp2
      go_ret
      have hfo : FrOk w3 ⟨id, wide, .slice A2 bs.length p2, bs⟩ := by
        refine ⟨own_base (own_at HOW2.out fun g hg => HK3.out.block g (ty_lt (own_ty HOW2.out hg)) fun e => ?_) (Nat.zero_le _), HOKF.out HNO.out⟩
        have hy := own_ty HOW2.out hg
        rcases e with e | e
        · rw [e, (ring_ty HS2.out.out).1] at hy; exact absurd (Option.some.inj hy) (by decide)
        · rw [e, (ring_ty HS2.out.out).2] at hy; exact absurd (Option.some.inj hy) (by decide)
      obtain ⟨t1, t2⟩ := HS2.out.sent_ HR3.out HK3.out hfo
      have hB2 := H.out.below HB2.out
      have hS3 := hB2.sts.put HS.out t2 t1 rfl (fun k hk => .inl hk)
      have hM3 := Mv.put HS.out t2 (s' := { s with out := s.out ++ [⟨id, wide, .slice A2 bs.length p2, bs⟩] }) rfl (fun k hk => .inl hk)
      rw [HPO.out]
      refine ⟨rfl, _, hB2.mv hM3 hS3, (Mv.below HB2.out).trans hM3, ?_⟩
      rw [List.map_set]
      refine congrArg ((B.S.map Stn.a).set k) ?_
      simp [Stn.a, frA]
end busM
end Go.Proofs.Ytomkgnlooheibaa

namespace Go.Proofs.Ytomkgnlooheibaa
open Go.RowKit Go.Bus Go.Bus.ringK Go.Bus.ring3K Go.Bus.busK Go.Bus.cellK Go.Bus.decK Go.Bus.bitK
set_option linter.unusedVariables false
set_option linter.unusedSimpArgs false
namespace busM
open qframe
def TakePost (room : Nat) (w : World) (b : Nat) (B : BusS) (k : Nat) (s : Stn) (e : Ending) (w' : World) : Prop :=
  match s.inn with
  | [] => e = .returned (.tuple #[zF, errNo 25]) ∧ Below w.heap.size w w'
  | x :: rest => e = .returned (.tuple #[frV x, .nilIface]) ∧ FrOk w' x ∧ BusAt room w' b { B with S := B.S.set k { s with inn := rest, fi := place room s.fi 1 } } ∧ Mv w B.S w' (B.S.set k { s with inn := rest, fi := place room s.fi 1 }) ∧
    ∀ j, x.data.ownBlock = some j → (∃ s ∈ B.S, j ∈ blk s) ∧ ¬ ∃ t ∈ B.S.set k { s with inn := rest, fi := place room s.fi 1 }, j ∈ blk t

set_option maxRecDepth 100000 in
set_option maxHeartbeats 1000000 in
theorem take_none {room b : Nat} {w : World} {B : BusS} (h : BusAt room w b B) (n : Int) (hn : ¬ (0 ≤ n ∧ n < (B.S.length : Int))) :
    Calls Try.prog 14 #[.pointer (some ⟨b, 0, none⟩), .int .i64 n] w fun e w' => e = .returned (.tuple #[zF, errNo 1]) ∧ Below w.heap.size w w' := by
  have hd : (decide (0 ≤ n) && decide (n < (B.S.length : Int))) = false := by
    by_cases h0 : 0 ≤ n
    · have h1 : ¬ n < (B.S.length : Int) := fun h => hn ⟨h0, h⟩
      simp [h1]
    · simp [h0]
  have HD := Lib.hid hd
  have H := Lib.hid h
  clear h hn hd
  go_enter Try.func14, Try.ntmps14
  go_wp2_with fail
  refine (there_any (H.out.below (by repeat' (first | (with_reducible assumption) | (with_reducible refine Below.setCell ?_ ?_ _) | (with_reducible refine Below.alloc ?_ ?_ _) | (with_reducible refine Below.drew ?_) | (with_reducible refine below_drewN ?_ _) | (with_reducible exact Below.refl _ _) | (show _ ≤ _; (try simp); (try omega); done) | exact Below.refl _ _ | assumption))) n).mono ?_
  rintro e w1 ⟨rfl, rfl⟩
  rw [HD.out]
  go_wp2
  refine bodyPost_ret (v := .tuple #[zF, .iface 70 (.int .i64 1)]) (by simp [results, Try.results14, go_sem, zF]) rfl ?_
  exact ⟨rfl, (by repeat' (first | (with_reducible assumption) | (with_reducible refine Below.setCell ?_ ?_ _) | (with_reducible refine Below.alloc ?_ ?_ _) | (with_reducible refine Below.drew ?_) | (with_reducible refine below_drewN ?_ _) | (with_reducible exact Below.refl _ _) | (show _ ≤ _; (try simp); (try omega); done) | exact Below.refl _ _ | assumption))⟩

set_option maxRecDepth 100000 in
set_option maxHeartbeats 2000000 in
theorem take_at {room b : Nat} {w : World} {B : BusS} (h : BusAt room w b B) (k : Nat) (s : Stn) (hs : B.S[k]? = some s) :
    Calls Try.prog 14 #[.pointer (some ⟨b, 0, none⟩), .int .i64 (k : Int)] w (TakePost room w b B k s) := by
  obtain ⟨g, c, hsv, hgc, hcm, hgl, hslot⟩ := h.slot
  have b0 : w.cell? ⟨b, 0, none⟩ = some (.slice (some ⟨g, 0, none⟩) B.S.length c) := by rw [← hsv]; exact (h.box.cell 0).trans rfl
  have q0 := hslot k s hs
  have hbl := h.box.lt
  have hnn := h.n
  obtain ⟨hra, hrb⟩ := h.room
  have hso := h.sts.all k s hs
  have hk : k < B.S.length := (List.getElem?_eq_some_iff.1 hs).1
  have hbox := hso.box.lt
  have o0 : w.cell? ⟨s.box, 1, none⟩ = some (.pointer (some ⟨s.qi, 0, none⟩)) := (hso.box.cell 1).trans rfl
  have HD : Hid ((decide (0 ≤ (k : Int)) && decide ((k : Int) < (B.S.length : Int))) = true) := by unfold Hid; simp; omega
  have HSO := Lib.hid hso
  have HS := Lib.hid hs
  have H := Lib.hid h
  clear h hs hso hslot hsv
  obtain ⟨n, hn⟩ : ∃ n, n = B.S.length := ⟨_, rfl⟩
  rw [← hn] at b0 hgc hnn hk HD
  have HN0 := Lib.hid hn; clear hn
  cases hin : s.inn with
  | nil =>
    have HI := Lib.hid hin
    have HR := HSO.out.inn
    rw [hin] at HR
    have HR := Lib.hid HR
    clear hin
    go_enter Try.func14, Try.ntmps14
    go_wp2_with fail
    refine (there_any (H.out.below (by repeat' (first | (with_reducible assumption) | (with_reducible refine Below.setCell ?_ ?_ _) | (with_reducible refine Below.alloc ?_ ?_ _) | (with_reducible refine Below.drew ?_) | (with_reducible refine below_drewN ?_ _) | (with_reducible exact Below.refl _ _) | (show _ ≤ _; (try simp); (try omega); done) | exact Below.refl _ _ | assumption))) (k : Int)).mono ?_
    rintro e w1 ⟨rfl, rfl⟩
    rw [← HN0.out, HD.out]
    go_wp2_with fail
    refine (pop_none (by exact ring_below HR.out (by repeat' (first | (with_reducible assumption) | (with_reducible refine Below.setCell ?_ ?_ _) | (with_reducible refine Below.alloc ?_ ?_ _) | (with_reducible refine Below.drew ?_) | (with_reducible refine below_drewN ?_ _) | (with_reducible exact Below.refl _ _) | (show _ ≤ _; (try simp); (try omega); done) | exact Below.refl _ _ | assumption)))).mono ?_
    rintro e w1 ⟨rfl, hb_w1⟩
    have hB1 : Below w.heap.size w w1 := Below.trans (b := _) (by repeat' (first | (with_reducible assumption) | (with_reducible refine Below.setCell ?_ ?_ _) | (with_reducible refine Below.alloc ?_ ?_ _) | (with_reducible refine Below.drew ?_) | (with_reducible refine below_drewN ?_ _) | (with_reducible exact Below.refl _ _) | (show _ ≤ _; (try simp); (try omega); done) | exact Below.refl _ _ | assumption)) (hb_w1.mono (by (try simp); (try omega)))
    have hX := (Has.new w 35 #[.int .u32 0, .bool false, .slice none 0 0]).below hb_w1 (by simp)
    have lt1 := hX.lt
    have r0 : w1.cell? ⟨w.heap.size, 0, none⟩ = some (.int .u32 0) := (hX.cell 0).trans rfl
    have r1 : w1.cell? ⟨w.heap.size, 1, none⟩ = some (.bool false) := (hX.cell 1).trans rfl
    have r2 : w1.cell? ⟨w.heap.size, 2, none⟩ = some (.slice none 0 0) := (hX.cell 2).trans rfl
    have rf := fun i => hX.frozen i
    clear hX hb_w1
    unfold zF
    go_wp2
    refine bodyPost_ret (v := .tuple #[.agg #[.int .u32 0, .bool false, .slice none 0 0], .iface 70 (.int .i64 25)]) (by simp [results, Try.results14, go_sem, r0, r1, r2]) rfl ?_
    unfold TakePost
    rw [HI.out]
    exact ⟨rfl, (by repeat' (first | (with_reducible assumption) | (with_reducible refine Below.setCell ?_ ?_ _) | (with_reducible refine Below.alloc ?_ ?_ _) | (with_reducible refine Below.drew ?_) | (with_reducible refine below_drewN ?_ _) | (with_reducible exact Below.refl _ _) | (show _ ≤ _; (try simp); (try omega); done) | exact Below.refl _ _ | assumption))⟩
  | cons x rest =>
    have HI := Lib.hid hin
    have HR := HSO.out.inn
    rw [hin] at HR
    have HR := Lib.hid HR
    have hxo := HSO.out.finn x (by rw [hin]; exact List.mem_cons_self)
    obtain ⟨Ax, cx, hdx⟩ := decW.own_slice hxo.1
    have HXO := Lib.hid hxo
    have HPOP : Hid (∀ W, RingF W s.qi s.ri room s.fi (x :: rest) → Calls Try.prog 34 #[.pointer (some ⟨s.qi, 0, none⟩)] W (Popped s.qi s.ri room s.fi rest x W)) := fun W hW => pop_one hW hrb ⟨_, _, _, hdx⟩
    clear hin hxo
    go_enter Try.func14, Try.ntmps14
    go_wp2_with fail
    refine (there_any (H.out.below (by repeat' (first | (with_reducible assumption) | (with_reducible refine Below.setCell ?_ ?_ _) | (with_reducible refine Below.alloc ?_ ?_ _) | (with_reducible refine Below.drew ?_) | (with_reducible refine below_drewN ?_ _) | (with_reducible exact Below.refl _ _) | (show _ ≤ _; (try simp); (try omega); done) | exact Below.refl _ _ | assumption))) (k : Int)).mono ?_
    rintro e w1 ⟨rfl, rfl⟩
    rw [← HN0.out, HD.out]
    go_wp2_with fail
    refine (HPOP.out _ (by exact ring_below HR.out (by repeat' (first | (with_reducible assumption) | (with_reducible refine Below.setCell ?_ ?_ _) | (with_reducible refine Below.alloc ?_ ?_ _) | (with_reducible refine Below.drew ?_) | (with_reducible refine below_drewN ?_ _) | (with_reducible exact Below.refl _ _) | (show _ ≤ _; (try simp); (try omega); done) | exact Below.refl _ _ | assumption)))).mono ?_
    rintro e w3 ⟨rfl, hring3, hkp3⟩
    obtain ⟨l0, l1, l2, l3, l4⟩ := HSO.out.lts
    obtain ⟨n1, n2, n3, n4, n5, n6, n7, n8⟩ := HSO.out.ne_
    have hX := hkp3.has (Has.new w 35 #[.int .u32 0, .bool false, .slice none 0 0]) (show ¬ (w.heap.size = s.qi ∨ w.heap.size = s.ri) by omega)
    have lt3 := hX.lt
    have r0 : w3.cell? ⟨w.heap.size, 0, none⟩ = some (.int .u32 0) := (hX.cell 0).trans rfl
    have r1 : w3.cell? ⟨w.heap.size, 1, none⟩ = some (.bool false) := (hX.cell 1).trans rfl
    have r2 : w3.cell? ⟨w.heap.size, 2, none⟩ = some (.slice none 0 0) := (hX.cell 2).trans rfl
    have rf := fun i => hX.frozen i
    have HX := Lib.hid hX
    have HR3 := Lib.hid hring3
    have HK3 := Lib.hid (((Kp.refl (mut1 (skel s)) w).alloc (.cells #[.int .u32 0, .bool false, .slice none 0 0] 35)).trans (hkp3.mono fun j e => by
      rcases e with rfl | rfl
      · exact .inr (.inr (.inl rfl))
      · exact .inr (.inr (.inr (.inr rfl)))))
    have hbx3 := hkp3.has (HSO.out.box.alloc (.cells #[.int .u32 0, .bool false, .slice none 0 0] 35)) (show ¬ (s.box = s.qi ∨ s.box = s.ri) from fun e => e.elim n3 n4)
    have hro3 : RingF w3 s.qo s.ro room s.fo s.out := (ring_below HSO.out.out ((Below.refl _ _).alloc (Nat.le_refl _) (.cells #[.int .u32 0, .bool false, .slice none 0 0] 35))).keep (hkp3.block _ (by simp; omega) (fun e => e.elim HSO.out.hq n6)) (hkp3.block _ (by simp; omega) (fun e => e.elim (fun e => n8 e.symm) HSO.out.hr))
    have HBX3 := Lib.hid hbx3
    have HRO3 := Lib.hid hro3
    clear hX hring3 hkp3 hbx3 hro3
    unfold frV
    rw [hdx]
    go_wp2
    generalize hW : World.setCell _ _ _ = W
    have hres : Has W w.heap.size tF #[.int .u32 x.id, .bool x.wide, .slice Ax x.bytes.length cx] := by
      subst hW
      exact has_to (has_to (has_to HX.out 0 _ rfl) 1 _ rfl) 2 _ rfl
    have hkp : Kp (mut1 (skel s)) w W := by
      subst hW
      exact ((HK3.out.set (.inr (Nat.le_refl _)) _).set (.inr (Nat.le_refl _)) _).set (.inr (Nat.le_refl _)) _
    have hq' : ¬ s.qi = w.heap.size := by omega
    have hr' : ¬ s.ri = w.heap.size := by omega
    have hqo' : ¬ s.qo = w.heap.size := by omega
    have hro' : ¬ s.ro = w.heap.size := by omega
    have hbo' : ¬ s.box = w.heap.size := by omega
    have hin : RingF W s.qi s.ri room (place room s.fi 1) rest := by
      subst hW
      exact ring_far (ring_far (ring_far HR3.out hq' hr' _) hq' hr' _) hq' hr' _
    have hout : RingF W s.qo s.ro room s.fo s.out := by
      subst hW
      exact ring_far (ring_far (ring_far HRO3.out hqo' hro' _) hqo' hro' _) hqo' hro' _
    have hbx : Has W s.box tS (stC s) := by
      subst hW
      exact ((HBX3.out.far hbo' _).far hbo' _).far hbo' _
    have s0 : W.cell? ⟨w.heap.size, 0, none⟩ = some (.int .u32 x.id) := (hres.cell 0).trans rfl
    have s1 : W.cell? ⟨w.heap.size, 1, none⟩ = some (.bool x.wide) := (hres.cell 1).trans rfl
    have s2 : W.cell? ⟨w.heap.size, 2, none⟩ = some (.slice Ax x.bytes.length cx) := (hres.cell 2).trans rfl
    refine bodyPost_ret (v := .tuple #[.agg #[.int .u32 x.id, .bool x.wide, .slice Ax x.bytes.length cx], .nilIface]) (by simp [results, Try.results14, go_sem, s0, s1, s2]) rfl ?_
    have hst : StOk room W { s with inn := rest, fi := place room s.fi 1 } := HSO.out.re hkp rfl rfl rfl hbx hout hin (fun y hy => .inl hy) (fun y hy => .inl (by rw [HI.out]; exact List.mem_cons_of_mem _ hy)) (by
      have h1 := HSO.out.hb
      unfold blk at h1 ⊢
      rw [HI.out, List.filterMap_cons] at h1
      split at h1
      · exact h1
      · exact (List.nodup_cons.1 h1).2)
    have hsub : ∀ j ∈ blk { s with inn := rest, fi := place room s.fi 1 }, j ∈ blk s := by
      intro j hj
      obtain ⟨y, hy, e⟩ := List.mem_filterMap.1 hj
      exact List.mem_filterMap.2 ⟨y, by rw [HI.out]; exact List.mem_cons_of_mem _ hy, e⟩
    have hS' := H.out.sts.put HS.out hkp hst rfl (fun j hj => .inl (hsub j hj))
    have hM' := Mv.put HS.out hkp (s' := { s with inn := rest, fi := place room s.fi 1 }) rfl (fun j hj => .inl (hsub j hj))
    unfold TakePost
    rw [HI.out]
    refine ⟨by unfold frV; rw [hdx], ⟨hkp.own HXO.out.1 fun g hg hf => ?_, HXO.out.2⟩, H.out.mv hM' hS', hM', fun j hj => ⟨⟨s, List.mem_of_getElem? HS.out, ?_⟩, ?_⟩⟩
    · have h1 := own_ty HXO.out.1 hg
      rcases HSO.out.mut_ty hf with h2 | h2 | h2 <;> rw [h1] at h2 <;> exact absurd (Option.some.inj h2) (by decide)
    · exact List.mem_filterMap.2 ⟨x, by rw [HI.out]; exact List.mem_cons_self, hj⟩
    · rintro ⟨t, ht, hjt⟩
      obtain ⟨i, hi⟩ := List.mem_iff_getElem?.1 ht
      have hjs : j ∈ blk s := List.mem_filterMap.2 ⟨x, by rw [HI.out]; exact List.mem_cons_self, hj⟩
      by_cases hik : k = i
      · subst hik
        rw [List.getElem?_set_self (by have := HN0.out; omega)] at hi
        cases hi
        have h1 := HSO.out.hb
        unfold blk at h1 hjt
        rw [HI.out, List.filterMap_cons, hj] at h1
        exact (List.nodup_cons.1 h1).1 hjt
      · rw [List.getElem?_set_ne hik] at hi
        exact (H.out.sts.far k i s t HS.out hi hik).2.2.2.2.2.2.2.2.2 j hjs hjt
end busM
end Go.Proofs.Ytomkgnlooheibaa

namespace Go.Proofs.Ytomkgnlooheibaa
open Go.RowKit Go.Bus Go.Bus.ringK Go.Bus.ring3K Go.Bus.busK Go.Bus.cellK Go.Bus.decK Go.Bus.bitK
set_option linter.unusedVariables false
set_option linter.unusedSimpArgs false
namespace busM
open qframe
def cnV (c : Cn) : Value := .agg #[.int .i64 c.sent, .int .i64 c.taken, .int .i64 c.refused, .int .i64 c.damaged, .int .i64 c.dropped]
set_option maxRecDepth 100000 in
set_option maxHeartbeats 1000000 in
theorem counts_none {room b : Nat} {w : World} {B : BusS} (h : BusAt room w b B) (n : Int) (hn : ¬ (0 ≤ n ∧ n < (B.S.length : Int))) :
    Calls Try.prog 23 #[.pointer (some ⟨b, 0, none⟩), .int .i64 n] w fun e w' => e = .returned (.tuple #[cnV ⟨0, 0, 0, 0, 0⟩, errNo 1]) ∧ Below w.heap.size w w' := by
  have hd : (decide (0 ≤ n) && decide (n < (B.S.length : Int))) = false := by
    by_cases h0 : 0 ≤ n
    · have h1 : ¬ n < (B.S.length : Int) := fun h => hn ⟨h0, h⟩
      simp [h1]
    · simp [h0]
  have HD := Lib.hid hd
  have H := Lib.hid h
  clear h hn hd
  go_enter Try.func23, Try.ntmps23
  go_wp2_with fail
  refine (there_any (H.out.below (by repeat' (first | (with_reducible assumption) | (with_reducible refine Below.setCell ?_ ?_ _) | (with_reducible refine Below.alloc ?_ ?_ _) | (with_reducible refine Below.drew ?_) | (with_reducible refine below_drewN ?_ _) | (with_reducible exact Below.refl _ _) | (show _ ≤ _; (try simp); (try omega); done) | exact Below.refl _ _ | assumption))) n).mono ?_
  rintro e w1 ⟨rfl, rfl⟩
  rw [HD.out]
  go_wp2
  refine bodyPost_ret (v := .tuple #[cnV ⟨0, 0, 0, 0, 0⟩, .iface 70 (.int .i64 1)]) (by simp [results, Try.results23, go_sem, cnV]) rfl ?_
  exact ⟨rfl, (by repeat' (first | (with_reducible assumption) | (with_reducible refine Below.setCell ?_ ?_ _) | (with_reducible refine Below.alloc ?_ ?_ _) | (with_reducible refine Below.drew ?_) | (with_reducible refine below_drewN ?_ _) | (with_reducible exact Below.refl _ _) | (show _ ≤ _; (try simp); (try omega); done) | exact Below.refl _ _ | assumption))⟩

set_option maxRecDepth 100000 in
set_option maxHeartbeats 2000000 in
theorem counts_at {room b : Nat} {w : World} {B : BusS} (h : BusAt room w b B) (k : Nat) (s : Stn) (hs : B.S[k]? = some s) :
    Calls Try.prog 23 #[.pointer (some ⟨b, 0, none⟩), .int .i64 (k : Int)] w fun e w' => e = .returned (.tuple #[cnV s.cn, .nilIface]) ∧ Below w.heap.size w w' := by
  obtain ⟨g, c, hsv, hgc, hcm, hgl, hslot⟩ := h.slot
  have b0 : w.cell? ⟨b, 0, none⟩ = some (.slice (some ⟨g, 0, none⟩) B.S.length c) := by rw [← hsv]; exact (h.box.cell 0).trans rfl
  have q0 := hslot k s hs
  have hbl := h.box.lt
  have hnn := h.n
  have hso := h.sts.all k s hs
  have hk : k < B.S.length := (List.getElem?_eq_some_iff.1 hs).1
  have hbox := hso.box.lt
  obtain ⟨-, -, -, c3, c4, c5, c6, c7, -⟩ := hso.cells
  have HD : Hid ((decide (0 ≤ (k : Int)) && decide ((k : Int) < (B.S.length : Int))) = true) := by unfold Hid; simp; omega
  have H := Lib.hid h
  clear h hs hso hslot hsv
  obtain ⟨n, hn⟩ : ∃ n, n = B.S.length := ⟨_, rfl⟩
  rw [← hn] at b0 hgc hnn hk HD
  have HN0 := Lib.hid hn; clear hn
  have hne : ¬ s.box = w.heap.size := by omega
  unfold cnV
  go_enter Try.func23, Try.ntmps23
  go_wp2_with fail
  refine (there_any (H.out.below (by repeat' (first | (with_reducible assumption) | (with_reducible refine Below.setCell ?_ ?_ _) | (with_reducible refine Below.alloc ?_ ?_ _) | (with_reducible refine Below.drew ?_) | (with_reducible refine below_drewN ?_ _) | (with_reducible exact Below.refl _ _) | (show _ ≤ _; (try simp); (try omega); done) | exact Below.refl _ _ | assumption))) (k : Int)).mono ?_
  rintro e w1 ⟨rfl, rfl⟩
  rw [← HN0.out, HD.out]
  go_wp2
  refine bodyPost_ret (v := .tuple #[.agg #[.int .i64 s.cn.sent, .int .i64 s.cn.taken, .int .i64 s.cn.refused, .int .i64 s.cn.damaged, .int .i64 s.cn.dropped], .nilIface]) (by simp [results, Try.results23, go_sem]) rfl ?_
  exact ⟨rfl, (by repeat' (first | (with_reducible assumption) | (with_reducible refine Below.setCell ?_ ?_ _) | (with_reducible refine Below.alloc ?_ ?_ _) | (with_reducible refine Below.drew ?_) | (with_reducible refine below_drewN ?_ _) | (with_reducible exact Below.refl _ _) | (show _ ≤ _; (try simp); (try omega); done) | exact Below.refl _ _ | assumption))⟩
def waitsL (S : List Stn) : Nat := (S.map fun s => s.out.length).sum
theorem waits_step {S : List Stn} {k : Nat} {s : Stn} (h : S[k]? = some s) : waitsL (S.take (k + 1)) = waitsL (S.take k) + s.out.length := by
  obtain ⟨hk, he⟩ := List.getElem?_eq_some_iff.1 h
  unfold waitsL
  rw [take_snoc S k hk, List.map_append, List.sum_append, he]
  simp

set_option maxRecDepth 100000 in
set_option maxHeartbeats 2000000 in
theorem waiting_any {room b : Nat} {w : World} {B : BusS} (h : BusAt room w b B) :
    Calls Try.prog 22 #[.pointer (some ⟨b, 0, none⟩)] w fun e w' => e = .returned (.tuple #[.int .i64 (waitsL B.S : Nat), .int .i64 (B.L.length : Nat)]) ∧ ∃ n, w' = w.drewN n := by
  obtain ⟨g, c, hsv, hgc, hcm, hgl, hslot⟩ := h.slot
  have b0 : w.cell? ⟨b, 0, none⟩ = some (.slice (some ⟨g, 0, none⟩) B.S.length c) := by rw [← hsv]; exact (h.box.cell 0).trans rfl
  obtain ⟨Al, cl, hlv⟩ := decW.own_slice h.late.row
  have b1 : w.cell? ⟨b, 1, none⟩ = some (.slice Al B.L.length cl) := by rw [← hlv]; exact (h.box.cell 1).trans rfl
  have hbl := h.box.lt
  have hnn := h.n
  obtain ⟨hra, hrb⟩ := h.room
  have H := Lib.hid h
  have HSL := Lib.hid hslot
  clear h hslot hsv hlv
  obtain ⟨n, hn⟩ : ∃ n, n = B.S.length := ⟨_, rfl⟩
  rw [← hn] at b0 hgc hnn
  have HN := Lib.hid hn; clear hn
  go_enter Try.func22, Try.ntmps22
  go_wp2
  go_loopw [12, 4] (fun i q wr => ∃ (k m : Nat), k ≤ n ∧ i = .int .i64 k ∧ q = .int .i64 m ∧ Hid (m = waitsL (B.S.take k)) ∧ m ≤ k * 64 ∧ wr = w) (fun i _ _ => n - (intOf i).toNat)
  case atStart => exact ⟨0, 0, Nat.zero_le _, rfl, rfl, Lib.hid rfl, by omega, rfl⟩
  case round =>
    obtain ⟨k, m, hk, rfl, rfl, hm, hmk, rfl⟩ := hrel
    by_cases hlt : k < n
    · obtain ⟨s, hs⟩ : ∃ s, B.S[k]? = some s := ⟨_, List.getElem?_eq_getElem (by rw [← HN.out]; exact hlt)⟩
      have q0 := HSL.out k s hs
      have hso := H.out.sts.all k s hs
      have c0 : wr.cell? ⟨s.box, 0, none⟩ = some (.pointer (some ⟨s.qo, 0, none⟩)) := (hso.box.cell 0).trans rfl
      have hst := Lib.hid (waits_step hs)
      have hol := hso.out.hlen
      have HSO := Lib.hid hso
      clear hso hs
      go_wp2_with fail
      refine (len_any HSO.out.out).mono ?_
      rintro e w1 ⟨rfl, rfl⟩
      obtain ⟨t, ht⟩ : ∃ t, t = s.out.length := ⟨_, rfl⟩
      rw [← ht] at hol hst
      rw [← ht]
      clear ht
      go_wp2
      exact ⟨⟨k + 1, m + t, by omega, by go_num, by go_num, Lib.hid (by rw [hst.out, hm.out]), by omega, by first | rfl | trivial⟩, by simp [intOf]; omega⟩
    · obtain rfl : k = n := by omega
      have hend : Hid (m = waitsL B.S) := by
        unfold Hid
        rw [hm.out, List.take_of_length_le (Nat.le_of_eq HN.out.symm)]
      go_wp2
      go_region
      go_wp2
      go_ret2
      exact ⟨by rw [hend.out]; rfl, _, rfl⟩
end busM
end Go.Proofs.Ytomkgnlooheibaa

namespace Go.Proofs.Ytomkgnlooheibaa
open Go.RowKit Go.Bus Go.Bus.ringK Go.Bus.ring3K Go.Bus.busK Go.Bus.cellK Go.Bus.decK Go.Bus.bitK
set_option linter.unusedVariables false
set_option linter.unusedSimpArgs false
theorem Try.infoEStnP : (Try.prog.info? 78).map (fun i => (i.zero, i.size, i.bytes)) = some (some (.pointer none), 1, 8) := by kernel_rfl
namespace busM
open qframe
/-- A row of rules, as an element of a row of rows. -/
def rowsE : Rel (List Rl) := fun w F cs l => ∃ v, cs = [v] ∧ SlK 3 ruleE w F v l
theorem rowsE_mono : Mono rowsE := fun w w' F F' cs x hF hk ⟨v, e, h⟩ => ⟨v, e, h.keep ruleE_mono hF hk⟩
def freshA (l : List Rl) : ASt := ⟨[], [], l, ⟨0, 0, 0, 0, 0⟩⟩
theorem flat3 : ∀ (l : List Rl) (xs : List Value), xs.length = l.length * 3 → (∀ (i : Nat) x, l[i]? = some x → eltOf 3 xs i = Rl.c x) → xs = l.flatMap Rl.c := by
  intro l
  induction l with
  | nil => intro xs h _; simpa using h
  | cons y t ih =>
    intro xs h hx
    have h0 := hx 0 y rfl
    unfold eltOf at h0
    rw [Nat.zero_mul, List.drop_zero] at h0
    rw [List.flatMap_cons, ← h0, ← ih (xs.drop 3) (by rw [List.length_drop, h]; simp; omega) ?_, List.take_append_drop]
    intro i x hi
    have := hx (i + 1) x (by simpa using hi)
    rw [← this]
    unfold eltOf
    rw [List.drop_drop]
    congr 2
    omega
theorem StsOk.snoc {room B : Nat} {w : World} {S : List Stn} {s : Stn} (h : StsOk room w S) (hs : StOk room w s) (hlt : ∀ k, mutS S k → k < B) (hge : ∀ k, mut1 (skel s) k → B ≤ k) (hb : blk s = []) : StsOk room w (S ++ [s]) := by
  have g0 := hge _ (.inl rfl)
  have g1 := hge _ (.inr (.inl rfl))
  have g2 := hge _ (.inr (.inr (.inl rfl)))
  have g3 := hge _ (.inr (.inr (.inr (.inl rfl))))
  have g4 := hge _ (.inr (.inr (.inr (.inr rfl))))
  dsimp only [skel] at g0 g1 g2 g3 g4
  have hfar : ∀ (i : Nat) t, S[i]? = some t → t.far s := by
    intro i t hi
    have hm : skel t ∈ S.map skel := List.mem_map.2 ⟨t, List.mem_of_getElem? hi, rfl⟩
    have l0 := hlt _ ⟨_, hm, .inl rfl⟩
    have l1 := hlt _ ⟨_, hm, .inr (.inl rfl)⟩
    have l2 := hlt _ ⟨_, hm, .inr (.inr (.inl rfl))⟩
    have l3 := hlt _ ⟨_, hm, .inr (.inr (.inr (.inl rfl)))⟩
    have l4 := hlt _ ⟨_, hm, .inr (.inr (.inr (.inr rfl)))⟩
    dsimp only [skel] at l0 l1 l2 l3 l4
    exact ⟨by omega, by omega, by omega, by omega, by omega, by omega, by omega, by omega, by omega, fun k _ hk => by rw [hb] at hk; cases hk⟩
  refine ⟨fun i t hi => ?_, fun i j t u hi hj hij => ?_⟩
  · rcases Nat.lt_or_ge i S.length with hl | hl
    · rw [List.getElem?_append_left hl] at hi; exact h.all i t hi
    · rw [List.getElem?_append_right hl] at hi
      have h1 := (List.getElem?_eq_some_iff.1 hi).1
      simp at h1
      rw [show i - S.length = 0 from by omega] at hi
      simp at hi; subst hi; exact hs
  · rcases Nat.lt_or_ge i S.length with hl | hl
    · rw [List.getElem?_append_left hl] at hi
      rcases Nat.lt_or_ge j S.length with hl2 | hl2
      · rw [List.getElem?_append_left hl2] at hj; exact h.far i j t u hi hj hij
      · rw [List.getElem?_append_right hl2] at hj
        have h1 := (List.getElem?_eq_some_iff.1 hj).1
        simp at h1
        rw [show j - S.length = 0 from by omega] at hj
        simp at hj; subst hj; exact hfar i t hi
    · rw [List.getElem?_append_right hl] at hi
      have h1 := (List.getElem?_eq_some_iff.1 hi).1
      simp at h1
      rw [show i - S.length = 0 from by omega] at hi
      simp at hi; subst hi
      rcases Nat.lt_or_ge j S.length with hl2 | hl2
      · rw [List.getElem?_append_left hl2] at hj; exact (hfar j u hj).symm
      · rw [List.getElem?_append_right hl2] at hj
        have h1 := (List.getElem?_eq_some_iff.1 hj).1
        simp at h1
        omega
def NewPost (room : Nat) (w : World) (rules : List (List Rl)) (e : Ending) (w' : World) : Prop :=
  ∃ b B, e = .returned (.tuple #[.pointer (some ⟨b, 0, none⟩), .nilIface]) ∧ BusAt room w' b B ∧ Below w.heap.size w w' ∧ B.a = ⟨rules.map freshA, []⟩ ∧ (∀ k, k = b ∨ mutS B.S k → w.heap.size ≤ k) ∧ B.L = []

set_option maxRecDepth 100000 in
set_option maxHeartbeats 1000000 in
theorem new_few (room : Int) (w : World) (A : Option Addr) (n c : Nat) (h : n < 1 ∨ 8 < n) (hm : n ≤ 9223372036854775807) :
    Calls Try.prog 8 #[.int .i64 room, .slice A n c] w fun e w' => e = .returned (.tuple #[.pointer none, errNo 1]) ∧ w = w' := by
  rcases h with h | h
  · obtain rfl : n = 0 := by omega
    go_enter Try.func8, Try.ntmps8
    go_wp2
    go_ret2
    exact ⟨rfl, rfl⟩
  · have d1 : decide ((n : Int) < 1) = false := decide_eq_false (by omega)
    have d2 : decide (8 < (n : Int)) = true := decide_eq_true (by omega)
    go_enter Try.func8, Try.ntmps8
    go_wp2
    go_ret2
    exact ⟨rfl, rfl⟩

set_option maxRecDepth 100000 in
set_option maxHeartbeats 1000000 in
theorem new_room (room : Int) (w : World) (v : Value) (rules : List (List Rl)) (hv : SlK 1 rowsE w (Old w.heap.size) v rules) (h1 : 1 ≤ rules.length) (h8 : rules.length ≤ 8) (hr : room < 1 ∨ 64 < room) :
    Calls Try.prog 8 #[.int .i64 room, v] w fun e w' => e = .returned (.tuple #[.pointer none, errNo 1]) ∧ Below w.heap.size w w' := by
  obtain ⟨A, cap, rfl, hcap, hmax⟩ := hv.form
  unfold maxLen at hmax
  have hel := hv.at_ (A := A) (i := 0) (by omega)
  obtain ⟨g, off, cs, rfl, hg, hlen, hrg, hR⟩ := hel
  obtain ⟨v0, rfl, hv0⟩ := hR
  have q0 : w.cell? ⟨g, off, none⟩ = some v0 := by simpa using hrg 0 v0 rfl
  obtain ⟨n, hn⟩ : ∃ n, n = rules.length := ⟨_, rfl⟩
  rw [← hn] at h1 h8 hcap ⊢
  have hgl : g < w.heap.size := hg
  clear hv hn hrg hlen hv0
  obtain ⟨m, rfl⟩ : ∃ m, n = m + 1 := ⟨n - 1, by omega⟩
  have d1 : decide (((m + 1 : Nat) : Int) < 1) = false := decide_eq_false (by omega)
  have d2 : decide (8 < ((m + 1 : Nat) : Int)) = false := decide_eq_false (by omega)
  have d3 : decide ((0 : Int) < ((m + 1 : Nat) : Int)) = true := decide_eq_true (by omega)
  have hrr := Lib.hid hr
  go_enter Try.func8, Try.ntmps8
  go_wp2
  go_loopw [25] (fun i wr => i = .int .i64 0 ∧ wr = w.alloc (.cells #[.slice none 0 0, .slice none 0 0] 74)) (fun _ _ => 0)
  case atStart => exact ⟨rfl, rfl⟩
  case round =>
    obtain ⟨rfl, rfl⟩ := hrel
    go_wp2_with fail
    refine (new_bad room _ hrr.out).mono ?_
    rintro e w1 ⟨rfl, rfl⟩
    go_wp2
    go_ret2
    exact ⟨rfl, (by repeat' (first | (with_reducible assumption) | (with_reducible refine Below.setCell ?_ ?_ _) | (with_reducible refine Below.alloc ?_ ?_ _) | (with_reducible refine Below.drew ?_) | (with_reducible refine below_drewN ?_ _) | (with_reducible exact Below.refl _ _) | (show _ ≤ _; (try simp); (try omega); done) | exact Below.refl _ _ | assumption))⟩
/-- One station more, all of it new. -/
theorem stn_new {room : Nat} {w : World} {t q1 g1 q2 g2 : Nat} {rv : Value} {rules : List Rl} (hb : Has w t tS #[.pointer (some ⟨q1, 0, none⟩), .pointer (some ⟨q2, 0, none⟩), rv, .int .i64 0, .int .i64 0, .int .i64 0, .int .i64 0, .int .i64 0]) (h1 : RingF w q1 g1 room 0 []) (h2 : RingF w q2 g2 room 0 [])
    (hr : w.ownsRow 0 tR 3 rv rules.length (rules.flatMap Rl.c)) (hq : q1 ≠ q2) (hg : g1 ≠ g2) : StOk room w ⟨t, q1, g1, 0, q2, g2, 0, [], [], rv, rules, ⟨0, 0, 0, 0, 0⟩⟩ :=
  ⟨hb, h1, h2, hr, (by intro x hx; cases hx), (by intro x hx; cases hx), hq, hg, by simp [blk]⟩

theorem new_step {room B b : Nat} {w2 w3 w4 : World} {S : List Stn} {sv rv : Value} {q1 g1 q2 g2 g4 p4 : Nat} {L : List Rl} {O : Obj} (hX3 : Has w3 b tB #[sv, .slice none 0 0]) (hX4 : Has w4 b tB #[sv, .slice none 0 0]) (hO3 : w3.ownsRow (b + 1) tP 1 sv S.length (S.map fun s => .pointer (some ⟨s.box, 0, none⟩)))
    (hS : StsOk room w2 S) (hb3 : Below w2.heap.size w2 w3) (hr1 : RingF w2 q1 g1 room 0 []) (hr2 : RingF w2 q2 g2 room 0 []) (hc : w3.ownsRow w2.heap.size tR 3 rv L.length (L.flatMap Rl.c))
    (ho4 : w4.ownsRow (b + 1) tP 1 (.slice (some ⟨g4, 0, none⟩) (S.length + 1) p4) (S.length + 1) ((S.map fun s => .pointer (some ⟨s.box, 0, none⟩)) ++ [.pointer (some ⟨w3.heap.size, 0, none⟩)]))
    (hg4 : ((w3.alloc (.cells #[.pointer (some ⟨q1, 0, none⟩), .pointer (some ⟨q2, 0, none⟩), rv, .int .i64 0, .int .i64 0, .int .i64 0, .int .i64 0, .int .i64 0] tS)).alloc O).grownBy w4 sv.ownBlock)
    (hlt : ∀ k, mutS S k → k < B) (h1 : B ≤ q1) (h2 : B ≤ g1) (h3 : B ≤ q2) (h4 : B ≤ g2) (h5 : B ≤ w3.heap.size) (hq : q1 ≠ q2) (hg : g1 ≠ g2) (nv : Value) (hnv : nv = .slice (some ⟨g4, 0, none⟩) (S.length + 1) p4) :
    Has (w4.setCell ⟨b, 0, none⟩ nv) b tB #[nv, .slice none 0 0] ∧ (w4.setCell ⟨b, 0, none⟩ nv).ownsRow (b + 1) tP 1 nv (S ++ [(⟨w3.heap.size, q1, g1, 0, q2, g2, 0, [], [], rv, L, ⟨0, 0, 0, 0, 0⟩⟩ : Stn)]).length ((S ++ [(⟨w3.heap.size, q1, g1, 0, q2, g2, 0, [], [], rv, L, ⟨0, 0, 0, 0, 0⟩⟩ : Stn)]).map fun s : Stn => .pointer (some ⟨s.box, 0, none⟩)) ∧
    StsOk room (w4.setCell ⟨b, 0, none⟩ nv) (S ++ [(⟨w3.heap.size, q1, g1, 0, q2, g2, 0, [], [], rv, L, ⟨0, 0, 0, 0, 0⟩⟩ : Stn)]) ∧ Below (b + 1) w3 w4 ∧ (∀ k, mutS (S ++ [(⟨w3.heap.size, q1, g1, 0, q2, g2, 0, [], [], rv, L, ⟨0, 0, 0, 0, 0⟩⟩ : Stn)]) k → mutS S k ∨ B ≤ k) := by
  subst hnv
  have hkp : Kp (fun j => sv.ownBlock = some j) w3 w4 := (((Kp.refl _ w3).alloc _).alloc _).grown hg4 fun j hj => .inl hj
  have hFt : ∀ j t, sv.ownBlock = some j → tyAt w3 j = some t → t = tP := fun j t hj ht => by
    have := own_ty hO3 hj
    rw [ht] at this
    exact Option.some.inj this
  have hS4 := (hS.below hb3).kept hkp fun j t hj ht => by rw [hFt j t hj ht]; decide
  have ring4 : ∀ {q g : Nat}, RingF w2 q g room 0 [] → RingF w4 q g room 0 [] := fun {q g} h => by
    have h3 := ring_below h hb3
    have ht := ring_ty h3
    exact h3.keep (hkp.block _ h3.lt.1 fun hf => absurd (hFt _ _ hf ht.1) (by decide)) (hkp.block _ h3.lt.2 fun hf => absurd (hFt _ _ hf ht.2) (by decide))
  have hc4 : w4.ownsRow 0 tR 3 rv L.length (L.flatMap Rl.c) := own_base (hkp.own hc fun g hg hf => absurd (hFt _ _ hf (own_ty hc hg)) (by decide)) (Nat.zero_le _)
  have hbox4 : Has w4 w3.heap.size tS #[.pointer (some ⟨q1, 0, none⟩), .pointer (some ⟨q2, 0, none⟩), rv, .int .i64 0, .int .i64 0, .int .i64 0, .int .i64 0, .int .i64 0] :=
    ((Has.new w3 _ _).alloc _).grown hg4 fun e => by
      have := ty_lt (own_ty hO3 e.symm)
      omega
  have hst4 := stn_new hbox4 (ring4 hr1) (ring4 hr2) hc4 hq hg
  have hSS : StsOk room w4 (S ++ [(⟨w3.heap.size, q1, g1, 0, q2, g2, 0, [], [], rv, L, ⟨0, 0, 0, 0, 0⟩⟩ : Stn)]) := hS4.snoc hst4 hlt (by
    intro k hk
    rcases hk with rfl | rfl | rfl | rfl | rfl
    · exact h5
    · exact h1
    · exact h3
    · exact h2
    · exact h4) rfl
  have hbt := has_ty hX4
  have hset : ∀ nv, Kp (fun k => k = b) w4 (w4.setCell ⟨b, 0, none⟩ nv) := fun nv => (Kp.refl (fun k => k = b) w4).set (p := ⟨b, 0, none⟩) (.inl rfl) nv
  refine ⟨has_to hX4 0 _ rfl, ?_, hSS.kept (hset _) fun k t hf ht => ?_, ?_, ?_⟩
  · have h0 := (hset (.slice (some ⟨g4, 0, none⟩) (S.length + 1) p4)).own ho4 fun g hg hf => by
      have hf' : g = b := hf
      subst hf'
      have := own_ty ho4 hg
      rw [hbt] at this
      exact absurd (Option.some.inj this) (by decide)
    rw [List.length_append, List.map_append]
    exact h0
  · have hf' : k = b := hf
    subst hf'
    rw [hbt] at ht
    cases ht
    decide
  · exact hkp.to_below (Below.refl (b + 1) w3) (by have := hX3.lt; omega) fun k hf => (hO3.lt k hf).1
  · rintro k ⟨t, ht, hm⟩
    rw [List.map_append] at ht
    rcases List.mem_append.1 ht with h | h
    · exact .inl ⟨t, h, hm⟩
    · simp at h
      subst h
      rcases hm with rfl | rfl | rfl | rfl | rfl
      · exact .inr h5
      · exact .inr h1
      · exact .inr h3
      · exact .inr h2
      · exact .inr h4

set_option maxRecDepth 100000 in
set_option maxHeartbeats 2000000 in
theorem new_any (room : Nat) (w : World) (v : Value) (rules : List (List Rl)) (hv : SlK 1 rowsE w (Old w.heap.size) v rules) (h1 : 1 ≤ rules.length) (h8 : rules.length ≤ 8) (hr1 : 1 ≤ room) (hr : room ≤ 64) (hlen : ∀ l ∈ rules, l.length * 12 ≤ 140737488355328) :
    Calls Try.prog 8 #[.int .i64 (room : Int), v] w (NewPost room w rules) := by
  obtain ⟨i0, hi, hz0, hz1, hz2⟩ := info_parts Try.infoEStnP
  obtain ⟨A, cap, rfl, hcap, hmax⟩ := hv.form
  unfold maxLen at hmax
  have HV := Lib.hid hv
  have HLEN := Lib.hid hlen
  clear hv hlen
  obtain ⟨n, hn⟩ : ∃ n, n = rules.length := ⟨_, rfl⟩
  rw [← hn] at h1 h8 hcap ⊢
  have HN := Lib.hid hn; clear hn
  have d1 : decide ((n : Int) < 1) = false := decide_eq_false (by omega)
  have d2 : decide (8 < (n : Int)) = false := decide_eq_false (by omega)
  go_enter Try.func8, Try.ntmps8
  go_wp2
  go_loopw [25] (fun i wr => ∃ (k : Nat) (S : List Stn) (sv : Value), k ≤ n ∧ i = .int .i64 k ∧ Has wr w.heap.size tB #[sv, .slice none 0 0] ∧ Hid (wr.ownsRow (w.heap.size + 1) tP 1 sv S.length (S.map fun s => .pointer (some ⟨s.box, 0, none⟩))) ∧ Hid (StsOk room wr S) ∧ Hid (S.map Stn.a = (rules.take k).map freshA) ∧ Below w.heap.size w wr ∧ Hid (∀ j, mutS S j → w.heap.size ≤ j) ∧ Hid (S.length = k)) (fun i _ => n - (intOf i).toNat)
  case atStart =>
    refine ⟨0, [], _, Nat.zero_le _, rfl, Has.new _ _ _, Lib.hid (World.ownsRow_nil _ _ _ _), Lib.hid ⟨fun i s h => by simp at h, fun i j s t h => by simp at h⟩, Lib.hid (by simp), (by repeat' (first | (with_reducible assumption) | (with_reducible refine Below.setCell ?_ ?_ _) | (with_reducible refine Below.alloc ?_ ?_ _) | (with_reducible refine Below.drew ?_) | (with_reducible refine below_drewN ?_ _) | (with_reducible exact Below.refl _ _) | (show _ ≤ _; (try simp); (try omega); done) | exact Below.refl _ _ | assumption)), Lib.hid (by rintro j ⟨t, ht, _⟩; simp at ht), Lib.hid rfl⟩
  case round =>
    obtain ⟨k, S, sv, hk, rfl, hX, hO, hS, hA, hB, hG, hSk⟩ := hrel
    have hSl : S.length ≤ 8 := by have := hSk.out; omega
    by_cases hlt : k < n
    · obtain ⟨g, off, cs, rfl, hg, hcl, hrg, hR⟩ := HV.out.at_ (A := A) (i := k) (by rw [← HN.out]; exact hlt)
      obtain ⟨v0, rfl, hv0⟩ := hR
      obtain ⟨A0, c0, rfl, hc0, hm0⟩ := hv0.form
      have hgl : g < w.heap.size := hg
      have q0 : wr.cell? ⟨g, off + k, none⟩ = some (.slice A0 (rules[k]'(by rw [← HN.out]; exact hlt)).length c0) := (hB.cell (p := ⟨g, off + k, none⟩) hgl).trans (by simpa using hrg 0 _ rfl)
      obtain ⟨L, hL⟩ : ∃ L, L = rules[k]'(by rw [← HN.out]; exact hlt) := ⟨_, rfl⟩
      rw [← hL] at q0 hv0 hc0
      have HL := Lib.hid (show rules[k]? = some L by rw [hL]; exact List.getElem?_eq_getElem _)
      have HV0 := Lib.hid hv0
      have hsz := hB.size
      have HX := Lib.hid hX
      have HB := Lib.hid hB
      have hXl := hX.lt
      clear hrg hcl hL hv0 hX
      go_wp2_with fail
      refine (new_ok room _ hr1 hr).mono ?_
      rintro e w1 ⟨q1, g1, rfl, hr1', hb1, hq1, hg1⟩
      have hs1 := hb1.size
      go_wp2_with fail
      refine (new_ok room _ hr1 hr).mono ?_
      rintro e w2 ⟨q2, g2, rfl, hr2', hb2, hq2, hg2⟩
      have hs2 := hb2.size
      have hb12 : Below wr.heap.size wr w2 := hb1.trans (hb2.mono hs1)
      have HR1 := Lib.hid (ring_below hr1' hb2)
      have HR2 := Lib.hid hr2'
      have hl1 := hr1'.lt
      have HB2 := Lib.hid (hB.trans (hb12.mono hsz))
      have HX2 := Lib.hid (HX.out.below hb12 HX.out.lt)
      have HO2 := Lib.hid (own_kept hO.out hb12)
      have HS2 := Lib.hid (hS.out.below hb12)
      have HV2 := Lib.hid (SlK.belowF (B := w.heap.size) ruleE_mono HV0.out (fun _ h => h) HB2.out)
      have x2 : w2.cell? ⟨w.heap.size, 0, none⟩ = some sv := (HX2.out.cell 0).trans rfl
      have hXl2 := HX2.out.lt
      have hq12 : q1 < q2 := by omega
      clear hr1' hr2' hb1 hb2 hb12
      obtain ⟨xs, hsrc, hxs⟩ := HV2.out
      have hflat : xs = L.flatMap Rl.c := by
        obtain ⟨A', c', _, _, _, hl, _⟩ := hsrc
        exact flat3 L xs hl fun i x hi => hxs i x hi
      subst hflat
      have HSRC := Lib.hid hsrc
      clear hsrc hxs
      have hby : L.length * 12 ≤ 140737488355328 := HLEN.out L (List.mem_of_getElem? HL.out)
      have hone : ∀ u ∈ L.flatMap Rl.c, u.oneCell' = true := by
        intro u hu
        obtain ⟨x, _, hx⟩ := List.mem_flatMap.1 hu
        simp [Rl.c] at hx
        rcases hx with rfl | rfl | rfl <;> rfl
      have HONE := Lib.hid hone
      clear hone
      go_wp2
      go_region_law (first
        | (go_simp; go_at_call 25; refine (cloneRule.clone_raw _ L.length (L.flatMap Rl.c) (Old w.heap.size) _ (by exact HSRC.out) HONE.out hby).mono ?_; rintro e w3 ⟨v3, rfl, ho3, hb3⟩; obtain ⟨A3, c3, rfl⟩ := decW.own_slice ho3; have HB3 := Lib.hid (show Below w2.heap.size w2 w3 from ⟨hb3.os, hb3.tape, hb3.output, hb3.size, hb3.block⟩); have HC3 := Lib.hid ho3; have x3 : w3.cell? ⟨w.heap.size, 0, none⟩ = some sv := (HB3.out.cell (p := ⟨w.heap.size, 0, none⟩) hXl2).trans x2; have z3 : w2.heap.size ≤ w3.heap.size := HB3.out.size; have z3' : w.heap.size < w3.heap.size := Nat.lt_of_lt_of_le hXl2 z3; have HO3 := Lib.hid (own_kept HO2.out HB3.out); have HX3 := Lib.hid (HX2.out.below HB3.out HX2.out.lt); clear ho3 hb3)
        | (refine step_append_lies _ (by rfl) (.tmp 49) (.tmp 56) 71 (by rfl) (w.heap.size + 1) tP i0 (.pointer none) 1 8 Try.underlying71 hi hz0 hz1 hz2 (by rfl) (by decide) sv S.length (S.map fun s => .pointer (some ⟨s.box, 0, none⟩)) (by rfl) (by exact (HO3.out.alloc _).alloc _) ⟨w3.heap.size + 1, 0, none⟩ 1 1 [.pointer (some ⟨w3.heap.size, 0, none⟩)] (by rfl) (by rfl) (by exact World.news_of_block (cs := #[.pointer (some ⟨w3.heap.size, 0, none⟩)]) (has_new1 w3 _ tP _)) (by intro u hu; simp at hu; subst hu; rfl) (by decide) (by unfold maxLen; omega) (by omega) (by simp; omega) _ (by rfl) ?_; intro g4 p4 w4 ho4 hg4 hor4 hlt4; have hX4 : Has w4 w.heap.size tB #[sv, .slice none 0 0] := Has.grown (by exact (HX3.out.alloc _).alloc _) hg4 (fun e => own_has_ne HO3.out HX3.out (by decide) e.symm); have x4 : w4.cell? ⟨w.heap.size, 0, none⟩ = some sv := (hX4.cell 0).trans rfl; have f4 : w4.frozen? ⟨w.heap.size, 0, none⟩ = false := hX4.frozen 0; have z4 := hX4.lt; have HX4 := Lib.hid hX4; have HO4 := Lib.hid ho4; have HG4 := Lib.hid hg4; clear hX4 ho4 hg4 hor4))
      all_goals
        obtain ⟨t1, t2, t3, t4, t5⟩ := new_step (B := wr.heap.size) HX3.out HX4.out HO3.out HS2.out HB3.out HR1.out HR2.out HC3.out HO4.out HG4.out (fun k hk => mut_lt hS.out hk) (by omega) (by omega) (by omega) (by omega) (by omega) (by omega) (by omega) _ rfl
        have hbel : Below w.heap.size w (w4.setCell ⟨w.heap.size, 0, none⟩ (.slice (some ⟨g4, 0, none⟩) (S.length + 1) p4)) := ((HB2.out.trans (HB3.out.mono (by omega))).trans (t4.mono (by omega))).setCell (Nat.le_refl _) _
        have hmap : (S ++ [(⟨w3.heap.size, q1, g1, 0, q2, g2, 0, [], [], .slice A3 L.length c3, L, ⟨0, 0, 0, 0, 0⟩⟩ : Stn)]).map Stn.a = (rules.take (k + 1)).map freshA := by
          obtain ⟨hkl, he⟩ := List.getElem?_eq_some_iff.1 HL.out
          rw [take_snoc rules k hkl, List.map_append, List.map_append, hA.out, he]
          rfl
        have hge : ∀ j, mutS (S ++ [(⟨w3.heap.size, q1, g1, 0, q2, g2, 0, [], [], .slice A3 L.length c3, L, ⟨0, 0, 0, 0, 0⟩⟩ : Stn)]) j → w.heap.size ≤ j := fun j hj => by
          rcases t5 j hj with h | h
          · exact hG.out j h
          · omega
        have HT1 := Lib.hid t1
        have HT2 := Lib.hid t2
        have HT3 := Lib.hid t3
        have HBE := Lib.hid hbel
        have HMA := Lib.hid hmap
        have HGE := Lib.hid hge
        clear t1 t2 t3 t4 t5 hbel hmap hge
        go_wp2
        exact ⟨⟨k + 1, S ++ [(⟨w3.heap.size, q1, g1, 0, q2, g2, 0, [], [], .slice A3 L.length c3, L, ⟨0, 0, 0, 0, 0⟩⟩ : Stn)], .slice (some ⟨g4, 0, none⟩) (S.length + 1) p4, by omega, by go_num, HT1.out, HT2, HT3, HMA, HBE.out, HGE, Lib.hid (by have := hSk.out; simp; omega)⟩, by simp [intOf]; omega⟩
    · obtain rfl : k = n := by omega
      have hO' := own_base hO.out (Nat.zero_le _)
      have hbus : BusAt room wr w.heap.size ⟨sv, .slice none 0 0, S, []⟩ := ⟨hX, hO', hS.out, ⟨World.ownsRow_nil _ _ _ _, by intro x hx; cases hx⟩, ⟨hr1, hr⟩, by show 1 ≤ S.length ∧ S.length ≤ 8; have := hSk.out; omega⟩
      have HBUS := Lib.hid hbus
      have hA' : S.map Stn.a = rules.map freshA := by
        have := hA.out
        rwa [List.take_of_length_le (Nat.le_of_eq HN.out.symm)] at this
      have HA' := Lib.hid hA'
      clear hO' hbus hA' hX
      go_wp2
      go_ret2
      refine ⟨_, _, rfl, HBUS.out, hB, ?_, ?_, rfl⟩
      · show (⟨S.map Stn.a, []⟩ : ABus) = _
        rw [HA'.out]
      · rintro j (rfl | hj)
        · exact Nat.le_refl _
        · exact hG.out j hj
end busM
end Go.Proofs.Ytomkgnlooheibaa

namespace Go.Proofs.Ytomkgnlooheibaa
open Go.RowKit Go.Bus Go.Bus.ringK Go.Bus.ring3K Go.Bus.busK Go.Bus.cellK Go.Bus.decK Go.Bus.bitK
set_option linter.unusedVariables false
set_option linter.unusedSimpArgs false
theorem Try.infoELate : (Try.prog.info? 91).map (fun i => (i.zero, i.size, i.bytes)) = some (some (.agg #[.int .i64 0, .slice none 0 0, .bool false, .int .i64 0]), 4, 48) := by kernel_rfl
namespace busM
open qframe
theorem flat4 : ∀ (L : List Lt) (k j : Nat) (y : Lt) (u : Value), L[k]? = some y → (Lt.c y)[j]? = some u → (L.flatMap Lt.c)[k * 4 + j]? = some u := by
  intro L
  induction L with
  | nil => intro k j y u h; simp at h
  | cons z t ih =>
    intro k j y u h hu
    have hj : j < 4 := (List.getElem?_eq_some_iff.1 hu).1
    rw [List.flatMap_cons]
    cases k with
    | zero =>
      simp at h
      subst h
      rw [Nat.zero_mul, Nat.zero_add, List.getElem?_append_left (by simpa [Lt.c] using hj)]
      exact hu
    | succ k =>
      rw [List.getElem?_append_right (by simp [Lt.c]; omega)]
      have := ih k j y u (by simpa using h) hu
      rw [show (k + 1) * 4 + j - (Lt.c z).length = k * 4 + j from by simp [Lt.c]; omega]
      exact this
theorem row4 {w : World} {g n c : Nat} {L : List Lt} (h : w.ownsRow 0 tL 4 (.slice (some ⟨g, 0, none⟩) n c) n (L.flatMap Lt.c)) {k : Nat} {y : Lt} (hk : L[k]? = some y) (j : Nat) (u : Value) (hu : (Lt.c y)[j]? = some u) : w.cell? ⟨g, k * 4 + j, none⟩ = some u := by
  have h1 := h.cells (g := g) rfl (k * 4 + j) u (flat4 L k j y u hk hu)
  rw [Addr.add_mid, Nat.zero_add] at h1
  exact h1
theorem bits_kept {w w' : World} {F : Nat → Prop} {v : Value} {l : List Bool} (h : BitsOk w v l) (hk : Kp F w w') (hF : ∀ k t, F k → tyAt w k = some t → t ≠ tBo) : BitsOk w' v l :=
  ⟨own_at h.1 fun g hg => hk.block g (ty_lt (own_ty h.1 hg)) fun hf => hF g tBo hf (own_ty h.1 hg) rfl, h.2⟩
theorem late_kept {w w' : World} {F : Nat → Prop} {lv : Value} {L : List Lt} (h : LateOk w lv L) (hk : Kp F w w') (hF : ∀ k t, F k → tyAt w k = some t → t ≠ tBo ∧ t ≠ tL) : LateOk w' lv L :=
  ⟨own_at h.row fun g hg => hk.block g (ty_lt (own_ty h.row hg)) fun hf => (hF g tL hf (own_ty h.row hg)).2 rfl, fun x hx => bits_kept (h.bits x hx) hk fun k t hf ht => (hF k t hf ht).1⟩
def TickPost (room : Nat) (w : World) (b : Nat) (B : BusS) (o : Option ABus) (e : Ending) (w' : World) : Prop :=
  match o with
  | none => e = .returned (.iface 70 (.int .i64 25)) ∧ Below w.heap.size w w'
  | some A => ∃ B', e = .returned .nilIface ∧ BusAt room w' b B' ∧ Go w b B w' B' ∧ B'.a = A ∧ B'.L.length ≤ B.L.length + 1
/-- What was late, in order: so far, and what is left. -/
theorem lateA_step1 {room : Nat} {L : List ALt} {k : Nat} {x : ALt} {A : List ASt} (h : L[k]? = some x) (hy : 0 < wrap64 (x.by_ - 1)) : lateA room (L.drop k) A = ((lateA room (L.drop (k + 1)) A).1, { x with by_ := wrap64 (x.by_ - 1) } :: (lateA room (L.drop (k + 1)) A).2) := by
  obtain ⟨hk, he⟩ := List.getElem?_eq_some_iff.1 h
  rw [List.drop_eq_getElem_cons hk, he, lateA]
  rw [if_pos hy]
theorem lateA_step2 {room : Nat} {L : List ALt} {k : Nat} {x : ALt} {A : List ASt} (h : L[k]? = some x) (hy : ¬ 0 < wrap64 (x.by_ - 1)) : lateA room (L.drop k) A = lateA room (L.drop (k + 1)) (comesA room A x) := by
  obtain ⟨hk, he⟩ := List.getElem?_eq_some_iff.1 h
  rw [List.drop_eq_getElem_cons hk, he, lateA]
  rw [if_neg hy]
theorem lt_one {w : World} {M : List Lt} (h : ∀ x ∈ M, BitsOk w x.bv x.bits) : ∀ u ∈ M.flatMap Lt.c, u.oneCell' = true := by
  intro u hu
  obtain ⟨x, hx, hu⟩ := List.mem_flatMap.1 hu
  obtain ⟨A, c, e⟩ := decW.own_slice (h x hx).1
  simp [Lt.c] at hu
  rcases hu with rfl | rfl | rfl | rfl
  · rfl
  · rw [e]; rfl
  · rfl
  · rfl
theorem own_cells4 {w : World} {base n c : Nat} {am : Addr} {xs : List Value} (h : w.ownsRow base tL 4 (.slice (some am) n c) n xs) : ∀ (j : Nat) (u : Value), xs[j]? = some u → w.cell? (am.add j) = some u := by
  rcases h.2 with ⟨h0, _⟩ | ⟨g, cap, cur, hv, _⟩
  · simp at h0
  · have he : am = ⟨g, 0, none⟩ := by simpa using congrArg (fun v => match v with | Value.slice (some a) _ _ => a | _ => am) hv
    subst he
    exact h.cells (g := g) rfl
theorem FlOk.below {w w' : World} {S : List Stn} {v : Value} {l : List Int} (h : FlOk w S v l) (hb : Below w.heap.size w w') : FlOk w' S v l := by
  obtain ⟨A, cap, h1, h2, h3, h4⟩ := h
  refine ⟨A, cap, h1, h2, h3, fun h0 => ?_⟩
  obtain ⟨b, off, e, hl, hm, hc⟩ := h4 h0
  exact ⟨b, off, e, Nat.lt_of_lt_of_le hl hb.size, hm, fun i x hi => (hb.cell (p := ⟨b, off + i, none⟩) hl).trans (hc i x hi)⟩
theorem tick_end {room b : Nat} {w W0 wr w7 : World} {B : BusS} {S1 S' : List Stn} {TM : List Lt} {nv : Value} {F : Nat → Prop} (hBA : BusAt room W0 b { B with S := S1 }) (hMV : Mv w B.S W0 S1) (hS : StsOk room wr S') (hM : Mv W0 S1 wr S')
    (hk : Kp F wr w7) (hF : ∀ k, F k → W0.heap.size ≤ k) (hFt : ∀ k t, F k → tyAt wr k = some t → t = tL) (hrow : w7.ownsRow 0 tL 4 nv TM.length (TM.flatMap Lt.c)) (hbits : ∀ x ∈ TM, BitsOk w7 x.bv x.bits) :
    BusAt room (w7.setCell ⟨b, 1, none⟩ nv) b ⟨B.sv, nv, S', TM⟩ ∧ Go w b B (w7.setCell ⟨b, 1, none⟩ nv) ⟨B.sv, nv, S', TM⟩ := by
  have hBR := hBA.mv hM hS
  have hbt := has_ty hBR.box
  have hS7 := hS.kept hk fun k t hf ht => by rw [hFt k t hf ht]; decide
  have hbox7 := hk.has hBR.box fun hf => by have := hFt b tB hf hbt; exact absurd this (by decide)
  have hbt7 := has_ty hbox7
  have hrow7 := hk.own hBR.row fun g hg hf => by have := hFt g tP hf (own_ty hBR.row hg); exact absurd this (by decide)
  have hset : Kp (fun k => k = b) w7 (w7.setCell ⟨b, 1, none⟩ nv) := (Kp.refl (fun k => k = b) w7).set (p := ⟨b, 1, none⟩) (.inl rfl) nv
  have hsb : ∀ {k : Nat} {t : TypeId}, tyAt w7 k = some t → t ≠ tB → ¬ k = b := fun {k t} h1 h2 e => by subst e; rw [hbt7] at h1; exact h2 (Option.some.inj h1).symm
  have hlen : 1 ≤ S'.length ∧ S'.length ≤ 8 := hBR.n
  refine ⟨⟨has_to hbox7 1 nv rfl, hset.own hrow7 fun g hg => hsb (own_ty hrow7 hg) (by decide), hS7.kept hset fun k t hf ht => ?_, ⟨hset.own hrow fun g hg => hsb (own_ty hrow hg) (by decide), fun x hx => bits_kept (hbits x hx) hset fun k t hf ht => ?_⟩, hBR.room, hlen⟩, ?_⟩
  · have hf' : k = b := hf
    subst hf'
    rw [hbt7] at ht
    cases ht
    decide
  · have hf' : k = b := hf
    subst hf'
    rw [hbt7] at ht
    cases ht
    decide
  · have hmm := hMV.trans hM
    refine ⟨hmm.sk, ?_, hmm.bl⟩
    have h1 : Kp (fun k => k = b ∨ mutS B.S k) w w7 := hk.mono_new (hmm.kp.mono fun k hf => .inr hf) fun k hf => .inr (Nat.le_trans hMV.kp.size (hF k hf))
    exact h1.set (.inl (.inl rfl)) nv
theorem tick_more {room b : Nat} {w W0 wr w7 : World} {B : BusS} {S1 S' : List Stn} {T M : List Lt} {st v7 : Value} (hBA : BusAt room W0 b { B with S := S1 }) (hMV : Mv w B.S W0 S1) (hS : StsOk room wr S') (hM : Mv W0 S1 wr S')
    (hown : wr.ownsRow W0.heap.size tL 4 st T.length (T.flatMap Lt.c)) (hbit : ∀ x ∈ T, BitsOk wr x.bv x.bits) (hbm : ∀ x ∈ M, BitsOk wr x.bv x.bits) (ho7 : w7.ownsRow W0.heap.size tL 4 v7 (T.length + M.length) (T.flatMap Lt.c ++ M.flatMap Lt.c)) (hg7 : wr.grownBy w7 st.ownBlock) :
    ∃ A c, v7 = .slice A (T.length + M.length) c ∧ w7.cell? ⟨b, 1, none⟩ = some B.lv ∧ (∀ i, w7.frozen? ⟨b, i, none⟩ = false) ∧ b < w7.heap.size ∧ Hid (BusAt room (w7.setCell ⟨b, 1, none⟩ v7) b ⟨B.sv, v7, S', T ++ M⟩ ∧ Go w b B (w7.setCell ⟨b, 1, none⟩ v7) ⟨B.sv, v7, S', T ++ M⟩) := by
  have HBR := hBA.mv hM hS
  have hkp : Kp (fun j => st.ownBlock = some j) wr w7 := (Kp.refl _ wr).grown hg7 fun j hj => .inl hj
  have hFt : ∀ j t, st.ownBlock = some j → tyAt wr j = some t → t = tL := fun j t hj ht => by
    have := own_ty hown hj
    rw [ht] at this
    exact Option.some.inj this
  have hrow7 : w7.ownsRow 0 tL 4 v7 (T ++ M).length ((T ++ M).flatMap Lt.c) := by
    rw [List.length_append, List.flatMap_append]
    exact own_base ho7 (Nat.zero_le _)
  have hbits7 : ∀ x ∈ T ++ M, BitsOk w7 x.bv x.bits := by
    intro x hx
    rcases List.mem_append.1 hx with h1 | h1
    · exact bits_kept (hbit x h1) hkp fun j t hj ht => by rw [hFt j t hj ht]; decide
    · exact bits_kept (hbm x h1) hkp fun j t hj ht => by rw [hFt j t hj ht]; decide
  have hb7 := hkp.has HBR.box fun hf => by
    have := hFt b tB hf (has_ty HBR.box)
    exact absurd this (by decide)
  obtain ⟨A7, c7, hv7⟩ := decW.own_slice ho7
  exact ⟨A7, c7, hv7, (hb7.cell 1).trans rfl, fun i => hb7.frozen i, hb7.lt, tick_end hBA hMV hS hM hkp (fun j hj => (hown.lt j hj).1) hFt hrow7 hbits7⟩
theorem tick_app {room : Nat} {W0 wr w7 : World} {S1 S' : List Stn} {T : List Lt} {y : Lt} {st v7 : Value} {O1 O2 : Obj} (hS : StsOk room wr S') (hM : Mv W0 S1 wr S')
    (hown : wr.ownsRow W0.heap.size tL 4 st T.length (T.flatMap Lt.c)) (hbit : ∀ x ∈ T, BitsOk wr x.bv x.bits) (hy : BitsOk wr y.bv y.bits) (ho7 : w7.ownsRow W0.heap.size tL 4 v7 (T.length + 1) (T.flatMap Lt.c ++ Lt.c y)) (hg7 : ((wr.alloc O1).alloc O2).grownBy w7 st.ownBlock) :
    Hid (StsOk room w7 S') ∧ Hid (Mv W0 S1 w7 S') ∧ Hid (w7.ownsRow W0.heap.size tL 4 v7 (T ++ [y]).length ((T ++ [y]).flatMap Lt.c)) ∧ Hid (∀ x ∈ T ++ [y], BitsOk w7 x.bv x.bits) := by
  have hkp : Kp (fun j => st.ownBlock = some j) wr w7 := (((Kp.refl _ wr).alloc _).alloc _).grown hg7 fun j hj => .inl hj
  have hFt : ∀ j t, st.ownBlock = some j → tyAt wr j = some t → t = tL := fun j t hj ht => by
    have := own_ty hown hj
    rw [ht] at this
    exact Option.some.inj this
  refine ⟨hS.kept hkp fun j t hj ht => by rw [hFt j t hj ht]; decide, hM.more hkp fun j hj => (hown.lt j hj).1, ?_, ?_⟩
  · unfold Hid
    rw [List.length_append, List.flatMap_append]
    simpa using ho7
  · intro x hx
    rcases List.mem_append.1 hx with h1 | h1
    · exact bits_kept (hbit x h1) hkp fun j t hj ht => by rw [hFt j t hj ht]; decide
    · simp at h1; subst h1
      exact bits_kept hy hkp fun j t hj ht => by rw [hFt j t hj ht]; decide
theorem tickA_none {room : Nat} {B : ABus} {w : AWire} (h : firstA B.st B.st.length = none) : tickA room B w = if B.late = [] then none else some ⟨(lateA room B.late B.st).1, (lateA room B.late B.st).2⟩ := by
  unfold tickA; rw [h]
theorem tickA_some {room i : Nat} {f : F3} {B : ABus} {w : AWire} (h : firstA B.st B.st.length = some (i, f)) : tickA room B w = some ⟨(lateA room B.late (goesA room B.st i f w).1).1, (lateA room B.late (goesA room B.st i f w).1).2 ++ (goesA room B.st i f w).2⟩ := by
  unfold tickA; rw [h]

set_option maxRecDepth 100000 in
set_option maxHeartbeats 4000000 in
theorem tick_any {room b : Nat} {w : World} {B : BusS} (h : BusAt room w b B) (d : WireD) (hd : FlOk w B.S d.fv d.flips) (hL : B.L.length ≤ 1000000) :
    Calls Try.prog 13 #[.pointer (some ⟨b, 0, none⟩), d.v] w (TickPost room w b B (tickA room B.a d.a)) := by
  obtain ⟨i0, hi0, hz0i, hz1i, hz2i⟩ := info_parts Try.infoELate
  obtain ⟨lost, twice, late, fv, flips⟩ := d
  have HD := Lib.hid hd
  obtain ⟨Af, cf, hfv, -, -, -⟩ := hd
  dsimp only at hfv
  subst hfv
  unfold WireD.v
  dsimp only
  have hbl := h.box.lt
  obtain ⟨Al, cl, hlv⟩ := decW.own_slice h.late.row
  have HLV0 := Lib.hid hlv; clear hlv
  have H := Lib.hid h; clear h
  obtain ⟨nL, hnl⟩ : ∃ nL, nL = B.L.length := ⟨_, rfl⟩
  have HLV : Hid (B.lv = .slice Al nL cl) := by unfold Hid; rw [hnl]; exact HLV0.out
  rw [← hnl] at hL
  have HNL := Lib.hid hnl
  clear hnl HLV0
  go_enter Try.func13, Try.ntmps13
  go_wp2_with fail
  refine (first_any (H.out.below (w' := w.alloc (.cells #[.bool lost, .bool twice, .int .i64 late, .slice Af flips.length cf] 38)) (by exact (by repeat' (first | (with_reducible assumption) | (with_reducible refine Below.setCell ?_ ?_ _) | (with_reducible refine Below.alloc ?_ ?_ _) | (with_reducible refine Below.drew ?_) | (with_reducible refine below_drewN ?_ _) | (with_reducible exact Below.refl _ _) | (show _ ≤ _; (try simp); (try omega); done) | exact Below.refl _ _ | assumption))))).mono ?_
  rintro e w1 ⟨hb_w1, hfp⟩
  have hB1 : Below w.heap.size w w1 := Below.trans (b := _) (by repeat' (first | (with_reducible assumption) | (with_reducible refine Below.setCell ?_ ?_ _) | (with_reducible refine Below.alloc ?_ ?_ _) | (with_reducible refine Below.drew ?_) | (with_reducible refine below_drewN ?_ _) | (with_reducible exact Below.refl _ _) | (show _ ≤ _; (try simp); (try omega); done) | exact Below.refl _ _ | assumption)) (hb_w1.mono (by (try simp); (try omega)))
  have hw1 := (Has.new w 38 #[.bool lost, .bool twice, .int .i64 late, .slice Af flips.length cf]).below hb_w1 (by simp)
  have c1 : w1.cell? ⟨b, 1, none⟩ = some (.slice Al nL cl) := ((H.out.below hB1).box.cell 1).trans (by show some B.lv = _; rw [HLV.out])
  have hz1 := hw1.lt
  have hbw1 : b < w1.heap.size := by omega
  have HB1 := Lib.hid hB1
  have HW1 := Lib.hid hw1
  cases ho : firstA (B.S.map Stn.a) B.S.length with
  | none =>
    rw [ho] at hfp
    subst hfp
    have hfa : firstA B.a.st B.a.st.length = none := by show firstA (B.S.map Stn.a) (B.S.map Stn.a).length = none; rw [List.length_map]; exact ho
    have HTA := Lib.hid (tickA_none (room := room) (w := WireD.a ⟨lost, twice, late, .slice Af flips.length cf, flips⟩) hfa)
    clear hfa ho hw1 hB1 hb_w1
    unfold zF
    by_cases hn0 : nL = 0
    · have hln : B.L = [] := List.eq_nil_of_length_eq_zero (by rw [← HNL.out]; exact hn0)
      have HTN : Hid (tickA room B.a (WireD.a ⟨lost, twice, late, .slice Af flips.length cf, flips⟩) = none) := HTA.out.trans (if_pos (by show B.L.map Lt.a = []; rw [hln]; rfl))
      have d0 : ((nL : Int) == 0) = true := by rw [beq_iff_eq]; omega
      clear hln
      go_wp2
      go_ret
      rw [HTN.out]
      exact ⟨rfl, HB1.out.alloc (by omega) _⟩
    · have hln : B.a.late ≠ [] := by
        intro h0
        have h1 : (B.L.map Lt.a).length = 0 := by rw [show B.L.map Lt.a = [] from h0]; rfl
        rw [List.length_map, ← HNL.out] at h1
        exact hn0 h1
      obtain ⟨S1, hS1⟩ : ∃ S1, S1 = B.S := ⟨_, rfl⟩
      have HTK : Hid (tickA room B.a (WireD.a ⟨lost, twice, late, .slice Af flips.length cf, flips⟩) = some ⟨(lateA room (B.L.map Lt.a) (S1.map Stn.a)).1, (lateA room (B.L.map Lt.a) (S1.map Stn.a)).2⟩) := by
        subst hS1
        exact HTA.out.trans (if_neg hln)
      have d0 : ((nL : Int) == 0) = false := by rw [beq_eq_false_iff_ne]; omega
      have hal : Below w.heap.size w (w1.alloc (.cells #[.int .u32 0, .bool false, .slice none 0 0] 35)) := HB1.out.alloc (by omega) _
      have HBA : Hid (BusAt room (w1.alloc (.cells #[.int .u32 0, .bool false, .slice none 0 0] 35)) b { B with S := S1 }) := by subst hS1; exact H.out.below hal
      have HMV : Hid (Mv w B.S (w1.alloc (.cells #[.int .u32 0, .bool false, .slice none 0 0] 35)) S1) := by subst hS1; exact Mv.below hal
      clear hal hln
      go_wp2
      clear c1
      generalize w1.alloc (.cells #[.int .u32 0, .bool false, .slice none 0 0] 35) = W0 at HBA HMV ⊢
      clear hS1
      go_loopw [48, 10] (fun i st' wr => ∃ (st : Value) (k : Nat) (S' : List Stn) (T : List Lt), st = st' ∧ k ≤ nL ∧ i = .int .i64 k ∧ Hid (StsOk room wr S') ∧ Hid (Mv W0 S1 wr S') ∧ Hid (wr.ownsRow W0.heap.size tL 4 st T.length (T.flatMap Lt.c)) ∧ Hid (∀ x ∈ T, BitsOk wr x.bv x.bits) ∧ T.length ≤ k ∧ Hid (lateA room (B.L.map Lt.a) (S1.map Stn.a) = ((lateA room ((B.L.map Lt.a).drop k) (S'.map Stn.a)).1, T.map Lt.a ++ (lateA room ((B.L.map Lt.a).drop k) (S'.map Stn.a)).2))) (fun i _ _ => nL - (intOf i).toNat)
      case atStart => exact ⟨_, 0, S1, [], rfl, Nat.zero_le _, rfl, Lib.hid HBA.out.sts, Lib.hid (Mv.refl _ _), Lib.hid (World.ownsRow_nil _ _ _ _), Lib.hid (by intro x hx; cases hx), Nat.le_refl _, Lib.hid (by simp)⟩
      case round =>
        obtain ⟨st, k, S', T, rfl, hk, rfl, hS, hM, hown, hbit, hTk, hLA⟩ := hrel
        have hz0 := hM.out.kp.size
        have HBR := Lib.hid (HBA.out.mv hM.out hS.out)
        by_cases hlt : k < nL
        · obtain ⟨y, hy⟩ : ∃ y, B.L[k]? = some y := ⟨_, List.getElem?_eq_getElem (by rw [← HNL.out]; exact hlt)⟩
          obtain ⟨gl, cl2, hlv, hlc, -⟩ := own_form (HBR.out.late.row) (by show 0 < B.L.length; have := HNL.out; omega)
          have hlv2 : Al = some ⟨gl, 0, none⟩ := by
            have h1 : B.lv = .slice (some ⟨gl, 0, none⟩) B.L.length cl2 := hlv
            rw [HLV.out] at h1
            injection h1
          subst hlv2
          have hrow : wr.ownsRow 0 tL 4 (.slice (some ⟨gl, 0, none⟩) nL cl) nL (B.L.flatMap Lt.c) := by
            have := HBR.out.late.row
            rw [show (({ B with S := S' } : BusS).lv) = B.lv from rfl, HLV.out, show (({ B with S := S' } : BusS).L.length) = nL from HNL.out.symm] at this
            exact this
          have hyb : BitsOk wr y.bv y.bits := HBR.out.late.bits y (List.mem_of_getElem? hy)
          obtain ⟨Ab, cb, hbv⟩ := decW.own_slice hyb.1
          have y0 := row4 hrow hy 0 _ rfl
          have y1 := row4 hrow hy 1 _ rfl
          have y2 := row4 hrow hy 2 _ rfl
          have y3 := row4 hrow hy 3 _ rfl
          simp only [Nat.add_zero] at y0
          have hlb : gl < wr.heap.size := ty_lt (own_ty hrow rfl)
          have hya : (B.L.map Lt.a)[k]? = some y.a := by rw [List.getElem?_map, hy]; rfl
          obtain ⟨from_, bv, bits, twice, by_⟩ := y
          dsimp only at hbv y0 y1 y2 y3 hyb
          subst hbv
          have HYB := Lib.hid hyb
          have HYA := Lib.hid hya
          clear hyb hya hy hlv hrow
          by_cases hp : 0 < wrap64 (by_ - 1)
          · have HP := Lib.hid hp
            have t0 : decide (0 < wrap64 (by_ - 1)) = true := decide_eq_true hp
            clear hp
            have hal : Kp (fun _ => False) wr ((wr.alloc (.cells #[.int .i64 from_, .slice Ab bits.length cb, .bool twice, .int .i64 (wrap64 (by_ - 1))] tL)).alloc (.cells #[.int .i64 from_, .slice Ab bits.length cb, .bool twice, .int .i64 (wrap64 (by_ - 1))] tL)) := ((Kp.refl _ wr).alloc _).alloc _
            have HL7 : Hid (lateA room (B.L.map Lt.a) (S1.map Stn.a) = ((lateA room ((B.L.map Lt.a).drop (k + 1)) (S'.map Stn.a)).1, (T ++ [(⟨from_, .slice Ab bits.length cb, bits, twice, wrap64 (by_ - 1)⟩ : Lt)]).map Lt.a ++ (lateA room ((B.L.map Lt.a).drop (k + 1)) (S'.map Stn.a)).2)) := by
              unfold Hid
              rw [hLA.out, lateA_step1 HYA.out HP.out]
              simp [Lt.a]
            go_wp2_with (at_builtin; refine wpList_append_lies _ rfl _ _ 72 rfl W0.heap.size tL i0 (.agg #[.int .i64 0, .slice none 0 0, .bool false, .int .i64 0]) 4 48 Try.underlying72 hi0 hz0i hz1i hz2i rfl (by decide) _ T.length (T.flatMap Lt.c) rfl (by exact hal.own hown.out fun _ _ h => h) ⟨wr.heap.size + 1, 0, none⟩ 1 1 (Lt.c (⟨from_, .slice Ab bits.length cb, bits, twice, wrap64 (by_ - 1)⟩ : Lt)) rfl rfl (by exact World.news_of_block (cs := #[.int .i64 from_, .slice Ab bits.length cb, .bool twice, .int .i64 (wrap64 (by_ - 1))]) (has_new1 wr _ tL _)) (by intro u hu; simp [Lt.c] at hu; rcases hu with rfl | rfl | rfl | rfl <;> rfl) (by decide) (by unfold maxLen; omega) (by omega) (by simp; omega) _ rfl ?_; intro g7 p7 w7 ho7 hg7 hor7 hlt7; obtain ⟨HS7, HM7, HO7, HB7⟩ := tick_app (y := (⟨from_, .slice Ab bits.length cb, bits, twice, wrap64 (by_ - 1)⟩ : Lt)) hS.out hM.out hown.out hbit.out HYB.out ho7 hg7; clear ho7 hg7 hor7)
            exact ⟨⟨_, k + 1, S', _, rfl, by omega, by go_num, HS7, HM7, HO7, HB7, by simp; omega, HL7⟩, by simp [intOf]; omega⟩
          · have HP := Lib.hid hp
            have t0 : decide (0 < wrap64 (by_ - 1)) = false := decide_eq_false hp
            clear hp
            have hal := (Below.refl wr.heap.size wr).alloc (Nat.le_refl _) (.cells #[.int .i64 from_, .slice Ab bits.length cb, .bool twice, .int .i64 (wrap64 (by_ - 1))] 91)
            go_wp2_with fail
            refine (comes_any (HBR.out.below hal) ⟨from_, .slice Ab bits.length cb, bits, twice, wrap64 (by_ - 1)⟩ ⟨own_at HYB.out.1 fun g hg => hal.block g (ty_lt (own_ty HYB.out.1 hg)), HYB.out.2⟩).mono ?_
            rintro e w8 ⟨rfl, S8, hS8, hM8, hA8⟩
            have hM8w : Mv wr S' w8 S8 := (Mv.below hal).trans hM8
            have hM8z := hM.out.trans hM8w
            have hLT : LateOk wr st T := ⟨own_base hown.out (Nat.zero_le _), hbit.out⟩
            have hLT8 := late_mv hS.out hLT hM8w
            have hO8 : w8.ownsRow W0.heap.size tL 4 st T.length (T.flatMap Lt.c) := hM8w.kp.own hown.out fun g hg hf => by
              have h1 := own_ty hown.out hg
              rcases hS.out.mut_ty hf with h2 | h2 | h2 <;> rw [h1] at h2 <;> exact absurd (Option.some.inj h2) (by decide)
            have hL8 : lateA room (B.L.map Lt.a) (S1.map Stn.a) = ((lateA room ((B.L.map Lt.a).drop (k + 1)) (S8.map Stn.a)).1, T.map Lt.a ++ (lateA room ((B.L.map Lt.a).drop (k + 1)) (S8.map Stn.a)).2) := by
              rw [hLA.out, lateA_step2 HYA.out (show ¬ 0 < wrap64 (by_ - 1) by have := HP.out; omega), hA8]
              rfl
            have HS8 := Lib.hid hS8
            have HM8 := Lib.hid hM8z
            have HO8 := Lib.hid hO8
            have HB8 : Hid (∀ x ∈ T, BitsOk w8 x.bv x.bits) := hLT8.bits
            have HL8 := Lib.hid hL8
            clear hS8 hM8 hM8w hM8z hLT hLT8 hO8 hL8 hA8 y0 y1 y2 y3 hal
            go_wp2
            exact ⟨⟨_, k + 1, S8, T, rfl, by omega, by go_num, HS8, HM8, HO8, HB8, by omega, HL8⟩, by simp [intOf]; omega⟩
        · obtain rfl : k = nL := by omega
          have hLend : lateA room (B.L.map Lt.a) (S1.map Stn.a) = (S'.map Stn.a, T.map Lt.a) := by
            have h1 := hLA.out
            rw [List.drop_of_length_le (by rw [List.length_map]; have := HNL.out; omega)] at h1
            simpa [lateA] using h1
          have HLE := Lib.hid hLend
          clear hLend
          have hbr := HBR.out.box
          have cb1 : wr.cell? ⟨b, 1, none⟩ = some (.slice Al k cl) := (hbr.cell 1).trans (by show some B.lv = _; rw [HLV.out])
          have cf1 := fun i => hbr.frozen i
          have hbw := hbr.lt
          clear hbr
          obtain ⟨As, cs', hst⟩ := decW.own_slice hown.out
          subst hst
          go_wp2_with (at_builtin; refine wpList_append_own_none rfl _ _ 72 rfl W0.heap.size tL i0 4 Try.underlying72 hi0 _ T.length (T.flatMap Lt.c) rfl hown.out rfl ?_)
          go_ret
          obtain ⟨t1, t2⟩ := tick_end (TM := T) HBA.out HMV.out hS.out hM.out (Kp.refl (fun _ => False) wr) (fun k h => h.elim) (fun k t h => h.elim) (own_base hown.out (Nat.zero_le _)) hbit.out
          rw [HTK.out]
          refine ⟨_, rfl, t1, t2, ?_, by have := HNL.out; show T.length ≤ B.L.length + 1; omega⟩
          rw [HLE.out]
          simp [BusS.a]
  | some y =>
    obtain ⟨j, f⟩ := y
    rw [ho] at hfp
    obtain ⟨x, ⟨s, rest, hs, hout, hfr⟩, rfl⟩ := hfp
    subst hfr
    have hfa : firstA B.a.st B.a.st.length = some (j, frA x) := by show firstA (B.S.map Stn.a) (B.S.map Stn.a).length = _; rw [List.length_map]; exact ho
    have HTA := Lib.hid (tickA_some (room := room) (w := WireD.a ⟨lost, twice, late, .slice Af flips.length cf, flips⟩) hfa)
    have hxd := decW.own_slice ((H.out.sts.all j s hs).fout x (by rw [hout]; exact List.mem_cons_self)).1
    obtain ⟨Ax, cx, hdx⟩ := hxd
    have hgc := fun W (hW : Below w.heap.size w W) => goes_any (H.out.below hW) j s x rest hs hout ⟨lost, twice, late, .slice Af flips.length cf, flips⟩ (HD.out.below hW)
    have HGC := Lib.hid hgc
    have x0 : w1.cell? ⟨w.heap.size, 0, none⟩ = some (.bool lost) := (hw1.cell 0).trans rfl
    have x1 : w1.cell? ⟨w.heap.size, 1, none⟩ = some (.bool twice) := (hw1.cell 1).trans rfl
    have x2 : w1.cell? ⟨w.heap.size, 2, none⟩ = some (.int .i64 late) := (hw1.cell 2).trans rfl
    have x3 : w1.cell? ⟨w.heap.size, 3, none⟩ = some (.slice Af flips.length cf) := (hw1.cell 3).trans rfl
    obtain ⟨id, wide, dv, bs⟩ := x
    dsimp only at hdx
    subst hdx
    unfold frV WireD.v at HGC
    unfold frV
    dsimp only at HGC ⊢
    have dj : decide ((j : Int) < 0) = false := by simp
    have dj2 : decide (0 ≤ (j : Int)) = true := by simp
    have hal : Below w.heap.size w (w1.alloc (.cells #[.int .u32 id, .bool wide, .slice Ax bs.length cx] 35)) := HB1.out.alloc (by omega) _
    have HAL := Lib.hid hal
    clear hfa ho hw1 hB1 hb_w1 hgc hs hout hal
    go_wp2_with fail
    refine (HGC.out _ HAL.out).mono ?_
    rintro e W0 ⟨S1, mv, M, rfl, hS1, hM1, hL1, hgo, hMlen⟩
    have HBA : Hid (BusAt room W0 b { B with S := S1 }) := (H.out.below HAL.out).mv hM1 hS1
    have HMV : Hid (Mv w B.S W0 S1) := (Mv.below HAL.out).trans hM1
    have HMO := Lib.hid hL1
    have HTK : Hid (tickA room B.a (WireD.a ⟨lost, twice, late, .slice Af flips.length cf, flips⟩) = some ⟨(lateA room (B.L.map Lt.a) (S1.map Stn.a)).1, (lateA room (B.L.map Lt.a) (S1.map Stn.a)).2 ++ M.map Lt.a⟩) := by
      refine HTA.out.trans ?_
      rw [show goesA room B.a.st j _ _ = (S1.map Stn.a, M.map Lt.a) from hgo]
      rfl
    have hmvs : ∃ A c, mv = .slice A M.length c := decW.own_slice hL1.row
    obtain ⟨Am0, cm0, hmv0⟩ := hmvs
    have c1' : W0.cell? ⟨b, 1, none⟩ = some (.slice Al nL cl) := (HBA.out.box.cell 1).trans (by show some B.lv = _; rw [HLV.out])
    have hbw0 := HBA.out.box.lt
    clear hS1 hM1 hL1 hgo x0 x1 x2 x3 c1 hmv0
    go_wp2
    go_loopw [48, 10] (fun i st' wr => ∃ (st : Value) (k : Nat) (S' : List Stn) (T : List Lt), st = st' ∧ k ≤ nL ∧ i = .int .i64 k ∧ Hid (StsOk room wr S') ∧ Hid (Mv W0 S1 wr S') ∧ Hid (wr.ownsRow W0.heap.size tL 4 st T.length (T.flatMap Lt.c)) ∧ Hid (∀ x ∈ T, BitsOk wr x.bv x.bits) ∧ T.length ≤ k ∧ Hid (lateA room (B.L.map Lt.a) (S1.map Stn.a) = ((lateA room ((B.L.map Lt.a).drop k) (S'.map Stn.a)).1, T.map Lt.a ++ (lateA room ((B.L.map Lt.a).drop k) (S'.map Stn.a)).2))) (fun i _ _ => nL - (intOf i).toNat)
    case atStart => exact ⟨_, 0, S1, [], rfl, Nat.zero_le _, rfl, Lib.hid HBA.out.sts, Lib.hid (Mv.refl _ _), Lib.hid (World.ownsRow_nil _ _ _ _), Lib.hid (by intro x hx; cases hx), Nat.le_refl _, Lib.hid (by simp)⟩
    case round =>
      obtain ⟨st, k, S', T, rfl, hk, rfl, hS, hM, hown, hbit, hTk, hLA⟩ := hrel
      have hz0 := hM.out.kp.size
      have HBR := Lib.hid (HBA.out.mv hM.out hS.out)
      by_cases hlt : k < nL
      · obtain ⟨y, hy⟩ : ∃ y, B.L[k]? = some y := ⟨_, List.getElem?_eq_getElem (by rw [← HNL.out]; exact hlt)⟩
        obtain ⟨gl, cl2, hlv, hlc, -⟩ := own_form (HBR.out.late.row) (by show 0 < B.L.length; have := HNL.out; omega)
        have hlv2 : Al = some ⟨gl, 0, none⟩ := by
          have h1 : B.lv = .slice (some ⟨gl, 0, none⟩) B.L.length cl2 := hlv
          rw [HLV.out] at h1
          injection h1
        subst hlv2
        have hrow : wr.ownsRow 0 tL 4 (.slice (some ⟨gl, 0, none⟩) nL cl) nL (B.L.flatMap Lt.c) := by
          have := HBR.out.late.row
          rw [show (({ B with S := S' } : BusS).lv) = B.lv from rfl, HLV.out, show (({ B with S := S' } : BusS).L.length) = nL from HNL.out.symm] at this
          exact this
        have hyb : BitsOk wr y.bv y.bits := HBR.out.late.bits y (List.mem_of_getElem? hy)
        obtain ⟨Ab, cb, hbv⟩ := decW.own_slice hyb.1
        have y0 := row4 hrow hy 0 _ rfl
        have y1 := row4 hrow hy 1 _ rfl
        have y2 := row4 hrow hy 2 _ rfl
        have y3 := row4 hrow hy 3 _ rfl
        simp only [Nat.add_zero] at y0
        have hlb : gl < wr.heap.size := ty_lt (own_ty hrow rfl)
        have hya : (B.L.map Lt.a)[k]? = some y.a := by rw [List.getElem?_map, hy]; rfl
        obtain ⟨from_, bv, bits, twice, by_⟩ := y
        dsimp only at hbv y0 y1 y2 y3 hyb
        subst hbv
        have HYB := Lib.hid hyb
        have HYA := Lib.hid hya
        clear hyb hya hy hlv hrow
        by_cases hp : 0 < wrap64 (by_ - 1)
        · have HP := Lib.hid hp
          have t0 : decide (0 < wrap64 (by_ - 1)) = true := decide_eq_true hp
          clear hp
          have hal : Kp (fun _ => False) wr ((wr.alloc (.cells #[.int .i64 from_, .slice Ab bits.length cb, .bool twice, .int .i64 (wrap64 (by_ - 1))] tL)).alloc (.cells #[.int .i64 from_, .slice Ab bits.length cb, .bool twice, .int .i64 (wrap64 (by_ - 1))] tL)) := ((Kp.refl _ wr).alloc _).alloc _
          have HL7 : Hid (lateA room (B.L.map Lt.a) (S1.map Stn.a) = ((lateA room ((B.L.map Lt.a).drop (k + 1)) (S'.map Stn.a)).1, (T ++ [(⟨from_, .slice Ab bits.length cb, bits, twice, wrap64 (by_ - 1)⟩ : Lt)]).map Lt.a ++ (lateA room ((B.L.map Lt.a).drop (k + 1)) (S'.map Stn.a)).2)) := by
            unfold Hid
            rw [hLA.out, lateA_step1 HYA.out HP.out]
            simp [Lt.a]
          go_wp2_with (at_builtin; refine wpList_append_lies _ rfl _ _ 72 rfl W0.heap.size tL i0 (.agg #[.int .i64 0, .slice none 0 0, .bool false, .int .i64 0]) 4 48 Try.underlying72 hi0 hz0i hz1i hz2i rfl (by decide) _ T.length (T.flatMap Lt.c) rfl (by exact hal.own hown.out fun _ _ h => h) ⟨wr.heap.size + 1, 0, none⟩ 1 1 (Lt.c (⟨from_, .slice Ab bits.length cb, bits, twice, wrap64 (by_ - 1)⟩ : Lt)) rfl rfl (by exact World.news_of_block (cs := #[.int .i64 from_, .slice Ab bits.length cb, .bool twice, .int .i64 (wrap64 (by_ - 1))]) (has_new1 wr _ tL _)) (by intro u hu; simp [Lt.c] at hu; rcases hu with rfl | rfl | rfl | rfl <;> rfl) (by decide) (by unfold maxLen; omega) (by omega) (by simp; omega) _ rfl ?_; intro g7 p7 w7 ho7 hg7 hor7 hlt7; obtain ⟨HS7, HM7, HO7, HB7⟩ := tick_app (y := (⟨from_, .slice Ab bits.length cb, bits, twice, wrap64 (by_ - 1)⟩ : Lt)) hS.out hM.out hown.out hbit.out HYB.out ho7 hg7; clear ho7 hg7 hor7)
          exact ⟨⟨_, k + 1, S', _, rfl, by omega, by go_num, HS7, HM7, HO7, HB7, by simp; omega, HL7⟩, by simp [intOf]; omega⟩
        · have HP := Lib.hid hp
          have t0 : decide (0 < wrap64 (by_ - 1)) = false := decide_eq_false hp
          clear hp
          have hal := (Below.refl wr.heap.size wr).alloc (Nat.le_refl _) (.cells #[.int .i64 from_, .slice Ab bits.length cb, .bool twice, .int .i64 (wrap64 (by_ - 1))] 91)
          go_wp2_with fail
          refine (comes_any (HBR.out.below hal) ⟨from_, .slice Ab bits.length cb, bits, twice, wrap64 (by_ - 1)⟩ ⟨own_at HYB.out.1 fun g hg => hal.block g (ty_lt (own_ty HYB.out.1 hg)), HYB.out.2⟩).mono ?_
          rintro e w8 ⟨rfl, S8, hS8, hM8, hA8⟩
          have hM8w : Mv wr S' w8 S8 := (Mv.below hal).trans hM8
          have hM8z := hM.out.trans hM8w
          have hLT : LateOk wr st T := ⟨own_base hown.out (Nat.zero_le _), hbit.out⟩
          have hLT8 := late_mv hS.out hLT hM8w
          have hO8 : w8.ownsRow W0.heap.size tL 4 st T.length (T.flatMap Lt.c) := hM8w.kp.own hown.out fun g hg hf => by
            have h1 := own_ty hown.out hg
            rcases hS.out.mut_ty hf with h2 | h2 | h2 <;> rw [h1] at h2 <;> exact absurd (Option.some.inj h2) (by decide)
          have hL8 : lateA room (B.L.map Lt.a) (S1.map Stn.a) = ((lateA room ((B.L.map Lt.a).drop (k + 1)) (S8.map Stn.a)).1, T.map Lt.a ++ (lateA room ((B.L.map Lt.a).drop (k + 1)) (S8.map Stn.a)).2) := by
            rw [hLA.out, lateA_step2 HYA.out (show ¬ 0 < wrap64 (by_ - 1) by have := HP.out; omega), hA8]
            rfl
          have HS8 := Lib.hid hS8
          have HM8 := Lib.hid hM8z
          have HO8 := Lib.hid hO8
          have HB8 : Hid (∀ x ∈ T, BitsOk w8 x.bv x.bits) := hLT8.bits
          have HL8 := Lib.hid hL8
          clear hS8 hM8 hM8w hM8z hLT hLT8 hO8 hL8 hA8 y0 y1 y2 y3 hal
          go_wp2
          exact ⟨⟨_, k + 1, S8, T, rfl, by omega, by go_num, HS8, HM8, HO8, HB8, by omega, HL8⟩, by simp [intOf]; omega⟩
      · obtain rfl : k = nL := by omega
        have hLend : lateA room (B.L.map Lt.a) (S1.map Stn.a) = (S'.map Stn.a, T.map Lt.a) := by
          have h1 := hLA.out
          rw [List.drop_of_length_le (by rw [List.length_map]; have := HNL.out; omega)] at h1
          simpa [lateA] using h1
        have HLE := Lib.hid hLend
        clear hLend
        have hbr := HBR.out.box
        have cb1 : wr.cell? ⟨b, 1, none⟩ = some (.slice Al k cl) := (hbr.cell 1).trans (by show some B.lv = _; rw [HLV.out])
        have cf1 := fun i => hbr.frozen i
        have hbw := hbr.lt
        clear hbr
        have HMR := Lib.hid (late_mv HBA.out.sts HMO.out hM.out)
        have hMl := HMR.out.row
        obtain ⟨Am, cm, hmv⟩ := decW.own_slice hMl
        subst hmv
        cases Am with
        | none =>
          have hM0 : M = [] := by
            rcases hMl.2 with ⟨_, h0⟩ | ⟨g', cap', cur', h0, _⟩
            · exact List.eq_nil_of_length_eq_zero h0
            · simp at h0
          subst hM0
          have hcm : cm = 0 := by
            rcases hMl.2 with ⟨h0, _⟩ | ⟨g', cap', cur', h0, _⟩
            · simpa using h0
            · simp at h0
          subst hcm
          obtain ⟨As, cs', hst⟩ := decW.own_slice hown.out
          subst hst
          go_wp2_with (at_builtin; refine wpList_append_own_none rfl _ _ 72 rfl W0.heap.size tL i0 4 Try.underlying72 hi0 _ T.length (T.flatMap Lt.c) rfl hown.out rfl ?_)
          go_ret
          obtain ⟨t1, t2⟩ := tick_end (TM := T) HBA.out HMV.out hS.out hM.out (Kp.refl (fun _ => False) wr) (fun k h => h.elim) (fun k t h => h.elim) (own_base hown.out (Nat.zero_le _)) hbit.out
          rw [HTK.out]
          refine ⟨_, rfl, t1, t2, ?_, by have := HNL.out; show T.length ≤ B.L.length + 1; omega⟩
          rw [HLE.out]
          simp [BusS.a]
        | some am =>
          obtain ⟨As, cs', hst⟩ := decW.own_slice hown.out
          subst hst
          go_wp2_with (at_builtin; refine wpList_append_own _ rfl _ _ 72 rfl W0.heap.size tL i0 (.agg #[.int .i64 0, .slice none 0 0, .bool false, .int .i64 0]) 4 48 Try.underlying72 hi0 hz0i hz1i hz2i rfl (by decide) _ T.length (T.flatMap Lt.c) rfl hown.out am M.length cm (M.flatMap Lt.c) rfl (by exact hMl.1) (by exact own_cells4 hMl) (by exact lt_one HMR.out.bits) (by unfold maxLen; omega) (by omega) (by omega) ?_; intro v7 w7 ho7 hg7 _; obtain ⟨A7, c7, rfl, cb7, cf7, hbl7, HTE⟩ := tick_more HBA.out HMV.out hS.out hM.out hown.out hbit.out HMR.out.bits ho7 hg7)
          go_ret
          obtain ⟨t1, t2⟩ := HTE.out
          rw [HTK.out]
          refine ⟨⟨B.sv, _, S', T ++ M⟩, rfl, t1, t2, ?_, by have := HNL.out; show (T ++ M).length ≤ B.L.length + 1; rw [List.length_append]; omega⟩
          rw [HLE.out]
          simp [BusS.a]
end busM
end Go.Proofs.Ytomkgnlooheibaa

namespace Go.Proofs.Ytomkgnlooheibaa
open Go.RowKit Go.Bus Go.Bus.ringK Go.Bus.ring3K Go.Bus.busK Go.Bus.cellK Go.Bus.decK Go.Bus.bitK
set_option linter.unusedVariables false
set_option linter.unusedSimpArgs false
namespace busM
open qframe
def busF (b : Nat) (K : List Sk) (k : Nat) : Prop := k = b ∨ mutK K k
def BusIs (room : Nat) (w : World) (b : Nat) (K : List Sk) (A : ABus) : Prop := ∃ B, BusAt room w b B ∧ B.a = A ∧ B.S.map skel = K
section
variable {room b : Nat} {w w' : World} {K : List Sk} {A A' : ABus}
theorem BusIs.kept {F : Nat → Prop} (h : BusIs room w b K A) (hk : Kp F w w') (hF : ∀ k t, F k → tyAt w k = some t → t ∉ [tS, tQ, tF, tR, tU, tB, tP, tL, tBo]) : BusIs room w' b K A := by
  obtain ⟨B, h1, h2, h3⟩ := h
  exact ⟨B, h1.kept hk hF, h2, h3⟩
theorem foot_cases {B : BusS} (h : BusAt room w b B) {k : Nat} (hk : B.foot b k) : busF b (B.S.map skel) k ∨ ∃ t, tyAt w k = some t ∧ t ∈ [tR, tU, tP, tL, tBo] := by
  rcases hk with rfl | hk | (hk | ⟨x, hx, hk⟩) | ⟨s, hs, hk⟩
  · exact .inl (.inl rfl)
  · exact .inr ⟨_, own_ty h.row hk, by simp⟩
  · exact .inr ⟨_, own_ty h.late.row hk, by simp⟩
  · exact .inr ⟨_, own_ty (h.late.bits x hx).1 hk, by simp⟩
  · obtain ⟨i, hi⟩ := List.mem_iff_getElem?.1 hs
    have h1 := h.sts.all i s hi
    rcases hk with hk | hk | ⟨x, hx, hk⟩ | ⟨x, hx, hk⟩
    · exact .inl (.inr ⟨_, List.mem_map.2 ⟨s, hs, rfl⟩, hk⟩)
    · exact .inr ⟨_, own_ty h1.rules hk, by simp⟩
    · exact .inr ⟨_, own_ty (h1.fout x hx).1 hk, by simp⟩
    · exact .inr ⟨_, own_ty (h1.finn x hx).1 hk, by simp⟩
/-- Blocks are turned that the bus may not turn, and that are no rows of its own. -/
theorem BusIs.apart {F : Nat → Prop} (h : BusIs room w b K A) (hk : Kp F w w') (hF : ∀ k, F k → ¬ busF b K k ∧ ∀ t, tyAt w k = some t → t ∉ [tR, tU, tP, tL, tBo]) : BusIs room w' b K A := by
  obtain ⟨B, h1, h2, h3⟩ := h
  subst h3
  refine ⟨B, h1.keep fun k hf => hk.block k (h1.foot_lt hf) fun hFk => ?_, h2, rfl⟩
  obtain ⟨g1, g2⟩ := hF k hFk
  rcases foot_cases h1 hf with h4 | ⟨t, h4, h5⟩
  · exact g1 h4
  · exact g2 t h4 h5
theorem BusIs.below (h : BusIs room w b K A) (hb : Below w.heap.size w w') : BusIs room w' b K A := by
  obtain ⟨B, h1, h2, h3⟩ := h
  exact ⟨B, h1.below hb, h2, h3⟩
theorem BusIs.len (h : BusIs room w b K A) : A.st.length = K.length ∧ 1 ≤ K.length ∧ K.length ≤ 8 ∧ 1 ≤ room ∧ room ≤ 64 := by
  obtain ⟨B, h1, h2, h3⟩ := h
  subst h2; subst h3
  have := h1.n
  have := h1.room
  refine ⟨by simp [BusS.a], ?_⟩
  rw [List.length_map]
  omega
theorem BusIs.lt (h : BusIs room w b K A) {k : Nat} (hk : busF b K k) : k < w.heap.size := by
  obtain ⟨B, h1, h2, h3⟩ := h
  subst h3
  obtain ⟨t, ht, _⟩ := h1.gone_ty hk
  exact ty_lt ht
theorem BusIs.ty (h : BusIs room w b K A) {k : Nat} (hk : busF b K k) : ∃ t, tyAt w k = some t ∧ t ∈ [tS, tQ, tF, tB] := by
  obtain ⟨B, h1, h2, h3⟩ := h
  subst h3
  exact h1.gone_ty hk
def FlIs (w : World) (K : List Sk) (v : Value) (l : List Int) : Prop :=
  ∃ A cap, v = .slice A l.length cap ∧ l.length ≤ cap ∧ cap ≤ maxLen ∧ (0 < l.length → ∃ b off, A = some ⟨b, off, none⟩ ∧ b < w.heap.size ∧ ¬ mutK K b ∧ ∀ (i : Nat) x, l[i]? = some x → w.cell? ⟨b, off + i, none⟩ = some (.int .i64 x))
theorem FlIs.nil_ (w : World) (K : List Sk) : FlIs w K (.slice none 0 0) [] := ⟨none, 0, rfl, Nat.le_refl _, Nat.zero_le _, fun h => absurd h (by simp)⟩
def SendIs (room b : Nat) (K : List Sk) (A : ABus) (o : Int × List ASt) (w : World) (e : Ending) (w' : World) : Prop :=
  e = .returned (errNo o.1) ∧ BusIs room w' b K ⟨o.2, A.late⟩ ∧ Kp (busF b K) w w'
theorem send_is (h : BusIs room w b K A) (n : Int) (id : Int) (wide : Bool) (v : Value) (bs : List Int) (hv : Sl w w.heap.size (Value.int .u8) v bs) (h0 : 0 ≤ id) (hb : ∀ x ∈ bs, 0 ≤ x ∧ x < 256) (hl : bs.length ≤ 140737488355328) :
    Calls Try.prog 10 #[.pointer (some ⟨b, 0, none⟩), .int .i64 n, .agg #[.int .u32 id, .bool wide, v]] w (SendIs room b K A (sendA room A.st n (id, wide, bs)) w) := by
  obtain ⟨B, h1, rfl, rfl⟩ := h
  by_cases hn : 0 ≤ n ∧ n < (B.S.length : Int)
  · obtain ⟨k, rfl⟩ := Int.eq_ofNat_of_zero_le hn.1
    have hk : k < B.S.length := by omega
    refine (send_at h1 k _ (List.getElem?_eq_getElem hk) id wide v bs hv h0 hb hl).mono ?_
    rintro e w' ⟨rfl, S', hB, hM, hA⟩
    exact ⟨rfl, ⟨_, hB, congrArg (fun x => (⟨x, B.L.map Lt.a⟩ : ABus)) hA, hM.sk⟩, hM.kp.mono fun j hj => .inr hj⟩
  · obtain ⟨A0, c0, rfl, _, _⟩ := hv.form
    refine (send_none h1 n id wide A0 bs.length c0 hn).mono ?_
    rintro e w' ⟨rfl, hb⟩
    have ho : sendA room (B.a).st n (id, wide, bs) = (1, B.a.st) := by
      unfold sendA
      by_cases h2 : n < 0
      · rw [if_pos h2]
      · rw [if_neg h2]
        have : B.a.st[n.toNat]? = none := List.getElem?_eq_none (by show (B.S.map Stn.a).length ≤ _; rw [List.length_map]; omega)
        rw [this]
    rw [ho]
    exact ⟨rfl, ⟨B, h1.below hb, rfl, rfl⟩, Kp.of_below _ hb⟩
def TickIs (room b : Nat) (K : List Sk) (A : ABus) (o : Option ABus) (w : World) (e : Ending) (w' : World) : Prop :=
  e = .returned (match o with | none => errNo 25 | some _ => .nilIface) ∧ BusIs room w' b K (o.getD A) ∧ Kp (busF b K) w w'
theorem tick_is (h : BusIs room w b K A) (d : WireD) (hd : FlIs w K d.fv d.flips) (hL : A.late.length ≤ 1000000) :
    Calls Try.prog 13 #[.pointer (some ⟨b, 0, none⟩), d.v] w (TickIs room b K A (tickA room A d.a) w) := by
  obtain ⟨B, h1, rfl, rfl⟩ := h
  refine (tick_any h1 d hd (by have : B.a.late.length = B.L.length := by simp [BusS.a]
                               omega)).mono ?_
  intro e w' hp
  cases ht : tickA room B.a d.a with
  | none =>
    rw [ht] at hp
    obtain ⟨rfl, hb⟩ := hp
    exact ⟨rfl, ⟨B, h1.below hb, rfl, rfl⟩, Kp.of_below _ hb⟩
  | some A' =>
    rw [ht] at hp
    obtain ⟨B', rfl, hB, hG, hA, _⟩ := hp
    exact ⟨rfl, ⟨B', hB, hA, hG.sk⟩, hG.kp⟩
/-- What a station's row of what came gives. -/
def takeA (A : List ASt) (n : Int) : Int × F3 × List ASt :=
  if n < 0 then (1, (0, false, []), A) else
  match A[n.toNat]? with
  | none => (1, (0, false, []), A)
  | some s => match s.inn with
    | [] => (25, (0, false, []), A)
    | f :: rest => (0, f, A.set n.toNat { s with inn := rest })
def TakeIs (room b : Nat) (K : List Sk) (A : ABus) (o : Int × F3 × List ASt) (w : World) (e : Ending) (w' : World) : Prop :=
  ∃ v, e = .returned (.tuple #[.agg #[.int .u32 o.2.1.1, .bool o.2.1.2.1, v], errNo o.1]) ∧ w'.ownsRow 0 tU 1 v o.2.1.2.2.length (o.2.1.2.2.map (Value.int .u8)) ∧ (∀ x ∈ o.2.1.2.2, 0 ≤ x ∧ x < 256) ∧ BusIs room w' b K ⟨o.2.2, A.late⟩ ∧ Kp (busF b K) w w'
theorem take_is (h : BusIs room w b K A) (n : Int) :
    Calls Try.prog 14 #[.pointer (some ⟨b, 0, none⟩), .int .i64 n] w (TakeIs room b K A (takeA A.st n) w) := by
  obtain ⟨B, h1, rfl, rfl⟩ := h
  by_cases hn : 0 ≤ n ∧ n < (B.S.length : Int)
  · obtain ⟨k, rfl⟩ := Int.eq_ofNat_of_zero_le hn.1
    have hk : k < B.S.length := by omega
    refine (take_at h1 k _ (List.getElem?_eq_getElem hk)).mono ?_
    intro e w' hp
    have hs : B.a.st[k]? = some (B.S[k]).a := by show (B.S.map Stn.a)[k]? = _; rw [List.getElem?_map, List.getElem?_eq_getElem hk]; rfl
    unfold TakePost at hp
    cases hin : (B.S[k]).inn with
    | nil =>
      rw [hin] at hp
      obtain ⟨rfl, hb⟩ := hp
      have ho : takeA B.a.st (k : Int) = (25, (0, false, []), B.a.st) := by
        unfold takeA
        rw [if_neg (by omega), Int.toNat_natCast, hs]
        dsimp only
        rw [show (B.S[k]).a.inn = [] from by show (B.S[k]).inn.map frA = []; rw [hin]; rfl]
      rw [ho]
      exact ⟨.slice none 0 0, rfl, World.ownsRow_nil _ _ _ _, (by intro x hx; cases hx), ⟨B, h1.below hb, rfl, rfl⟩, Kp.of_below _ hb⟩
    | cons x rest =>
      rw [hin] at hp
      obtain ⟨rfl, hx, hB, hM, _⟩ := hp
      have ho : takeA B.a.st (k : Int) = (0, frA x, B.a.st.set k { (B.S[k]).a with inn := rest.map frA }) := by
        unfold takeA
        rw [if_neg (by omega), Int.toNat_natCast, hs]
        dsimp only
        rw [show (B.S[k]).a.inn = frA x :: rest.map frA from by show (B.S[k]).inn.map frA = _; rw [hin]; rfl]
      rw [ho]
      refine ⟨x.data, rfl, hx.1, hx.2.2.2.2, ⟨_, hB, ?_, hM.sk⟩, hM.kp.mono fun j hj => .inr hj⟩
      show (⟨(B.S.set k { B.S[k] with inn := rest, fi := place room (B.S[k]).fi 1 }).map Stn.a, B.L.map Lt.a⟩ : ABus) = ⟨(B.S.map Stn.a).set k _, _⟩
      rw [List.map_set]
      rfl
  · refine (take_none h1 n hn).mono ?_
    rintro e w' ⟨rfl, hb⟩
    have ho : takeA B.a.st n = (1, (0, false, []), B.a.st) := by
      unfold takeA
      by_cases h2 : n < 0
      · rw [if_pos h2]
      · rw [if_neg h2]
        have : B.a.st[n.toNat]? = none := List.getElem?_eq_none (by show (B.S.map Stn.a).length ≤ _; rw [List.length_map]; omega)
        rw [this]
    rw [ho]
    exact ⟨.slice none 0 0, rfl, World.ownsRow_nil _ _ _ _, (by intro x hx; cases hx), ⟨B, h1.below hb, rfl, rfl⟩, Kp.of_below _ hb⟩
def countA (A : List ASt) (n : Int) : Int × Cn :=
  if n < 0 then (1, ⟨0, 0, 0, 0, 0⟩) else match A[n.toNat]? with | none => (1, ⟨0, 0, 0, 0, 0⟩) | some s => (0, s.cn)
theorem counts_is (h : BusIs room w b K A) (n : Int) :
    Calls Try.prog 23 #[.pointer (some ⟨b, 0, none⟩), .int .i64 n] w fun e w' => e = .returned (.tuple #[cnV (countA A.st n).2, errNo (countA A.st n).1]) ∧ Below w.heap.size w w' := by
  obtain ⟨B, h1, rfl, rfl⟩ := h
  by_cases hn : 0 ≤ n ∧ n < (B.S.length : Int)
  · obtain ⟨k, rfl⟩ := Int.eq_ofNat_of_zero_le hn.1
    have hk : k < B.S.length := by omega
    refine (counts_at h1 k _ (List.getElem?_eq_getElem hk)).mono ?_
    rintro e w' ⟨rfl, hb⟩
    have hs : B.a.st[k]? = some (B.S[k]).a := by show (B.S.map Stn.a)[k]? = _; rw [List.getElem?_map, List.getElem?_eq_getElem hk]; rfl
    have ho : countA B.a.st (k : Int) = (0, (B.S[k]).cn) := by
      unfold countA
      rw [if_neg (by omega), Int.toNat_natCast, hs]
      rfl
    rw [ho]
    exact ⟨rfl, hb⟩
  · refine (counts_none h1 n hn).mono ?_
    rintro e w' ⟨rfl, hb⟩
    have ho : countA B.a.st n = (1, ⟨0, 0, 0, 0, 0⟩) := by
      unfold countA
      by_cases h2 : n < 0
      · rw [if_pos h2]
      · rw [if_neg h2]
        have : B.a.st[n.toNat]? = none := List.getElem?_eq_none (by show (B.S.map Stn.a).length ≤ _; rw [List.length_map]; omega)
        rw [this]
    rw [ho]
    exact ⟨rfl, hb⟩
def waitsA (A : List ASt) : Nat := (A.map fun s => s.out.length).sum
theorem waiting_is (h : BusIs room w b K A) :
    Calls Try.prog 22 #[.pointer (some ⟨b, 0, none⟩)] w fun e w' => e = .returned (.tuple #[.int .i64 (waitsA A.st : Nat), .int .i64 (A.late.length : Nat)]) ∧ ∃ n, w' = w.drewN n := by
  obtain ⟨B, h1, rfl, rfl⟩ := h
  refine (waiting_any h1).mono ?_
  rintro e w' ⟨rfl, hb⟩
  refine ⟨?_, hb⟩
  have e1 : waitsA B.a.st = waitsL B.S := by
    unfold waitsA waitsL
    show ((B.S.map Stn.a).map _).sum = _
    rw [List.map_map]
    congr 1
    refine List.map_congr_left fun s _ => ?_
    simp [Stn.a]
  have e2 : B.a.late.length = B.L.length := by simp [BusS.a]
  rw [e1, e2]
def NewIs (room : Nat) (w : World) (rules : List (List Rl)) (e : Ending) (w' : World) : Prop :=
  ∃ b K, e = .returned (.tuple #[.pointer (some ⟨b, 0, none⟩), .nilIface]) ∧ BusIs room w' b K ⟨rules.map freshA, []⟩ ∧ Below w.heap.size w w' ∧ ∀ k, busF b K k → w.heap.size ≤ k
theorem new_is (v : Value) (rules : List (List Rl)) (hv : SlK 1 rowsE w (Old w.heap.size) v rules) (h1 : 1 ≤ rules.length) (h8 : rules.length ≤ 8) (hr1 : 1 ≤ room) (hr : room ≤ 64) (hlen : ∀ l ∈ rules, l.length * 12 ≤ 140737488355328) :
    Calls Try.prog 8 #[.int .i64 (room : Int), v] w (NewIs room w rules) := by
  refine (new_any room w v rules hv h1 h8 hr1 hr hlen).mono ?_
  rintro e w' ⟨b, B, rfl, hB, hb, hA, hK, _⟩
  exact ⟨b, _, rfl, ⟨B, hB, hA, rfl⟩, hb, hK⟩
end
end busM
end Go.Proofs.Ytomkgnlooheibaa

namespace Go.Proofs.Ytomkgnlooheibaa
open Go.RowKit Go.Bus Go.Bus.ringK Go.Bus.ring3K Go.Bus.busK Go.Bus.cellK Go.Bus.decK Go.Bus.bitK
set_option linter.unusedVariables false
set_option linter.unusedSimpArgs false
theorem Try.infoERls : (Try.prog.info? 57).map (fun i => (i.zero, i.size, i.bytes)) = some (some (.slice none 0 0), 1, 24) := by kernel_rfl
namespace busM
open qframe
set_option maxRecDepth 100000 in
set_option maxHeartbeats 1000000 in
theorem all_any (n : Nat) (w : World) (hn : n ≤ 64) :
    Calls Try.prog 21 #[.int .i64 (n : Int)] w fun e w' => ∃ v, e = .returned v ∧ SlK 1 rowsE w' (Old w'.heap.size) v (List.replicate n []) ∧ w'.ownsRow w.heap.size 57 1 v n (List.replicate n (.slice none 0 0)) ∧ Below w.heap.size w w' := by
  obtain ⟨i0, hi, hz0, hz1, hz2⟩ := info_parts Try.infoERls
  go_enter Try.func21, Try.ntmps21
  go_wp2
  go_loopw [4, 3] (fun i v' wr => ∃ (v : Value) (k : Nat), v = v' ∧ k ≤ n ∧ i = .int .i64 k ∧ Hid (wr.ownsRow w.heap.size 57 1 v k (List.replicate k (.slice none 0 0))) ∧ Below w.heap.size w wr) (fun i _ _ => n - (intOf i).toNat)
  case atStart => exact ⟨_, 0, rfl, Nat.zero_le _, rfl, Lib.hid (World.ownsRow_nil _ _ _ _), Below.refl _ _⟩
  case round =>
    obtain ⟨v, k, rfl, hk, rfl, hO, hB⟩ := hrel
    have hsz := hB.size
    by_cases hlt : k < n
    · go_wp2_with (at_builtin; refine wpList_append_own _ rfl _ _ 22 rfl w.heap.size 57 i0 (.slice none 0 0) 1 24 Try.underlying22 hi hz0 hz1 hz2 rfl (by decide) _ k (List.replicate k (.slice none 0 0)) rfl (hO.out.alloc _) ⟨wr.heap.size, 0, none⟩ 1 1 [.slice none 0 0] rfl rfl (one_new wr _ _) (by intro u hu; simp at hu; subst hu; rfl) (by unfold maxLen; omega) (by omega) (by simp; omega) ?_; intro v7 w7 ho7 hg7 _; have HO7 := Lib.hid (show w7.ownsRow w.heap.size 57 1 v7 (k + 1) (List.replicate (k + 1) (.slice none 0 0)) from by rw [List.replicate_succ']; exact ho7); have HB7 := Lib.hid (show Below w.heap.size w w7 from (hB.alloc hsz _).grown hg7 (by simp; omega) (fun r hr => (hO.out.lt r hr).1)); clear ho7 hg7)
      exact ⟨⟨_, k + 1, rfl, by omega, by go_num, HO7, HB7.out⟩, by simp [intOf]; omega⟩
    · obtain rfl : k = n := by omega
      go_wp2
      go_ret
      refine ⟨_, rfl, ?_, hO.out, hB⟩
      have hl : (List.replicate k ([] : List Rl)).length = k := List.length_replicate
      refine ⟨List.replicate k (.slice none 0 0), ?_, fun i x hx => ?_⟩
      · rw [hl]
        have := src_of_sl (Sl.of_own (f := fun _ : Unit => Value.slice none 0 0) (l := List.replicate k ()) (by rw [List.length_replicate, List.map_replicate]; exact hO.out))
        rw [List.length_replicate, List.map_replicate] at this
        exact this
      · have hik : i < k := by have := (List.getElem?_eq_some_iff.1 hx).1; rwa [hl] at this
        have hx0 : x = [] := by
          rw [List.getElem?_replicate] at hx
          rw [if_pos hik] at hx
          exact (Option.some.inj hx).symm
        subst hx0
        refine ⟨.slice none 0 0, part_one (by rw [List.getElem?_replicate, if_pos hik]), SlK.nil_ _ _ _ _⟩
theorem dec_bits {f : F3} (h : okF f) : decE (bitsF f.1 f.2.1 f.2.2) = .ok f := by
  have h1 := all_bits f.1 f.2.1 f.2.2 h.2.2.1 h.2.2.2 h.1 h.2.1
  rw [all_on] at h1
  exact h1
/-- A frame of the first of two goes. -/
theorem tick_two {room : Nat} {f : F3} (hf : okF f) (rest : List F3) (i0 i1 : List F3) (r0 r1 : List Rl) (c0 c1 : Cn) (lost twice : Bool) :
    tickA room ⟨[⟨f :: rest, i0, r0, c0⟩, ⟨[], i1, r1, c1⟩], []⟩ ⟨lost, twice, 0, []⟩ = some ⟨[⟨rest, i0, r0, { c0 with sent := inc c0.sent }⟩, if lost = true then ⟨[], i1, r1, c1⟩ else if twice = true then hearA room (.ok f) (hearA room (.ok f) ⟨[], i1, r1, c1⟩) else hearA room (.ok f) ⟨[], i1, r1, c1⟩], []⟩ := by
  have hd := dec_bits hf
  cases lost <;> cases twice <;> simp [tickA, firstA, goesA, comesA, tellA, flipL, hd, lateA]
theorem sl_one (w : World) (x : Int) (t : TypeId) : Sl (w.alloc (.cells #[.int .u8 x] t)) (w.alloc (.cells #[.int .u8 x] t)).heap.size (Value.int .u8) (.slice (some ⟨w.heap.size, 0, none⟩) 1 1) [x] := by
  refine ⟨_, 1, rfl, Nat.le_refl _, by decide, fun _ => ⟨w.heap.size, 0, rfl, by simp, fun i y hi => ?_⟩⟩
  match i, hi with
  | 0, hi => simp at hi; subst hi; simp
abbrev A00 : List ASt := [freshA [], freshA []]
abbrev f59 : F3 := (5, false, [9])
theorem f59_ok : okF f59 := ⟨by decide, by decide, by decide, by intro b hb; simp at hb; subst hb; decide⟩
theorem send59 : sendA 2 A00 0 f59 = (0, [⟨[f59], [], [], ⟨0, 0, 0, 0, 0⟩⟩, freshA []]) := rfl
theorem tick59 : tickA 2 ⟨[⟨[f59], [], [], ⟨0, 0, 0, 0, 0⟩⟩, freshA []], []⟩ ⟨false, false, 0, []⟩ = some ⟨[⟨[], [], [], ⟨1, 0, 0, 0, 0⟩⟩, ⟨[], [f59], [], ⟨0, 1, 0, 0, 0⟩⟩], []⟩ := (tick_two f59_ok [] [] [] [] [] _ _ false false).trans (by simp [hearA, takesL, inc, wrap64])
theorem take59 : takeA [⟨[], [], [], ⟨1, 0, 0, 0, 0⟩⟩, ⟨[], [f59], [], ⟨0, 1, 0, 0, 0⟩⟩] 1 = (0, f59, [⟨[], [], [], ⟨1, 0, 0, 0, 0⟩⟩, ⟨[], [], [], ⟨0, 1, 0, 0, 0⟩⟩]) := rfl

set_option maxRecDepth 100000 in
set_option maxHeartbeats 2000000 in
theorem works_yes (w : World) : Calls Try.prog 7 #[] w fun e w' => e = .returned (.bool true) ∧ Below w.heap.size w w' := by
  go_enter Try.func7, Try.ntmps7
  go_wp2_with fail
  refine (all_any 2 w (by omega)).mono ?_
  rintro e w1 ⟨v, rfl, hv, -, hb1⟩
  have HV := Lib.hid hv
  have HB1 := Lib.hid hb1
  clear hv hb1
  go_wp2_with fail
  refine (new_is (room := 2) v _ HV.out (by simp) (by simp) (by omega) (by omega) (by intro l hl; obtain ⟨_, rfl⟩ := List.mem_replicate.1 hl; simp)).mono ?_
  rintro e w2 ⟨b, K, rfl, hbus, hb2, hK⟩
  have HB2 := Lib.hid (HB1.out.trans (hb2.mono HB1.out.size))
  have HK := Lib.hid (fun k hk => Nat.le_trans HB1.out.size (hK k hk))
  have HBUS := Lib.hid (show BusIs 2 w2 b K ⟨A00, []⟩ from hbus)
  clear hbus hb2 hK
  go_wp2_with fail
  refine (send_is (HBUS.out.below (w' := w2.alloc (.cells #[.int .u8 9] 5)) ((Below.refl _ _).alloc (Nat.le_refl _) _)) 0 5 false _ [9] (by exact sl_one w2 9 _) (by omega) (by intro x hx; simp at hx; subst hx; decide) (by decide)).mono ?_
  rintro e w3 ⟨rfl, hbus3, hk3⟩
  rw [show sendA 2 (⟨A00, []⟩ : ABus).st 0 (5, false, [9]) = _ from send59] at hbus3
  rw [show sendA 2 (⟨A00, []⟩ : ABus).st 0 (5, false, [9]) = _ from send59]
  have HB3 := Lib.hid (Kp.to_below (B := w.heap.size) (HB2.out.alloc HB2.out.size _) hk3 (by simp; have := HB2.out.size; omega) HK.out)
  have HBUS3 := Lib.hid hbus3
  clear hbus3 hk3
  dsimp only [errNo]
  rw [if_pos rfl]
  go_wp2_with fail
  refine (tick_is HBUS3.out ⟨false, false, 0, .slice none 0 0, []⟩ (FlIs.nil_ _ _) (by simp)).mono ?_
  rintro e w4 ⟨rfl, hbus4, hk4⟩
  rw [show tickA 2 _ (WireD.a ⟨false, false, 0, .slice none 0 0, []⟩) = _ from tick59] at hbus4
  rw [show tickA 2 _ (WireD.a ⟨false, false, 0, .slice none 0 0, []⟩) = _ from tick59]
  have HB4 := Lib.hid (Kp.to_below HB3.out hk4 HB3.out.size HK.out)
  have HBUS4 := Lib.hid (show BusIs 2 w4 b K ⟨[⟨[], [], [], ⟨1, 0, 0, 0, 0⟩⟩, ⟨[], [f59], [], ⟨0, 1, 0, 0, 0⟩⟩], []⟩ from hbus4)
  clear hbus4 hk4
  dsimp only
  go_wp2_with fail
  refine (take_is HBUS4.out 1).mono ?_
  rintro e w5 ⟨v5, rfl, ho5, -, -, hk5⟩
  dsimp only at ho5 ⊢
  rw [take59] at ho5
  rw [take59]
  obtain ⟨A5, c5, rfl⟩ := decW.own_slice ho5
  have HO5 := Lib.hid (Sl.of_own ho5)
  have HB5 := Lib.hid (Kp.to_below HB4.out hk5 HB4.out.size HK.out)
  clear ho5 hk5
  dsimp only [errNo]
  rw [if_pos rfl]
  have hz5 := HB5.out.size
  go_wp2_with fail
  refine (sameW.frame_any _ _ _ _ _ _ _ [9] _ (by exact HO5.out.at_below (by repeat' (first | (with_reducible assumption) | (with_reducible refine Below.setCell ?_ ?_ _) | (with_reducible refine Below.alloc ?_ ?_ _) | (with_reducible refine Below.drew ?_) | (with_reducible refine below_drewN ?_ _) | (with_reducible exact Below.refl _ _) | (show _ ≤ _; (try simp); (try omega); done) | exact Below.refl _ _ | assumption))) (by simpa using sl_one (w5.alloc (.cells #[.int .u32 5, .bool false, .slice A5 1 c5] 35)) 9 5)).mono ?_
  rintro e w6 ⟨rfl, hb6⟩
  have HB6 := Lib.hid (Below.trans (b := _) (show Below w.heap.size w _ from (HB5.out.alloc hz5 _).alloc (by simp; omega) _) (hb6.mono (by simp; omega)))
  rw [show decide ((5 : Int) = 5 ∧ false = false ∧ ([9] : List Int) = [9]) = true from by decide]
  clear hb6
  go_wp2
  go_ret
  exact ⟨rfl, HB6.out⟩
end busM
end Go.Proofs.Ytomkgnlooheibaa
