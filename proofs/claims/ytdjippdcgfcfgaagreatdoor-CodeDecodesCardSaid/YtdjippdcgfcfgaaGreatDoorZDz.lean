/- Texts of this claim, one behind the other. No condition but those that each states. -/
import Derived.Test.YtdjippdcgfcfgaaGreatDoorBase
import Derived.Test.YtdjippdcgfcfgaaGreatDoorInfo
import Derived.Test.YtdjippdcgfcfgaaGreatDoorCodeE
import Derived.Test.YtdjippdcgfcfgaaGreatDoorPlain
import Derived.Test.YtdjippdcgfcfgaaGreatDoorAt
import Derived.Test.YtdjippdcgfcfgaaGreatDoorZFz
import Derived.Test.YtdjippdcgfcfgaaGreatDoorCodeSi
import Derived.Test.YtdjippdcgfcfgaaGreatDoorCodeWk
import Derived.Test.YtdjippdcgfcfgaaGreatDoorZNz

namespace Go.Proofs.YtdjippdcgfcfgaaGreatDoor
open Go.RowKit Go.Bus
set_option linter.unusedVariables false


namespace bytesK
/-- The mark of place i in the list k. -/
def mark (k i : Int) : Int := IntKind.u8.wrap (37 * (k + 1) + i)
def marks : List Int := (List.range 16).map fun i : Nat => mark 90 i

set_option maxHeartbeats 400000 in
theorem mark_any (k i : Int) (w : World) (h1 : -1000000000 ≤ k) (h2 : k ≤ 1000000000) (h3 : -4611686018427387904 ≤ i) (h4 : i ≤ 4611686018427387904) :
    Calls Tryz.prog 34 #[.int .i64 k, .int .i64 i] w fun e w' => e = .returned (.int .u8 (mark k i)) ∧ w = w' := by
  go_enter Tryz.func34, Tryz.ntmps34
  go_wp2
  go_ret
  exact ⟨rfl, rfl⟩

theorem marks_take (k : Nat) (hk : k < 16) : (marks.map (Value.int .u8)).take k ++ [Value.int .u8 (mark 90 k)] = (marks.map (Value.int .u8)).take (k + 1) := by
  have h1 : (marks.map (Value.int .u8))[k]? = some (Value.int .u8 (mark 90 k)) := by simp [marks, hk]
  rw [List.take_add_one, h1]; rfl
theorem marks_all : (marks.map (Value.int .u8)).take 16 = marks.map (Value.int .u8) := List.take_of_length_le (by simp [marks])
/-- A call that made a list of its own. -/
def Made (w : World) (xs : List Int) (e : Ending) (w' : World) : Prop :=
  ∃ v, e = .returned v ∧ w'.ownsRow w.heap.size 5 1 v xs.length (xs.map (Value.int .u8)) ∧ Below w.heap.size w w'

set_option maxRecDepth 100000 in
set_option maxHeartbeats 1000000 in
theorem full_any (v : Value) (l : List Int) (w : World) (h : Sl w w.heap.size (Value.int .u8) v l) (hlen : l.length ≤ 140737488351232) :
    Calls Tryz.prog 36 #[v] w (Made w (l ++ marks)) := by
  obtain ⟨A, cap, rfl, hcap, hmax⟩ := h.form
  obtain ⟨i0, hi, hz0, hz1, hz2⟩ := info_parts Tryz.infoB
  have HL := Lib.hid h; clear h
  unfold maxLen at hmax
  go_enter Tryz.func36, Tryz.ntmps36
  go_wp2
  go_loopw [3, 4] (fun o i wr => ∃ k : Nat, k ≤ l.length ∧ i = .int .i64 k ∧ wr.ownsRow w.heap.size 5 1 o k ((l.map (Value.int .u8)).take k) ∧ Below w.heap.size w wr) (fun _ i _ => l.length - (intOf i).toNat)
  case atStart => exact ⟨0, Nat.zero_le _, rfl, World.ownsRow_nil _ _ _ _, Below.refl _ _⟩
  case round =>
    obtain ⟨k, hk, rfl, hown, hbel⟩ := hrel
    by_cases hlt : k < l.length
    · obtain ⟨b, off, rfl, hb, hc0⟩ := HL.out.at_ hlt
      have hc : wr.cell? ⟨b, off + k, none⟩ = some (.int .u8 l[k]) := (hbel.cell (p := ⟨b, off + k, none⟩) hb).trans hc0
      clear hc0
      go_wp2_with (at_builtin; refine wpList_append_own _ rfl _ _ 23 rfl w.heap.size 5 i0 (.int .u8 0) 1 1 Tryz.underlying23 hi hz0 hz1 hz2 rfl (by decide) _ _ _ rfl (hown.alloc _) ⟨wr.heap.size, 0, none⟩ 1 1 [.int .u8 l[k]] rfl rfl ?c1 ?c2 ?c3 ?c4 ?c5 ?_)
      case c1 => exact one_new wr _ _
      case c2 => intro u hu; simp at hu; subst hu; rfl
      case c3 => unfold maxLen; omega
      case c4 => omega
      case c5 => have := hbel.size; simp; omega
      intro v' w1 hown' hgrow _
      have hr := Round.step hbel hown hown' hgrow (hxs := take_map_snoc _ l k hlt)
      clear hown hown' hgrow hbel hc
      obtain ⟨hown1, hbel1⟩ := hr
      go_wp2
      go_roundw
      case rel => exact ⟨k + 1, by omega, by go_num, hown1, hbel1⟩
      case measure => simp [intOf]; omega
    · obtain rfl : k = l.length := by omega
      rw [List.take_of_length_le (by simp)] at hown
      obtain ⟨wo, rfl⟩ : ∃ wo : World, wo = wr := ⟨_, rfl⟩
      go_wp2
      go_loopw [3, 5] (fun o i wr => ∃ k : Nat, k ≤ 16 ∧ i = .int .i64 k ∧ wr.ownsRow w.heap.size 5 1 o (l.length + k) (l.map (Value.int .u8) ++ (marks.map (Value.int .u8)).take k) ∧ Below w.heap.size w wr) (fun _ i _ => 16 - (intOf i).toNat)
      case atStart => exact ⟨0, Nat.zero_le _, rfl, by simpa using hown, hbel⟩
      case round =>
        clear hown hbel
        obtain ⟨k, hk, rfl, hown, hbel⟩ := hrel
        by_cases hlt : k < 16
        · go_wp2_with (first | (at_builtin; refine wpList_append_own _ rfl _ _ 23 rfl w.heap.size 5 i0 (.int .u8 0) 1 1 Tryz.underlying23 hi hz0 hz1 hz2 rfl (by decide) _ _ _ rfl (hown.alloc _) ⟨wr.heap.size, 0, none⟩ 1 1 [.int .u8 (mark 90 k)] rfl rfl ?d1 ?d2 ?d3 ?d4 ?d5 ?_) | (go_at_call 34; refine (mark_any _ _ _ (by omega) (by omega) (by omega) (by omega)).mono ?_; rintro e w' ⟨rfl, rfl⟩))
          case d1 => exact one_new wr _ _
          case d2 => intro u hu; simp at hu; subst hu; rfl
          case d3 => unfold maxLen; omega
          case d4 => omega
          case d5 => have := hbel.size; simp; omega
          intro v' w1 hown' hgrow _
          have hr := Round.step hbel hown hown' hgrow (hxs := by first | rw [List.append_assoc, marks_take k hlt] | rw [marks_take k hlt])
          clear hown hown' hgrow hbel
          obtain ⟨hown1, hbel1⟩ := hr
          go_wp2
          go_roundw
          case rel => exact ⟨k + 1, by omega, by go_num, hown1, hbel1⟩
          case measure => simp [intOf]; omega
        · obtain rfl : k = 16 := by omega
          go_wp2
          go_ret
          rw [marks_all] at hown
          exact ⟨_, rfl, by rw [List.length_append, List.map_append]; exact hown, hbel⟩

theorem marks_at (l : List Int) (k : Nat) (h1 : ¬ k < l.length) (h2 : k < l.length + 16) : (l ++ marks)[k]? = some (mark 90 ((k : Int) - (l.length : Int))) := by
  rw [List.getElem?_append_right (by omega)]
  have : k - l.length < 16 := by omega
  simp [marks, this]
  rw [Int.ofNat_sub (by omega)]

/-- A call that lent a list: the same, with the marks in its spare room. -/
def Lends (w : World) (l : List Int) (e : Ending) (w' : World) : Prop :=
  ∃ v, e = .returned v ∧ Lent w' w.heap.size 5 (Value.int .u8) v l.length (l ++ marks) ∧ Below w.heap.size w w'

set_option maxRecDepth 100000 in
set_option maxHeartbeats 1000000 in
theorem lent_any (v : Value) (l : List Int) (w : World) (h : Sl w w.heap.size (Value.int .u8) v l) (hlen : l.length ≤ 140737488351232) :
    Calls Tryz.prog 19 #[v] w (Lends w l) := by
  obtain ⟨A, cap, rfl, hcap, hmax⟩ := h.form
  have HL := Lib.hid h; clear h
  unfold maxLen at hmax
  go_enter Tryz.func19, Tryz.ntmps19
  go_wp2_with (go_at_call 36; refine (full_any _ l _ HL.out hlen).mono ?_; rintro e w' ⟨v', rfl, hown, hbel⟩; obtain ⟨g, c, rfl, hc1, hc2⟩ := own_form hown (by simp [marks]); have HO := Lib.hid hown; clear hown; simp only [List.length_append, marks, List.length_map, List.length_range] at hc1 ⊢)
  go_ret
  exact ⟨_, rfl, ⟨g, c, rfl, by simp, HO.out⟩, hbel⟩

set_option maxRecDepth 100000 in
set_option maxHeartbeats 1000000 in
theorem keptfull_yes (v u : Value) (l : List Int) (w : World) (B : Nat) (h : Sl w B (Value.int .u8) v (l ++ marks)) (h' : Sl w B (Value.int .u8) u l) (hlen : l.length ≤ 140737488351232) :
    Calls Tryz.prog 39 #[v, u] w fun e w' => e = .returned (.bool true) ∧ w = w' := by
  obtain ⟨A, cap, rfl, hcap, hmax⟩ := h.form
  obtain ⟨A', cap', rfl, hcap', hmax'⟩ := h'.form
  have HL := Lib.hid h; clear h
  have HL' := Lib.hid h'; clear h'
  have hll : (l ++ marks).length = l.length + 16 := by simp [marks]
  rw [hll] at HL hcap ⊢
  have HLL := Lib.hid hll; clear hll
  unfold maxLen at hmax hmax'
  go_enter Tryz.func39, Tryz.ntmps39
  go_wp2
  go_loop [5, 6] (fun i _ => ∃ k : Nat, k ≤ l.length + 16 ∧ i = .int .i64 k) (fun i _ => l.length + 16 - (intOf i).toNat)
  case atStart => exact ⟨0, Nat.zero_le _, rfl⟩
  case round =>
    obtain ⟨k, hk, rfl⟩ := hrel
    by_cases hlt : k < l.length + 16
    · obtain ⟨b, off, rfl, hb, hc⟩ := HL.out.at_ (k := k) (by rw [HLL.out]; exact hlt)
      by_cases hin : k < l.length
      · obtain ⟨b', off', rfl, hb', hc'⟩ := HL'.out.at_ hin
        rw [List.getElem_append_left hin] at hc
        go_wp2_with (go_at_call 34; refine (mark_any _ _ _ (by omega) (by omega) (by omega) (by omega)).mono ?_; rintro e w' ⟨rfl, rfl⟩)
        go_round
        case rel => exact ⟨k + 1, by omega, by go_num⟩
        case measure => simp [intOf]; omega
      · have hm : (l ++ marks)[k]'(by rw [HLL.out]; exact hlt) = mark 90 ((k : Int) - (l.length : Int)) := by
          have := marks_at l k hin hlt
          rw [List.getElem?_eq_getElem (by rw [HLL.out]; exact hlt)] at this
          exact Option.some.inj this
        rw [hm] at hc
        clear hm
        go_wp2_with (go_at_call 34; refine (mark_any _ _ _ (by omega) (by omega) (by omega) (by omega)).mono ?_; rintro e w' ⟨rfl, rfl⟩)
        go_round
        case rel => exact ⟨k + 1, by omega, by go_num⟩
        case measure => simp [intOf]; omega
    · obtain rfl : k = l.length + 16 := by omega
      go_wp2
      go_ret
      exact ⟨rfl, rfl⟩

set_option maxRecDepth 100000 in
set_option maxHeartbeats 1000000 in
theorem kept_yes (v u : Value) (l : List Int) (w : World) (B base : Nat) (h : Lent w base 5 (Value.int .u8) v l.length (l ++ marks)) (h' : Sl w B (Value.int .u8) u l) (hlen : l.length ≤ 140737488351232) (hB : B ≤ w.heap.size) :
    Calls Tryz.prog 22 #[v, u] w fun e w' => e = .returned (.bool true) ∧ w = w' := by
  obtain ⟨A', cap', rfl, hcap', hmax'⟩ := h'.form
  obtain ⟨g, c, rfl, hn, hown⟩ := h
  have hs := Sl.of_own hown
  obtain ⟨hcap, hmax⟩ := own_cap hown
  have hll : (l ++ marks).length = l.length + 16 := by simp [marks]
  rw [hll] at hs hcap
  have HL := Lib.hid hs; clear hs
  have HL' := Lib.hid h'; clear h'
  clear hown hll hn
  unfold maxLen at hmax'
  go_enter Tryz.func22, Tryz.ntmps22
  go_wp2_with (go_at_call 39; refine (keptfull_yes _ _ l _ w.heap.size HL.out (HL'.out.more hB) hlen).mono ?_; rintro e w' ⟨rfl, rfl⟩)
  go_ret
  exact ⟨rfl, rfl⟩
end bytesK
end Go.Proofs.YtdjippdcgfcfgaaGreatDoor

namespace Go.Proofs.YtdjippdcgfcfgaaGreatDoor
open Go.RowKit Go.Bus
set_option linter.unusedVariables false
namespace lentK
section
variable {α : Type} {w w' : World} {base B : Nat} {e : TypeId} {f : α → Value} {v : Value} {l t : List α}
theorem sl_of (h : Lent w base e f v l.length (l ++ t)) : Sl w w.heap.size f v l := by
  obtain ⟨g, cap, rfl, hn, ho⟩ := h
  obtain ⟨A', cap', hv, hl, hc, hx⟩ := Sl.of_own ho
  simp only [Value.slice.injEq] at hv
  obtain ⟨rfl, _, rfl⟩ := hv
  refine ⟨_, cap, rfl, by omega, hc, fun h0 => ?_⟩
  obtain ⟨b, off, hb, hlt, hcell⟩ := hx (by rw [List.length_append]; omega)
  exact ⟨b, off, hb, hlt, fun i x hi => hcell i x (by rw [List.getElem?_append_left (List.getElem?_eq_some_iff.1 hi).1]; exact hi)⟩
theorem own_below {v : Value} {n : Nat} {xs : List Value} (h : w.ownsRow base e 1 v n xs) (hb : Below B w w') (hlt : ∀ q, v.ownBlock = some q → q < B) : w'.ownsRow base e 1 v n xs := by
  refine ⟨h.1, ?_⟩
  rcases h.2 with hn | ⟨g, cap, cur, rfl, hbb, hgg, rest⟩
  · exact .inl hn
  · exact .inr ⟨g, cap, cur, rfl, hbb, (hb.block g (hlt g (by rfl))).trans hgg, rest⟩
theorem lent_below {n : Nat} (h : Lent w base e f v n l) (hb : Below B w w') (hlt : ∀ q, v.ownBlock = some q → q < B) : Lent w' base e f v n l := by
  obtain ⟨g, cap, rfl, hn, ho⟩ := h
  exact ⟨g, cap, rfl, hn, own_below ho hb (fun q hq => hlt q (by simpa [Value.ownBlock] using hq))⟩
theorem lent_lt {n : Nat} (h : Lent w base e f v n l) : ∀ q, v.ownBlock = some q → q < w.heap.size := by
  obtain ⟨g, cap, rfl, hn, ho⟩ := h
  intro q hq
  exact (ho.lt q (by simpa [Value.ownBlock] using hq)).2
end
end lentK
end Go.Proofs.YtdjippdcgfcfgaaGreatDoor

namespace Go.Proofs.YtdjippdcgfcfgaaGreatDoor
open Go.RowKit Go.Bus Go.Bus.cellK Go.Bus.codeK
set_option linter.unusedVariables false
set_option linter.unusedSimpArgs false
namespace codeW
set_option maxRecDepth 100000 in
set_option maxHeartbeats 1000000 in
theorem told_nil (w : World) : Calls Tryz.prog 16 #[.nilIface, .int .i64 0, .int .i64 (-1)] w fun e w' => e = .returned (.bool true) ∧ Below w.heap.size w w' := by
  go_enter Tryz.func16, Tryz.ntmps16
  go_wp2_with fail
  refine (asK.plain_nil _).mono ?_
  rintro e w1 ⟨rfl, hb⟩
  have HB := Lib.hid hb
  clear hb
  go_wp2
  go_ret
  exact ⟨rfl, HB.out⟩
set_option maxRecDepth 100000 in
set_option maxHeartbeats 1000000 in
theorem told_no (k : Int) (h1 : 1 ≤ k) (h2 : k ≤ 26) (w : World) (hg : asK.ErrT w) : Calls Tryz.prog 16 #[.iface 54 (.int .i64 k), .int .i64 k, .int .i64 (-1)] w fun e w' => e = .returned (.bool true) ∧ Below w.heap.size w w' := by
  have HG := Lib.hid hg; clear hg
  go_enter Tryz.func16, Tryz.ntmps16
  go_wp2_with fail
  refine (asK.plain_no k _ h1 h2 HG.out).mono ?_
  rintro e w1 ⟨rfl, hb⟩
  have HB := Lib.hid hb
  clear hb
  go_wp2
  go_ret
  exact ⟨rfl, HB.out⟩
set_option maxRecDepth 100000 in
set_option maxHeartbeats 1000000 in
theorem told_at (k : Int) (n : Nat) (h1 : 1 ≤ k) (h2 : k ≤ 26) (w : World) (hg : asK.ErrT w) : Calls Tryz.prog 16 #[faultV k n, .int .i64 k, .int .i64 n] w fun e w' => e = .returned (.bool true) ∧ Below w.heap.size w w' := by
  have HG := Lib.hid hg; clear hg
  have d1 : decide ((n : Int) < 0) = false := by simp
  unfold faultV
  go_enter Tryz.func16, Tryz.ntmps16
  go_wp2_with fail
  refine (asK.at_fault k 0 (n : Int) _ h1 h2 HG.out).mono ?_
  rintro e w1 ⟨rfl, hb⟩
  have HB := Lib.hid hb
  clear hb
  go_wp2
  go_ret
  exact ⟨rfl, HB.out⟩
end codeW
end Go.Proofs.YtdjippdcgfcfgaaGreatDoor

namespace Go.Proofs.YtdjippdcgfcfgaaGreatDoor
open Go.RowKit Go.Bus Go.Bus.cellK Go.Bus.codeK Go.Bus.farmC Go.Proofs.YtdjippdcgfcfgaaGreatDoor.lentK
set_option linter.unusedVariables false
set_option linter.unusedSimpArgs false
namespace codeW
theorem ifarm2 {w : World} {base mid : Nat} {e : TypeId} {va vb : Value} {xs ys : List Ins} (ha : w.ownsRow base e 5 va xs.length (xs.flatMap insC)) (hb : w.ownsRow mid e 5 vb ys.length (ys.flatMap insC)) (hm : base ≤ mid) (hlt : ∀ q, va.ownBlock = some q → q < mid) :
    Farm w base e 5 insC [(va, xs), (vb, ys)] := by
  refine Farm.snoc (R := [(va, xs)]) (Farm.snoc (R := []) ⟨fun i v z h => by simp at h, fun i j v z u y h => by simp at h⟩ ha (fun i u y q h => by simp at h)) (own_base hb hm) ?_
  intro i u y q hi hq he
  have h1 : u = va := by
    cases i with
    | zero => simp at hi; exact hi.1.symm
    | succ i => simp at hi
  subst h1
  have h2 := hlt q hq
  have h3 := (hb.lt q he).1
  omega
set_option maxRecDepth 100000 in
set_option maxHeartbeats 1000000 in
theorem decodes_w {l : List Int} {v : Value} (w : World) (h : Sl w w.heap.size byteV v l) (hlen : l.length ≤ 140737488351232) (P : List Ins) (E : Value) (no at_ : Int) (hL : P.length ≤ 1000000000) (hG : asK.ErrT w)
    (hD : ∀ W u, Sl W W.heap.size byteV u l → Calls Tryz.prog 11 #[u] W (AnsI W P E))
    (hR : ∀ W u, Sl W W.heap.size byteV u l → Calls Tryz.prog 20 #[u] W (AnsJ W P no at_))
    (hT : ∀ W, asK.ErrT W → Calls Tryz.prog 16 #[E, .int .i64 no, .int .i64 at_] W fun e w' => e = .returned (.bool true) ∧ Below W.heap.size W w') :
    Calls Tryz.prog 5 #[v] w fun e w' => e = .returned (.bool true) ∧ Below w.heap.size w w' := by
  have HS := Lib.hid h
  have HG := Lib.hid hG
  have HD := Lib.hid hD
  have HR := Lib.hid hR
  have HT := Lib.hid hT
  clear h hG hD hR hT
  go_enter Tryz.func5, Tryz.ntmps5
  go_wp2_with fail
  refine (bytesK.lent_any v l _ HS.out hlen).mono ?_
  rintro e w1 ⟨u, rfl, hx, hb⟩
  have HX1 := Lib.hid hx
  have HLX := Lib.hid (lent_lt hx)
  have HB1 := Lib.hid hb
  obtain ⟨gx, cx, hu, -⟩ := hx
  subst hu
  clear hb
  go_wp2_with fail
  refine (HD.out _ _ (sl_of HX1.out)).mono ?_
  rintro e w2 ⟨Aa, ca, rfl, ho, hb⟩
  have HO2 := Lib.hid ho
  have HLa : Hid (∀ q, (Value.slice Aa P.length ca).ownBlock = some q → q < w2.heap.size) := Lib.hid (fun q hq => (ho.lt q hq).2)
  have HX2 := Lib.hid (HX1.out.below hb)
  have HB2 := Lib.hid (HB1.out.trans (hb.mono HB1.out.size))
  have HC2 := Lib.hid hb
  clear ho hb
  go_wp2_with fail
  refine (HD.out _ _ (sl_of HX2.out)).mono ?_
  rintro e w3 ⟨Ab, cb, rfl, ho, hb⟩
  have HO3 := Lib.hid (own_kept HO2.out hb)
  have HU3 := Lib.hid ho
  have HX3 := Lib.hid (HX2.out.below hb)
  have HB3 := Lib.hid (HB2.out.trans (hb.mono HB2.out.size))
  have HC3 := Lib.hid (HC2.out.trans (hb.mono HC2.out.size))
  clear ho hb
  go_wp2_with fail
  refine (HR.out _ _ (HS.out.at_below HB3.out)).mono ?_
  rintro e w4 ⟨Ar, cr, rfl, ho, hb⟩
  have HO4 := Lib.hid (own_kept HO3.out hb)
  have HU4 := Lib.hid (own_kept HU3.out hb)
  have HV4 := Lib.hid ho
  have HX4 := Lib.hid (HX3.out.below hb)
  have HB4 := Lib.hid (HB3.out.trans (hb.mono HB3.out.size))
  have HC4 := Lib.hid (HC3.out.trans (hb.mono HC3.out.size))
  clear ho hb
  go_wp2_with fail
  refine (sameinstrs_any _ (ins_of_own HO4.out) (ins_of_own HV4.out)).mono ?_
  rintro e w5 ⟨rfl, n5, h5⟩
  have hb : Below w4.heap.size w4 w5 := by rw [h5]; exact Go.Bus.below_drewN (Below.refl _ _) _
  clear h5
  have HO5 := Lib.hid (own_kept HO4.out hb)
  have HU5 := Lib.hid (own_kept HU4.out hb)
  have HV5 := Lib.hid (own_kept HV4.out hb)
  have HX5 := Lib.hid (HX4.out.below hb)
  have HB5 := Lib.hid (HB4.out.trans (hb.mono HB4.out.size))
  have HC5 := Lib.hid (HC4.out.trans (hb.mono HC4.out.size))
  clear hb
  go_wp2_with fail
  refine (sameinstrs_any _ (ins_of_own HU5.out) (ins_of_own HV5.out)).mono ?_
  rintro e w6 ⟨rfl, n6, h6⟩
  have hb : Below w5.heap.size w5 w6 := by rw [h6]; exact Go.Bus.below_drewN (Below.refl _ _) _
  clear h6
  have HO6 := Lib.hid (own_kept HO5.out hb)
  have HU6 := Lib.hid (own_kept HU5.out hb)
  have HX6 := Lib.hid (HX5.out.below hb)
  have HB6 := Lib.hid (HB5.out.trans (hb.mono HB5.out.size))
  have HC6 := Lib.hid (HC5.out.trans (hb.mono HC5.out.size))
  clear hb
  go_wp2_with fail
  refine (HT.out _ (HG.out.at_below HB6.out)).mono ?_
  rintro e w7 ⟨rfl, hb⟩
  have HO7 := Lib.hid (own_kept HO6.out hb)
  have HU7 := Lib.hid (own_kept HU6.out hb)
  have HX7 := Lib.hid (HX6.out.below hb)
  have HB7 := Lib.hid (HB6.out.trans (hb.mono HB6.out.size))
  have HC7 := Lib.hid (HC6.out.trans (hb.mono HC6.out.size))
  clear hb
  go_wp2_with fail
  refine (HT.out _ (HG.out.at_below HB7.out)).mono ?_
  rintro e w8 ⟨rfl, hb⟩
  have HO8 := Lib.hid (own_kept HO7.out hb)
  have HU8 := Lib.hid (own_kept HU7.out hb)
  have HX8 := Lib.hid (HX7.out.below hb)
  have HB8 := Lib.hid (HB7.out.trans (hb.mono HB7.out.size))
  have HC8 := Lib.hid (HC7.out.trans (hb.mono HC7.out.size))
  clear hb
  go_wp2_with fail
  refine (apartInstrs.apart_any w8.heap.size w1.heap.size [(.slice Aa P.length ca, P), (.slice Ab P.length cb, P)] _ ?a1 ?a2 ?a3 ?a4 ?a5 ?a6).mono ?_
  case a1 => exact Has.new w8 _ _
  case a2 => exact ifarm2 (own_kept HO8.out ((Below.refl _ _).alloc (Nat.le_refl _) _)) (own_kept HU8.out ((Below.refl _ _).alloc (Nat.le_refl _) _)) HC2.out.size HLa.out
  case a3 => have := HC8.out.size; simp; omega
  case a4 => simp
  case a5 => simp
  case a6 => intro q hq; simp at hq; rcases hq with rfl | rfl <;> exact hL
  rintro e w9 ⟨rfl, hb⟩
  have hb9 : Below w1.heap.size w8 w9 := Below.trans ((Below.refl _ _).alloc HC8.out.size _) hb
  have HX9 := Lib.hid (lent_below HX8.out hb9 HLX.out)
  have HB9 := Lib.hid (HB8.out.trans (hb9.mono HB1.out.size))
  clear hb hb9
  go_wp2_with fail
  refine (bytesK.kept_yes _ _ l _ w.heap.size _ HX9.out (HS.out.below HB9.out) hlen HB9.out.size).mono ?_
  rintro e w10 ⟨rfl, rfl⟩
  go_wp2
  go_ret
  exact ⟨rfl, HB9.out⟩
end codeW
end Go.Proofs.YtdjippdcgfcfgaaGreatDoor

namespace Go.Proofs.YtdjippdcgfcfgaaGreatDoor
open Go.RowKit Go.Bus Go.Bus.cellK Go.Bus.codeK
set_option linter.unusedVariables false
set_option linter.unusedSimpArgs false
namespace codeW
theorem AnsI.nil_ {W w' : World} {E : Value} (hb : Below W.heap.size W w') : AnsI W [] E (.returned (.tuple #[.slice none 0 0, E])) w' := ⟨none, 0, rfl, World.ownsRow_nil _ _ _ _, hb⟩
/-- The numbers of errors. -/
theorem decGo_no (L : Nat) : ∀ (n : Nat) (l : List Int) (p : List Ins) (no : Int) (k : Nat), l.length ≤ n → (∀ c ∈ l, Byte c) → decGo L l p = .error (no, k) → 1 ≤ no ∧ no ≤ 26 := by
  intro n
  induction n with
  | zero =>
    intro l p no k hl hb h
    obtain rfl := List.eq_nil_of_length_eq_zero (by omega : l.length = 0)
    rw [decGo_nil] at h; cases h
  | succ n ih =>
    intro l p no k hl hb h
    cases l with
    | nil => rw [decGo_nil] at h; cases h
    | cons c r =>
      rw [dec_one] at h
      split at h
      · cases h; exact ⟨by decide, by decide⟩
      · split at h
        · rename_i e he
          cases h
          exact oneR_no he
        · rename_i r' x he
          obtain ⟨m, hm⟩ := oneR_suffix (fun d hd => hb d (List.mem_cons_of_mem _ hd)) he
          have hrl : r'.length ≤ r.length := by rw [hm, List.length_append]; omega
          rw [if_pos hrl] at h
          exact ih r' _ no k (by simp at hl; omega) (fun d hd => hb d (List.mem_cons_of_mem _ (by rw [hm]; exact List.mem_append_right _ hd))) h
theorem decodes_any {l : List Int} {v : Value} (w : World) (h : Sl w w.heap.size byteV v l) (hby : ∀ c ∈ l, Byte c) (hlen : l.length ≤ 140737488351232) (hG : asK.ErrT w) : Calls Tryz.prog 5 #[v] w fun e w' => e = .returned (.bool true) ∧ Below w.heap.size w w' := by
  cases hd : decGo l.length l [] with
  | error z =>
    obtain ⟨no, k⟩ := z
    obtain ⟨h1, h2⟩ := decGo_no _ _ l [] no k (Nat.le_refl _) hby hd
    exact decodes_w w h hlen [] (faultV no k) no k (by simp) hG
      (fun W u hs => (decode_any W hs hby).mono fun e w' h => by unfold DecPost at h; rw [hd] at h; obtain ⟨h1, h2⟩ := h; rw [h1]; exact AnsI.nil_ h2)
      (fun W u hs => (rdecode_any W hs hby hlen).mono fun e w' h => by unfold RDecPost at h; rw [hd] at h; exact h)
      (fun W hg => told_at no k h1 h2 W hg)
  | ok p =>
    obtain ⟨_, _, _, _, hpl⟩ := dec_only _ _ l [] p (Nat.le_refl _) hby (by simp) hd
    exact decodes_w w h hlen p .nilIface 0 (-1) (by omega) hG
      (fun W u hs => (decode_any W hs hby).mono fun e w' h => by unfold DecPost at h; rw [hd] at h; obtain ⟨u, h1, h2, h3⟩ := h; obtain ⟨A, c, rfl⟩ := own_slice h2; exact ⟨A, c, h1, h2, h3⟩)
      (fun W u hs => (rdecode_any W hs hby hlen).mono fun e w' h => by unfold RDecPost at h; rw [hd] at h; exact h)
      (fun W hg => told_nil W)
end codeW
end Go.Proofs.YtdjippdcgfcfgaaGreatDoor
