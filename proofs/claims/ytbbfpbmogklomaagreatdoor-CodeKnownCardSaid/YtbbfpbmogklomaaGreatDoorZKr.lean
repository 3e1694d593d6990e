/- Texts of this claim, one behind the other. No condition but those that each states. -/
import Derived.Test.YtbbfpbmogklomaaGreatDoorZCodeE
import Derived.Test.YtbbfpbmogklomaaGreatDoorZKb
import Derived.Test.YtbbfpbmogklomaaGreatDoorZKg
import Derived.Test.YtbbfpbmogklomaaGreatDoorZKf
import Derived.Test.YtbbfpbmogklomaaGreatDoorZKe
import Derived.Test.YtbbfpbmogklomaaGreatDoorZCodeQb
import Derived.Test.YtbbfpbmogklomaaGreatDoorZKn
import Derived.Test.YtbbfpbmogklomaaGreatDoorZCodeSi
import Derived.Test.YtbbfpbmogklomaaGreatDoorZKq

namespace Go.Proofs.YtbbfpbmogklomaaGreatDoor
open Go.RowKit Go.Bus Go.Bus.cellK Go.Bus.codeK
set_option linter.unusedVariables false
set_option linter.unusedSimpArgs false
namespace codeW
set_option maxRecDepth 100000 in
set_option maxHeartbeats 1000000 in
theorem told_nil (w : World) : Calls Tryz.prog 34 #[.nilIface, .int .i64 0, .int .i64 (-1)] w fun e w' => e = .returned (.bool true) ∧ Below w.heap.size w w' := by
  go_enter Tryz.func34, Tryz.ntmps34
  go_wp2_with fail
  refine (asK.plain_nil _).mono ?_
  rintro e w1 ⟨rfl, hb⟩
  have HB := Lib.hid hb
  clear hb
  go_wp2
  go_ret
  exact ⟨rfl, HB.out⟩
set_option maxRecDepth 100000 in
set_option maxHeartbeats 1000000 in
theorem told_no (k : Int) (h1 : 1 ≤ k) (h2 : k ≤ 26) (w : World) (hg : asK.ErrT w) : Calls Tryz.prog 34 #[.iface 50 (.int .i64 k), .int .i64 k, .int .i64 (-1)] w fun e w' => e = .returned (.bool true) ∧ Below w.heap.size w w' := by
  have HG := Lib.hid hg; clear hg
  go_enter Tryz.func34, Tryz.ntmps34
  go_wp2_with fail
  refine (asK.plain_no k _ h1 h2 HG.out).mono ?_
  rintro e w1 ⟨rfl, hb⟩
  have HB := Lib.hid hb
  clear hb
  go_wp2
  go_ret
  exact ⟨rfl, HB.out⟩
set_option maxRecDepth 100000 in
set_option maxHeartbeats 1000000 in
theorem told_at (k : Int) (n : Nat) (h1 : 1 ≤ k) (h2 : k ≤ 26) (w : World) (hg : asK.ErrT w) : Calls Tryz.prog 34 #[faultV k n, .int .i64 k, .int .i64 n] w fun e w' => e = .returned (.bool true) ∧ Below w.heap.size w w' := by
  have HG := Lib.hid hg; clear hg
  have d1 : decide ((n : Int) < 0) = false := by simp
  unfold faultV
  go_enter Tryz.func34, Tryz.ntmps34
  go_wp2_with fail
  refine (asK.at_fault k 0 (n : Int) _ h1 h2 HG.out).mono ?_
  rintro e w1 ⟨rfl, hb⟩
  have HB := Lib.hid hb
  clear hb
  go_wp2
  go_ret
  exact ⟨rfl, HB.out⟩
end codeW
end Go.Proofs.YtbbfpbmogklomaaGreatDoor

namespace Go.Proofs.YtbbfpbmogklomaaGreatDoor
open Go.RowKit Go.Bus Go.Bus.cellK Go.Bus.codeK Go.Bus.farmK Go.Bus.lentC
set_option linter.unusedVariables false
set_option linter.unusedSimpArgs false
namespace codeW
/-- A row of bytes of the call's own, and an error beside it. -/
def AnsB (W : World) (L : List Int) (E : Value) (e : Ending) (w' : World) : Prop :=
  ∃ A c, e = .returned (.tuple #[.slice A L.length c, E]) ∧ w'.ownsRow W.heap.size 5 1 (.slice A L.length c) L.length (L.map byteV) ∧ Below W.heap.size W w'
def AnsR (W : World) (L : List Int) (no at_ : Int) (e : Ending) (w' : World) : Prop :=
  ∃ A c, e = .returned (.tuple #[.slice A L.length c, .int .i64 no, .int .i64 at_]) ∧ w'.ownsRow W.heap.size 5 1 (.slice A L.length c) L.length (L.map byteV) ∧ Below W.heap.size W w'
theorem bfarm2 {w : World} {base mid : Nat} {e : TypeId} {va vb : Value} {xs ys : List Int} (ha : w.ownsRow base e 1 va xs.length (xs.map byteV)) (hb : w.ownsRow mid e 1 vb ys.length (ys.map byteV)) (hm : base ≤ mid) (hlt : ∀ q, va.ownBlock = some q → q < mid) :
    Farm w base e (Value.int .u8) [(va, xs), (vb, ys)] := by
  refine Farm.snoc (R := [(va, xs)]) (Farm.snoc (R := []) ⟨fun i v z h => by simp at h, fun i j v z u y h => by simp at h⟩ ha (fun i u y q h => by simp at h)) (own_base hb hm) ?_
  intro i u y q hi hq he
  have h1 : u = va := by
    cases i with
    | zero => simp at hi; exact hi.1.symm
    | succ i => simp at hi
  subst h1
  have h2 := hlt q hq
  have h3 := (hb.lt q he).1
  omega
theorem samebytes_yes {v u : Value} {l : List Int} (w : World) (h : Sl w w.heap.size byteV v l) (h' : Sl w w.heap.size byteV u l) : Calls Tryz.prog 12 #[v, u] w fun e w' => e = .returned (.bool true) ∧ Below w.heap.size w w' :=
  (samebytes_any w h h').mono fun e w' h => ⟨by rw [h.1]; simp, h.2⟩
set_option maxRecDepth 100000 in
set_option maxHeartbeats 1000000 in
theorem encodes_w {p : List Ins} {v : Value} (w : World) (h : SlK 5 insE w (Old w.heap.size) v p) (hby : p.length * 40 ≤ 140737488351232) (L : List Int) (E : Value) (no at_ : Int) (hL : L.length ≤ 1000000000) (hG : asK.ErrT w)
    (hD : ∀ W u, SlK 5 insE W (Old W.heap.size) u p → Calls Tryz.prog 10 #[u] W (AnsB W L E))
    (hR : ∀ W u, SlK 5 insE W (Old W.heap.size) u p → Calls Tryz.prog 33 #[u] W (AnsR W L no at_))
    (hT : ∀ W, asK.ErrT W → Calls Tryz.prog 34 #[E, .int .i64 no, .int .i64 at_] W fun e w' => e = .returned (.bool true) ∧ Below W.heap.size W w') :
    Calls Tryz.prog 15 #[v] w fun e w' => e = .returned (.bool true) ∧ Below w.heap.size w w' := by
  have HS := Lib.hid h
  have HG := Lib.hid hG
  have HD := Lib.hid hD
  have HR := Lib.hid hR
  have HT := Lib.hid hT
  clear h hG hD hR hT
  go_enter Tryz.func15, Tryz.ntmps15
  go_wp2_with fail
  refine (instrs_lent v p (Old w.heap.size) _ HS.out (fun _ h => h) hby).mono ?_
  rintro e w1 ⟨u, rfl, hx, hb⟩
  have HX1 := Lib.hid hx
  have HLX : Hid (∀ q, u.ownBlock = some q → q < w1.heap.size) := Lib.hid hx.lt
  have HB1 := Lib.hid hb
  obtain ⟨gx, cx, hu, -⟩ := hx
  subst hu
  clear hb
  go_wp2_with fail
  refine (HD.out _ _ (Ln.sl (fun _ => rfl) (fun _ _ _ => rfl) HX1.out)).mono ?_
  rintro e w2 ⟨Aa, ca, rfl, ho, hb⟩
  have HO2 := Lib.hid ho
  have HLa : Hid (∀ q, (Value.slice Aa L.length ca).ownBlock = some q → q < w2.heap.size) := Lib.hid (fun q hq => (ho.lt q hq).2)
  have HX2 := Lib.hid (HX1.out.keep hb)
  have HB2 := Lib.hid (HB1.out.trans (hb.mono HB1.out.size))
  have HC2 := Lib.hid hb
  clear ho hb
  go_wp2_with fail
  refine (HD.out _ _ (Ln.sl (fun _ => rfl) (fun _ _ _ => rfl) HX2.out)).mono ?_
  rintro e w3 ⟨Ab, cb, rfl, ho, hb⟩
  have HO3 := Lib.hid (own_kept HO2.out hb)
  have HU3 := Lib.hid ho
  have HX3 := Lib.hid (HX2.out.keep hb)
  have HB3 := Lib.hid (HB2.out.trans (hb.mono HB2.out.size))
  have HC3 := Lib.hid (HC2.out.trans (hb.mono HC2.out.size))
  clear ho hb
  go_wp2_with fail
  refine (HR.out _ _ (HS.out.later insE_mono HB3.out)).mono ?_
  rintro e w4 ⟨Ar, cr, rfl, ho, hb⟩
  have HO4 := Lib.hid (own_kept HO3.out hb)
  have HU4 := Lib.hid (own_kept HU3.out hb)
  have HV4 := Lib.hid ho
  have HX4 := Lib.hid (HX3.out.keep hb)
  have HB4 := Lib.hid (HB3.out.trans (hb.mono HB3.out.size))
  have HC4 := Lib.hid (HC3.out.trans (hb.mono HC3.out.size))
  clear ho hb
  go_wp2_with fail
  refine (samebytes_yes _ (Sl.of_own HO4.out) (Sl.of_own HV4.out)).mono ?_
  rintro e w5 ⟨rfl, hb⟩
  have HO5 := Lib.hid (own_kept HO4.out hb)
  have HU5 := Lib.hid (own_kept HU4.out hb)
  have HV5 := Lib.hid (own_kept HV4.out hb)
  have HX5 := Lib.hid (HX4.out.keep hb)
  have HB5 := Lib.hid (HB4.out.trans (hb.mono HB4.out.size))
  have HC5 := Lib.hid (HC4.out.trans (hb.mono HC4.out.size))
  clear hb
  go_wp2_with fail
  refine (samebytes_yes _ (Sl.of_own HU5.out) (Sl.of_own HV5.out)).mono ?_
  rintro e w6 ⟨rfl, hb⟩
  have HO6 := Lib.hid (own_kept HO5.out hb)
  have HU6 := Lib.hid (own_kept HU5.out hb)
  have HX6 := Lib.hid (HX5.out.keep hb)
  have HB6 := Lib.hid (HB5.out.trans (hb.mono HB5.out.size))
  have HC6 := Lib.hid (HC5.out.trans (hb.mono HC5.out.size))
  clear hb
  go_wp2_with fail
  refine (HT.out _ (HG.out.at_below HB6.out)).mono ?_
  rintro e w7 ⟨rfl, hb⟩
  have HO7 := Lib.hid (own_kept HO6.out hb)
  have HU7 := Lib.hid (own_kept HU6.out hb)
  have HX7 := Lib.hid (HX6.out.keep hb)
  have HB7 := Lib.hid (HB6.out.trans (hb.mono HB6.out.size))
  have HC7 := Lib.hid (HC6.out.trans (hb.mono HC6.out.size))
  clear hb
  go_wp2_with fail
  refine (HT.out _ (HG.out.at_below HB7.out)).mono ?_
  rintro e w8 ⟨rfl, hb⟩
  have HO8 := Lib.hid (own_kept HO7.out hb)
  have HU8 := Lib.hid (own_kept HU7.out hb)
  have HX8 := Lib.hid (HX7.out.keep hb)
  have HB8 := Lib.hid (HB7.out.trans (hb.mono HB7.out.size))
  have HC8 := Lib.hid (HC7.out.trans (hb.mono HC7.out.size))
  clear hb
  go_wp2_with fail
  refine (apartBytes.apart_any w8.heap.size w1.heap.size [(.slice Aa L.length ca, L), (.slice Ab L.length cb, L)] _ ?a1 ?a2 ?a3 ?a4 ?a5 ?a6).mono ?_
  case a1 => exact Has.new w8 _ _
  case a2 => exact bfarm2 (own_kept HO8.out ((Below.refl _ _).alloc (Nat.le_refl _) _)) (own_kept HU8.out ((Below.refl _ _).alloc (Nat.le_refl _) _)) HC2.out.size HLa.out
  case a3 => have := HC8.out.size; simp; omega
  case a4 => simp
  case a5 => simp
  case a6 => intro q hq; simp at hq; rcases hq with rfl | rfl <;> exact hL
  rintro e w9 ⟨rfl, hb⟩
  have hb9 : Below w1.heap.size w8 w9 := Below.trans ((Below.refl _ _).alloc HC8.out.size _) hb
  have HX9 := Lib.hid (HX8.out.under hb9 HLX.out)
  have HB9 := Lib.hid (HB8.out.trans (hb9.mono HB1.out.size))
  clear hb hb9
  go_wp2_with fail
  refine (instrs_kept _ _ p _ _ HX9.out (HS.out.later insE_mono HB9.out) hby).mono ?_
  rintro e w10 ⟨rfl, hb⟩
  have HB10 := Lib.hid (HB9.out.trans (hb.mono HB9.out.size))
  clear hb
  go_wp2
  go_ret
  exact ⟨rfl, HB10.out⟩
end codeW
end Go.Proofs.YtbbfpbmogklomaaGreatDoor

namespace Go.Proofs.YtbbfpbmogklomaaGreatDoor
open Go.RowKit Go.Bus Go.Bus.cellK Go.Bus.codeK
set_option linter.unusedVariables false
set_option linter.unusedSimpArgs false
namespace codeW
def REncPost (p : List Ins) (w : World) (e : Ending) (w' : World) : Prop :=
  match firstBad p with
  | none => AnsR w (encP p) 0 (-1) e w'
  | some i => AnsR w [] 20 i e w'
set_option maxRecDepth 100000 in
set_option maxHeartbeats 1000000 in
theorem rencode_many {p : List Ins} {v : Value} (w : World) (h : SlK 5 insE w (Old w.heap.size) v p) (hl : 16384 < p.length) : Calls Tryz.prog 33 #[v] w (AnsR w [] 5 (-1)) := by
  obtain ⟨A, cap, rfl, hcap, hmax⟩ := h.form
  clear h
  unfold maxLen at hmax
  have d1 : decide (16384 < (p.length : Int)) = true := by simp; omega
  go_enter Tryz.func33, Tryz.ntmps33
  go_wp2
  go_ret3
  exact ⟨none, 0, rfl, World.ownsRow_nil _ _ _ _, Below.refl _ _⟩
theorem rbytes_form {x : Ins} (hx : x.Ok) (hr : rightB x = true) (w : World) : Calls Tryz.prog 69 #[.agg #[.int .i64 x.op, .int .i64 x.a, .int .i64 x.b, .int .i64 x.n, .int .u64 x.imm]] w fun e w' => ∃ g c, e = .returned (.slice (some ⟨g, 0, none⟩) (encI x).length c) ∧ w'.ownsRow w.heap.size 5 1 (.slice (some ⟨g, 0, none⟩) (encI x).length c) (encI x).length ((encI x).map byteV) ∧ Below w.heap.size w w' := by
  refine (rbytes_any hx hr w).mono ?_
  rintro e w' ⟨v, rfl, ho, hb⟩
  obtain ⟨g, c, rfl, _, _⟩ := own_form ho (by unfold encI; simp)
  exact ⟨g, c, rfl, ho, hb⟩
set_option maxRecDepth 100000 in
set_option maxHeartbeats 4000000 in
theorem rencode_any {p : List Ins} {v : Value} (w : World) (h : SlK 5 insE w (Old w.heap.size) v p) (hp : ∀ x ∈ p, x.Ok) (hl : p.length ≤ 16384) : Calls Tryz.prog 33 #[v] w (REncPost p w) := by
  obtain ⟨i0, hi, hz0, hz1, hz2⟩ := info_parts Tryz.infoB
  obtain ⟨A, cap, rfl, hcap, hmax⟩ := h.form
  have HS := Lib.hid h; clear h
  have HP := Lib.hid hp; clear hp
  unfold maxLen at hmax
  have d1 : decide (16384 < (p.length : Int)) = false := by simp; omega
  go_enter Tryz.func33, Tryz.ntmps33
  go_wp2
  go_loopw [5, 6] (fun l i wr => ∃ (k m : Nat), k ≤ p.length ∧ i = .int .i64 (k : Nat) ∧ m ≤ 41 * k ∧ Hid (m = (encP (p.take k)).length) ∧ Hid (wr.ownsRow w.heap.size 5 1 l m ((encP (p.take k)).map byteV)) ∧ Hid (∀ x ∈ p.take k, rightB x = true) ∧ Hid (Below w.heap.size w wr)) (fun _ i _ => p.length - (intOf i).toNat)
  case atStart => exact ⟨0, 0, Nat.zero_le _, rfl, Nat.zero_le _, Lib.hid rfl, Lib.hid (World.ownsRow_nil _ _ _ _), Lib.hid (by simp), Lib.hid (Below.refl _ _)⟩
  case round =>
    obtain ⟨k, m, hk, rfl, hm, HM, HO, HOK, HB⟩ := hrel
    by_cases hlt : k < p.length
    · have HSr := Lib.hid (HS.out.below insE_mono HB.out)
      obtain ⟨xb, off, rfl, hxb, c0, c1, c2, c3, c4⟩ := ins_get HSr.out hlt
      have hsz := HB.out.size
      have zx : xb < wr.heap.size := by have : xb < w.heap.size := hxb; omega
      obtain ⟨x, hx⟩ : ∃ x, x = p[k] := ⟨_, rfl⟩
      rw [← hx] at c0 c1 c2 c3 c4
      have HXK : Hid (x.Ok) := Lib.hid (by rw [hx]; exact HP.out _ (List.getElem_mem hlt))
      have HXE := Lib.hid hx; clear hx
      have HRT := Lib.hid (fun (W : World) => rright_any HXK.out W)
      cases hr : rightB x with
      | false =>
        have HBAD : Hid (firstBad p = some k) := Lib.hid (bad_at hlt HOK.out (by rw [← HXE.out, hr]))
        rw [hr] at HRT
        clear hr
        obtain ⟨op, a, b, n, imm⟩ := x
        go_wp2_with (go_at_call 63; refine (HRT.out _).mono ?_; rintro e w2 ⟨rfl, hB2⟩; have HB2 := Lib.hid hB2; clear hB2)
        go_ret3
        unfold REncPost
        rw [HBAD.out]
        exact ⟨none, 0, rfl, World.ownsRow_nil _ _ _ _, HB.out.trans (HB2.out.mono hsz)⟩
      | true =>
        rw [hr] at HRT
        have HRB := Lib.hid hr
        have HBY := Lib.hid (fun (W : World) => rbytes_form HXK.out hr W)
        have hlen := encI_len HXK.out hr
        obtain ⟨q, hq⟩ : ∃ q, q = (encI x).length := ⟨_, rfl⟩
        rw [← hq] at HBY hlen
        have HQ := Lib.hid hq
        have hEP : encP (p.take (k + 1)) = encP (p.take k) ++ encI x := by
          rw [take_snoc p k hlt, encP_append, HXE.out]; unfold encP; simp
        have HEP := Lib.hid hEP
        have HOKN : Hid (∀ y ∈ p.take (k + 1), rightB y = true) := Lib.hid (by
          intro y hy
          rw [take_snoc p k hlt] at hy
          rcases List.mem_append.1 hy with h1 | h1
          · exact HOK.out y h1
          · simp at h1; subst h1; rw [← HXE.out]; exact HRB.out)
        clear hr hq hEP
        obtain ⟨op, a, b, n, imm⟩ := x
        go_wp2_with (first
          | (go_at_call 63; refine (HRT.out _).mono ?_; rintro e w2 ⟨rfl, hB2⟩; have zx2 : xb < w2.heap.size := Nat.lt_of_lt_of_le zx hB2.size; obtain ⟨hc, hf⟩ := bcell hB2; have e0 : w2.cell? ⟨xb, off + k * 5, none⟩ = some (.int .i64 op) := (hc _ _ zx).trans c0; have e1 : w2.cell? ⟨xb, off + k * 5 + 1, none⟩ = some (.int .i64 a) := (hc _ _ zx).trans c1; have e2 : w2.cell? ⟨xb, off + k * 5 + 2, none⟩ = some (.int .i64 b) := (hc _ _ zx).trans c2; have e3 : w2.cell? ⟨xb, off + k * 5 + 3, none⟩ = some (.int .i64 n) := (hc _ _ zx).trans c3; have e4 : w2.cell? ⟨xb, off + k * 5 + 4, none⟩ = some (.int .u64 imm) := (hc _ _ zx).trans c4; have HO2 := Lib.hid (own_kept HO.out hB2); have HB2 := Lib.hid (HB.out.trans (hB2.mono hsz)); have hsz2 : w.heap.size ≤ w2.heap.size := HB2.out.size; clear hB2 hc hf)
          | (go_at_call 69; refine (HBY.out _).mono ?_; rintro e w3 ⟨g3, c3', rfl, ho3, hB3⟩; have HS3 := Lib.hid ho3; have HO3 := Lib.hid (own_kept HO2.out hB3); have HB3 := Lib.hid (HB2.out.trans (hB3.mono hsz2)); have hsz3 : w.heap.size ≤ w3.heap.size := HB3.out.size; clear ho3 hB3)
          | (at_builtin; refine wpList_append_own _ rfl _ _ 28 (by rfl) w.heap.size 5 i0 (.int .u8 0) 1 1 Tryz.underlying28 hi hz0 hz1 hz2 (by rfl) (by decide) _ m ((encP (p.take k)).map byteV) (by rfl) (by exact HO3.out) ⟨g3, 0, none⟩ q _ ((encI ⟨op, a, b, n, imm⟩).map byteV) (by rfl) (by rw [List.length_map, HQ.out, Nat.mul_one]) (by exact HS3.out.cells rfl) (by intro u hu; obtain ⟨z, _, rfl⟩ := List.mem_map.1 hu; rfl) (by unfold maxLen; omega) (by omega) hsz3 ?_; intro v4 w4 ho4 hg4 _; have HO4 := Lib.hid ho4; have HB4 : Hid (Below w.heap.size w w4) := Lib.hid (Below.grown HB3.out hg4 hsz3 fun r hr => (HO3.out.lt r hr).1); clear ho4 hg4))
        go_roundw
        case rel => exact ⟨k + 1, m + q, by omega, by go_num, by omega, Lib.hid (by rw [HEP.out, List.length_append, ← HM.out, ← HQ.out]), Lib.hid (by rw [HEP.out, List.map_append]; exact HO4.out), HOKN, HB4⟩
        case measure => simp [intOf]; omega
    · obtain rfl : k = p.length := by omega
      have hft : p.take p.length = p := List.take_of_length_le (Nat.le_refl _)
      rw [hft] at HM HO HOK
      have HGOOD : Hid (firstBad p = none) := Lib.hid (bad_none HOK.out)
      obtain ⟨lA, lc, rfl⟩ := own_slice HO.out
      go_wp2
      go_ret3
      unfold REncPost
      rw [HGOOD.out]
      have ho := HO.out
      rw [HM.out] at ho
      exact ⟨lA, lc, by rw [HM.out]; rfl, ho, HB.out⟩
end codeW
end Go.Proofs.YtbbfpbmogklomaaGreatDoor

namespace Go.Proofs.YtbbfpbmogklomaaGreatDoor
open Go.RowKit Go.Bus Go.Bus.cellK Go.Bus.codeK
set_option linter.unusedVariables false
set_option linter.unusedSimpArgs false
namespace codeW
theorem AnsB.nil_ {W w' : World} {E : Value} (hb : Below W.heap.size W w') : AnsB W [] E (.returned (.tuple #[.slice none 0 0, E])) w' := ⟨none, 0, rfl, World.ownsRow_nil _ _ _ _, hb⟩
theorem encodes_any {p : List Ins} {v : Value} (w : World) (h : SlK 5 insE w (Old w.heap.size) v p) (hp : ∀ x ∈ p, x.Ok) (hby : p.length * 40 ≤ 140737488351232) (hG : asK.ErrT w) : Calls Tryz.prog 15 #[v] w fun e w' => e = .returned (.bool true) ∧ Below w.heap.size w w' := by
  rcases Nat.lt_or_ge 16384 p.length with hl | hl
  · exact encodes_w w h hby [] (.iface 50 (.int .i64 5)) 5 (-1) (by simp) hG
      (fun W u hs => (encode_many W hs hl).mono fun e w' h => by rw [h.1]; exact AnsB.nil_ h.2)
      (fun W u hs => rencode_many W hs hl)
      (fun W hg => told_no 5 (by decide) (by decide) W hg)
  · cases hb : firstBad p with
    | some i =>
      exact encodes_w w h hby [] (faultV 20 i) 20 i (by simp) hG
        (fun W u hs => (encode_any W hs hp hl).mono fun e w' h => by unfold EncPost at h; rw [hb] at h; obtain ⟨h1, h2⟩ := h; rw [h1]; exact AnsB.nil_ h2)
        (fun W u hs => (rencode_any W hs hp hl).mono fun e w' h => by unfold REncPost at h; rw [hb] at h; exact h)
        (fun W hg => told_at 20 i (by decide) (by decide) W hg)
    | none =>
      have hL := encP_len p (fun z hz => ⟨hp z hz, firstBad_none hb z hz⟩)
      exact encodes_w w h hby (encP p) .nilIface 0 (-1) (by omega) hG
        (fun W u hs => encode_good W hs hp ⟨hl, firstBad_none hb⟩)
        (fun W u hs => (rencode_any W hs hp hl).mono fun e w' h => by unfold REncPost at h; rw [hb] at h; exact h)
        (fun W hg => told_nil W)
end codeW
end Go.Proofs.YtbbfpbmogklomaaGreatDoor

namespace Go.Proofs.YtbbfpbmogklomaaGreatDoor
open Go.RowKit Go.Bus Go.Bus.cellK Go.Bus.codeK Go.Bus.farmC Go.Proofs.YtbbfpbmogklomaaGreatDoor.lentK
set_option linter.unusedVariables false
set_option linter.unusedSimpArgs false
namespace codeW
theorem ifarm2 {w : World} {base mid : Nat} {e : TypeId} {va vb : Value} {xs ys : List Ins} (ha : w.ownsRow base e 5 va xs.length (xs.flatMap insC)) (hb : w.ownsRow mid e 5 vb ys.length (ys.flatMap insC)) (hm : base ≤ mid) (hlt : ∀ q, va.ownBlock = some q → q < mid) :
    Farm w base e 5 insC [(va, xs), (vb, ys)] := by
  refine Farm.snoc (R := [(va, xs)]) (Farm.snoc (R := []) ⟨fun i v z h => by simp at h, fun i j v z u y h => by simp at h⟩ ha (fun i u y q h => by simp at h)) (own_base hb hm) ?_
  intro i u y q hi hq he
  have h1 : u = va := by
    cases i with
    | zero => simp at hi; exact hi.1.symm
    | succ i => simp at hi
  subst h1
  have h2 := hlt q hq
  have h3 := (hb.lt q he).1
  omega
set_option maxRecDepth 100000 in
set_option maxHeartbeats 1000000 in
theorem decodes_w {l : List Int} {v : Value} (w : World) (h : Sl w w.heap.size byteV v l) (hlen : l.length ≤ 140737488351232) (P : List Ins) (E : Value) (no at_ : Int) (hL : P.length ≤ 1000000000) (hG : asK.ErrT w)
    (hD : ∀ W u, Sl W W.heap.size byteV u l → Calls Tryz.prog 22 #[u] W (AnsI W P E))
    (hR : ∀ W u, Sl W W.heap.size byteV u l → Calls Tryz.prog 40 #[u] W (AnsJ W P no at_))
    (hT : ∀ W, asK.ErrT W → Calls Tryz.prog 34 #[E, .int .i64 no, .int .i64 at_] W fun e w' => e = .returned (.bool true) ∧ Below W.heap.size W w') :
    Calls Tryz.prog 17 #[v] w fun e w' => e = .returned (.bool true) ∧ Below w.heap.size w w' := by
  have HS := Lib.hid h
  have HG := Lib.hid hG
  have HD := Lib.hid hD
  have HR := Lib.hid hR
  have HT := Lib.hid hT
  clear h hG hD hR hT
  go_enter Tryz.func17, Tryz.ntmps17
  go_wp2_with fail
  refine (bytesK.lent_any v l _ HS.out hlen).mono ?_
  rintro e w1 ⟨u, rfl, hx, hb⟩
  have HX1 := Lib.hid hx
  have HLX := Lib.hid (lent_lt hx)
  have HB1 := Lib.hid hb
  obtain ⟨gx, cx, hu, -⟩ := hx
  subst hu
  clear hb
  go_wp2_with fail
  refine (HD.out _ _ (sl_of HX1.out)).mono ?_
  rintro e w2 ⟨Aa, ca, rfl, ho, hb⟩
  have HO2 := Lib.hid ho
  have HLa : Hid (∀ q, (Value.slice Aa P.length ca).ownBlock = some q → q < w2.heap.size) := Lib.hid (fun q hq => (ho.lt q hq).2)
  have HX2 := Lib.hid (HX1.out.below hb)
  have HB2 := Lib.hid (HB1.out.trans (hb.mono HB1.out.size))
  have HC2 := Lib.hid hb
  clear ho hb
  go_wp2_with fail
  refine (HD.out _ _ (sl_of HX2.out)).mono ?_
  rintro e w3 ⟨Ab, cb, rfl, ho, hb⟩
  have HO3 := Lib.hid (own_kept HO2.out hb)
  have HU3 := Lib.hid ho
  have HX3 := Lib.hid (HX2.out.below hb)
  have HB3 := Lib.hid (HB2.out.trans (hb.mono HB2.out.size))
  have HC3 := Lib.hid (HC2.out.trans (hb.mono HC2.out.size))
  clear ho hb
  go_wp2_with fail
  refine (HR.out _ _ (HS.out.at_below HB3.out)).mono ?_
  rintro e w4 ⟨Ar, cr, rfl, ho, hb⟩
  have HO4 := Lib.hid (own_kept HO3.out hb)
  have HU4 := Lib.hid (own_kept HU3.out hb)
  have HV4 := Lib.hid ho
  have HX4 := Lib.hid (HX3.out.below hb)
  have HB4 := Lib.hid (HB3.out.trans (hb.mono HB3.out.size))
  have HC4 := Lib.hid (HC3.out.trans (hb.mono HC3.out.size))
  clear ho hb
  go_wp2_with fail
  refine (sameinstrs_any _ (ins_of_own HO4.out) (ins_of_own HV4.out)).mono ?_
  rintro e w5 ⟨rfl, n5, h5⟩
  have hb : Below w4.heap.size w4 w5 := by rw [h5]; exact Go.Bus.below_drewN (Below.refl _ _) _
  clear h5
  have HO5 := Lib.hid (own_kept HO4.out hb)
  have HU5 := Lib.hid (own_kept HU4.out hb)
  have HV5 := Lib.hid (own_kept HV4.out hb)
  have HX5 := Lib.hid (HX4.out.below hb)
  have HB5 := Lib.hid (HB4.out.trans (hb.mono HB4.out.size))
  have HC5 := Lib.hid (HC4.out.trans (hb.mono HC4.out.size))
  clear hb
  go_wp2_with fail
  refine (sameinstrs_any _ (ins_of_own HU5.out) (ins_of_own HV5.out)).mono ?_
  rintro e w6 ⟨rfl, n6, h6⟩
  have hb : Below w5.heap.size w5 w6 := by rw [h6]; exact Go.Bus.below_drewN (Below.refl _ _) _
  clear h6
  have HO6 := Lib.hid (own_kept HO5.out hb)
  have HU6 := Lib.hid (own_kept HU5.out hb)
  have HX6 := Lib.hid (HX5.out.below hb)
  have HB6 := Lib.hid (HB5.out.trans (hb.mono HB5.out.size))
  have HC6 := Lib.hid (HC5.out.trans (hb.mono HC5.out.size))
  clear hb
  go_wp2_with fail
  refine (HT.out _ (HG.out.at_below HB6.out)).mono ?_
  rintro e w7 ⟨rfl, hb⟩
  have HO7 := Lib.hid (own_kept HO6.out hb)
  have HU7 := Lib.hid (own_kept HU6.out hb)
  have HX7 := Lib.hid (HX6.out.below hb)
  have HB7 := Lib.hid (HB6.out.trans (hb.mono HB6.out.size))
  have HC7 := Lib.hid (HC6.out.trans (hb.mono HC6.out.size))
  clear hb
  go_wp2_with fail
  refine (HT.out _ (HG.out.at_below HB7.out)).mono ?_
  rintro e w8 ⟨rfl, hb⟩
  have HO8 := Lib.hid (own_kept HO7.out hb)
  have HU8 := Lib.hid (own_kept HU7.out hb)
  have HX8 := Lib.hid (HX7.out.below hb)
  have HB8 := Lib.hid (HB7.out.trans (hb.mono HB7.out.size))
  have HC8 := Lib.hid (HC7.out.trans (hb.mono HC7.out.size))
  clear hb
  go_wp2_with fail
  refine (apartInstrs.apart_any w8.heap.size w1.heap.size [(.slice Aa P.length ca, P), (.slice Ab P.length cb, P)] _ ?a1 ?a2 ?a3 ?a4 ?a5 ?a6).mono ?_
  case a1 => exact Has.new w8 _ _
  case a2 => exact ifarm2 (own_kept HO8.out ((Below.refl _ _).alloc (Nat.le_refl _) _)) (own_kept HU8.out ((Below.refl _ _).alloc (Nat.le_refl _) _)) HC2.out.size HLa.out
  case a3 => have := HC8.out.size; simp; omega
  case a4 => simp
  case a5 => simp
  case a6 => intro q hq; simp at hq; rcases hq with rfl | rfl <;> exact hL
  rintro e w9 ⟨rfl, hb⟩
  have hb9 : Below w1.heap.size w8 w9 := Below.trans ((Below.refl _ _).alloc HC8.out.size _) hb
  have HX9 := Lib.hid (lent_below HX8.out hb9 HLX.out)
  have HB9 := Lib.hid (HB8.out.trans (hb9.mono HB1.out.size))
  clear hb hb9
  go_wp2_with fail
  refine (bytesK.kept_yes _ _ l _ w.heap.size _ HX9.out (HS.out.below HB9.out) hlen HB9.out.size).mono ?_
  rintro e w10 ⟨rfl, rfl⟩
  go_wp2
  go_ret
  exact ⟨rfl, HB9.out⟩
end codeW
end Go.Proofs.YtbbfpbmogklomaaGreatDoor

namespace Go.Proofs.YtbbfpbmogklomaaGreatDoor
open Go.RowKit Go.Bus Go.Bus.cellK Go.Bus.codeK
set_option linter.unusedVariables false
set_option linter.unusedSimpArgs false
namespace codeW
theorem AnsI.nil_ {W w' : World} {E : Value} (hb : Below W.heap.size W w') : AnsI W [] E (.returned (.tuple #[.slice none 0 0, E])) w' := ⟨none, 0, rfl, World.ownsRow_nil _ _ _ _, hb⟩
/-- The numbers of errors. -/
theorem decGo_no (L : Nat) : ∀ (n : Nat) (l : List Int) (p : List Ins) (no : Int) (k : Nat), l.length ≤ n → (∀ c ∈ l, Byte c) → decGo L l p = .error (no, k) → 1 ≤ no ∧ no ≤ 26 := by
  intro n
  induction n with
  | zero =>
    intro l p no k hl hb h
    obtain rfl := List.eq_nil_of_length_eq_zero (by omega : l.length = 0)
    rw [decGo_nil] at h; cases h
  | succ n ih =>
    intro l p no k hl hb h
    cases l with
    | nil => rw [decGo_nil] at h; cases h
    | cons c r =>
      rw [dec_one] at h
      split at h
      · cases h; exact ⟨by decide, by decide⟩
      · split at h
        · rename_i e he
          cases h
          exact oneR_no he
        · rename_i r' x he
          obtain ⟨m, hm⟩ := oneR_suffix (fun d hd => hb d (List.mem_cons_of_mem _ hd)) he
          have hrl : r'.length ≤ r.length := by rw [hm, List.length_append]; omega
          rw [if_pos hrl] at h
          exact ih r' _ no k (by simp at hl; omega) (fun d hd => hb d (List.mem_cons_of_mem _ (by rw [hm]; exact List.mem_append_right _ hd))) h
theorem decodes_any {l : List Int} {v : Value} (w : World) (h : Sl w w.heap.size byteV v l) (hby : ∀ c ∈ l, Byte c) (hlen : l.length ≤ 140737488351232) (hG : asK.ErrT w) : Calls Tryz.prog 17 #[v] w fun e w' => e = .returned (.bool true) ∧ Below w.heap.size w w' := by
  cases hd : decGo l.length l [] with
  | error z =>
    obtain ⟨no, k⟩ := z
    obtain ⟨h1, h2⟩ := decGo_no _ _ l [] no k (Nat.le_refl _) hby hd
    exact decodes_w w h hlen [] (faultV no k) no k (by simp) hG
      (fun W u hs => (decode_any W hs hby).mono fun e w' h => by unfold DecPost at h; rw [hd] at h; obtain ⟨h1, h2⟩ := h; rw [h1]; exact AnsI.nil_ h2)
      (fun W u hs => (rdecode_any W hs hby hlen).mono fun e w' h => by unfold RDecPost at h; rw [hd] at h; exact h)
      (fun W hg => told_at no k h1 h2 W hg)
  | ok p =>
    obtain ⟨_, _, _, _, hpl⟩ := dec_only _ _ l [] p (Nat.le_refl _) hby (by simp) hd
    exact decodes_w w h hlen p .nilIface 0 (-1) (by omega) hG
      (fun W u hs => (decode_any W hs hby).mono fun e w' h => by unfold DecPost at h; rw [hd] at h; obtain ⟨u, h1, h2, h3⟩ := h; obtain ⟨A, c, rfl⟩ := own_slice h2; exact ⟨A, c, h1, h2, h3⟩)
      (fun W u hs => (rdecode_any W hs hby hlen).mono fun e w' h => by unfold RDecPost at h; rw [hd] at h; exact h)
      (fun W hg => told_nil W)
end codeW
end Go.Proofs.YtbbfpbmogklomaaGreatDoor
