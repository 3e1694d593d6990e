/- busbarkit.apartSignals: lists of lines of the call's own that lie apart are found so. Conditions: at most 10^6 lists, none longer than 10^9. -/
import Derived.Test.YtdibfkcddcjiiaaFarmC
import Derived.Test.YtdibfkcddcjiiaaProg
import Derived.RegionTactic
import Derived.Deep.RegionWith
import Derived.Deep.QuietTactic
import Derived.BigQuiet
import Derived.Maps.AppendAt
import Derived.ArgAppend
import Derived.Deep.MidRow
import Derived.Outline
namespace Go.Proofs.Ytdibfkcddcjiiaa
open Go.RowKit Go.Bus Go.Bus.cellK Go.Bus.farmC
open Go.Bus.apartG (Pair P1 S0 at_k set_k set_same p1_step fill_set fill_len)
open Go.Bus.farmK (own_ne_own)
set_option linter.unusedVariables false
set_option linter.unusedSimpArgs false
theorem Try.infoRowSgnl : (Try.prog.info? 60).map (fun i => (i.zero, i.size, i.bytes)) = some (some (.slice none 0 0), 1, 24) := by kernel_rfl
theorem Try.infoSgnlm : (Try.prog.info? 119).map (fun i => (i.zero, i.size, i.bytes)) = some (some (.agg #[.int .i64 0, .int .i64 0, .string ⟨#[]⟩, .int .i64 0, .int .u64 0, .int .i64 0, .int .i64 0, .bool false, .bool false, .int .i64 0, .int .i64 0, .int .i64 0, .int .i64 0, .int .i64 0, .int .i64 0, .int .i64 0, .int .i64 0, .string ⟨#[]⟩, .slice none 0 0]), 19, 176) := by kernel_rfl
namespace apartSg
structure L5 where
  line : Int
  col : Int
  name : ByteArray
  role : Int
  branch : Int
  start : Int
  size : Int
  mot : Bool
  sgn : Bool
  sn : Int
  sd : Int
  on : Int
  od : Int
  mn : Int
  md : Int
  xn : Int
  xd : Int
  unit : ByteArray
  A : Option Addr
  n : Nat
  c : Nat
def lC (x : L5) : List Value := [.int .i64 x.line, .int .i64 x.col, .string x.name, .int .i64 x.role, .int .u64 x.branch, .int .i64 x.start, .int .i64 x.size, .bool x.mot, .bool x.sgn, .int .i64 x.sn, .int .i64 x.sd, .int .i64 x.on, .int .i64 x.od, .int .i64 x.mn, .int .i64 x.md, .int .i64 x.xn, .int .i64 x.xd, .string x.unit, .slice x.A x.n x.c]
abbrev Row := Value × List L5
/-- Blocks of all types but two stay as they are. -/
def KT (w wr : World) : Prop := ∀ (g : Nat) (t : TypeId) (cs : Array Value), t ≠ 119 → t ≠ 60 → Has w g t cs → Has wr g t cs
theorem KT.refl (w : World) : KT w w := fun _ _ _ _ _ h => h
theorem KT.below {w wr W : World} (h : KT w wr) (hb : Below wr.heap.size wr W) : KT w W := fun g t cs h1 h2 hg => (h g t cs h1 h2 hg).below hb (h g t cs h1 h2 hg).lt
theorem KT.many {w wr w1 : World} {base n s g : Nat} {v : Value} {xs : List Value} (h : KT w wr) (hg : wr.grownBy w1 (some g)) (ho : wr.ownsRow base 119 s v n xs) (hv : v.ownBlock = some g) : KT w w1 :=
  fun g' t cs h1 h2 hh => (h g' t cs h1 h2 hh).grown hg (fun e => own_has_ne ho (h g' t cs h1 h2 hh) (Ne.symm h1) (by rw [hv, e]))
theorem KT.grown {w wr w1 : World} {base n s : Nat} {e : TypeId} {v : Value} {xs : List Value} (h : KT w wr) (o : Obj) (hg : (wr.alloc o).grownBy w1 v.ownBlock) (ho : wr.ownsRow base e s v n xs) (he : e = 119 ∨ e = 60) : KT w w1 :=
  fun g' t cs h1 h2 hh => ((h g' t cs h1 h2 hh).alloc o).grown hg (fun e' => own_has_ne ho (h g' t cs h1 h2 hh) (by rcases he with rfl | rfl; exact Ne.symm h1; exact Ne.symm h2) e'.symm)
theorem KT.grown0 {w wr w1 : World} (h : KT w wr) (o : Obj) {row : Option Nat} (hr : row = none) (hg : (wr.alloc o).grownBy w1 row) : KT w w1 :=
  fun g' t cs h1 h2 hh => ((h g' t cs h1 h2 hh).alloc o).grown hg (by rw [hr]; simp)
def mkI (k i : Nat) : L5 := ⟨0, 0, ⟨#[]⟩, 0, 0, -1000000 * ((k : Int) + 1) - (i : Int), 0, false, false, 0, 0, 0, 0, 0, 0, 0, 0, ⟨#[]⟩, none, 0, 0⟩
def M (k n : Nat) : List L5 := (List.range n).map (mkI k)
theorem M_len (k n : Nat) : (M k n).length = n := by simp [M]
theorem M_snoc (k n : Nat) : M k n ++ [mkI k n] = M k (n + 1) := by simp [M, List.range_succ]
theorem M_take {k n m : Nat} (h : n ≤ m) : (M k m).take n = M k n := by
  unfold M; rw [← List.map_take, List.take_range, Nat.min_eq_left h]
theorem M_get {k n i : Nat} (h : i < n) : (M k n)[i]'(by rw [M_len]; exact h) = mkI k i := by simp [M]
def E (k : Nat) (X : List L5) : List L5 := M k (X.length + 64)
theorem insC_len (x : L5) : (lC x).length = 19 := rfl
theorem setCells_putC : ∀ (l : List Value) (w : World) (b o : Nat), w.setCells b o l = putC w b o l := by
  intro l
  induction l with
  | nil => intro w b o; rfl
  | cons u us ih => intro w b o; exact ih _ _ _
theorem keepc {w W : World} {B : Nat} (hb : Below B w W) {b o : Nat} {v : Value} (hB : b < B) (h : w.cell? ⟨b, o, none⟩ = some v) : W.cell? ⟨b, o, none⟩ = some v := (hb.cell (p := ⟨b, o, none⟩) hB).trans h
theorem own_cap5 {w : World} {base : Nat} {e : TypeId} {A : Option Addr} {n c : Nat} {xs : List Value} (h : w.ownsRow base e 19 (.slice A n c) n xs) : n ≤ c ∧ c ≤ 9223372036854775807 := by
  rcases h.2 with ⟨h0, h1⟩ | ⟨g, cap, cur, hv, _, _, h1, h2, _⟩
  · simp only [Value.slice.injEq] at h0
    obtain ⟨_, rfl, rfl⟩ := h0
    omega
  · simp only [Value.slice.injEq] at hv
    obtain ⟨_, _, rfl⟩ := hv
    exact ⟨h1, by unfold maxLen at h2; omega⟩
set_option maxRecDepth 100000 in
set_option maxHeartbeats 6000000 in
theorem apart_any (q base cap : Nat) (cs : Array Value) (rows : List Row) (w : World) (hq : Has w q 60 cs) (hcs : ∀ (j : Nat) (p : Row), rows[j]? = some p → cs[j]? = some p.1) (hcap : rows.length ≤ cap) (hF : Farm w base 119 19 lC rows) (hbase : base ≤ w.heap.size) (hN : rows.length ≤ 100000000) (hN0 : 0 < rows.length) (hlen : ∀ p ∈ rows, p.2.length ≤ 1000000000) :
    Calls Try.prog 41 #[.slice (some ⟨q, 0, none⟩) rows.length cap] w fun e w' => e = .returned (.bool true) ∧ Below base w w' ∧ KT w w' := by
  obtain ⟨i0, hi, hz0, hz1, hz2⟩ := info_parts Try.infoSgnlm
  obtain ⟨i1, hj, hy0, hy1, hy2⟩ := info_parts Try.infoRowSgnl
  have hi1 : (Try.prog.info? 119).map (·.size) = some 19 := by kernel_rfl
  have HI1 := Lib.hid hi1
  clear hi1
  have hqlt := hq.lt
  have HQ := Lib.hid (show Has w q 60 cs ∧ KT w w from ⟨hq, KT.refl w⟩)
  have HF := Lib.hid hF
  have HL := Lib.hid hlen
  have hMM : ∀ k n, M k n = (List.range n).map (mkI k) := fun _ _ => rfl
  have HMM := Lib.hid hMM
  have HCS := Lib.hid hcs
  clear hq hF hlen hMM hcs
  go_enter Try.func41, Try.ntmps41
  go_wp2
  go_loopw [3] (fun i wr => ∃ (k : Nat) (R : List Row), i = .int .i64 k ∧ k ≤ rows.length ∧ Hid (S0 M rows R k) ∧ Farm wr base 119 19 lC R ∧ (Has wr q 60 cs ∧ KT w wr) ∧ Below base w wr ∧ w.heap.size ≤ wr.heap.size) (fun i _ => rows.length - (intOf i).toNat)
  case atStart => exact ⟨0, rows, rfl, Nat.zero_le _, Lib.hid ⟨rfl, rfl, fun j p h => absurd h (by omega)⟩, HF.out, HQ.out, Below.refl _ _, Nat.le_refl _⟩
  case round =>
    clear HF
    obtain ⟨k, R, rfl, hk, HS, hFm, hqr, hbel, hsz⟩ := hrel
    have HFm := Lib.hid hFm; clear hFm
    have HQR := Lib.hid hqr; clear hqr
    have HB := Lib.hid hbel; clear hbel
    have hRl : R.length = rows.length := by have := congrArg List.length HS.out.heads; simpa using this
    by_cases hlt : k < rows.length
    · obtain ⟨⟨V, X⟩, hr⟩ : ∃ p, rows[k]? = some p := ⟨_, List.getElem?_eq_getElem hlt⟩
      have hX : X.length ≤ 1000000000 := HL.out (V, X) (List.mem_of_getElem? hr)
      obtain ⟨Y, hRk, hYl⟩ := HS.out.at_ hr
      simp only at hYl
      obtain ⟨A, c, rfl, hc1, hc2, hA⟩ := HFm.out.form hRk
      have hkR : k < R.length := by omega
      have hqk : ∀ W : World, Has W q 60 cs → W.cell? ⟨q, k, none⟩ = some (.slice A Y.length c) := fun W h => by rw [h.cell k]; exact HCS.out k _ hr
      have HQK := Lib.hid hqk
      have HRk := Lib.hid hRk
      have HA := Lib.hid hA
      have hY : Y.length ≤ 1000000000 := by omega
      have hqc := hqk _ HQR.out.1
      clear hqk hRk hr hYl hA
      go_wp2
      clear hqc
      go_loopw [4] (fun i wr => ∃ t : Nat, i = .int .i64 t ∧ t ≤ Y.length ∧ Farm wr base 119 19 lC (R.set k (.slice A Y.length c, M k t ++ Y.drop t)) ∧ (Has wr q 60 cs ∧ KT w wr) ∧ Below base w wr ∧ w.heap.size ≤ wr.heap.size) (fun i _ => Y.length - (intOf i).toNat)
      case atStart => exact ⟨0, rfl, Nat.zero_le _, by rw [show M k 0 ++ Y.drop 0 = Y by simp [M], set_same HRk.out]; exact HFm.out, HQR.out, HB.out, hsz⟩
      case round =>
        clear HFm HQR HB hsz
        obtain ⟨t, rfl, ht, hFr, hqr, hbel, hsz⟩ := hrel
        have hqc := HQK.out _ hqr.1
        by_cases htl : t < Y.length
        · obtain ⟨g, rfl⟩ := HA.out (by omega)
          have hlen2 : (M k t ++ Y.drop t).length = Y.length := fill_len (HMM.out k) (by omega)
          have hgk : (R.set k (.slice (some ⟨g, 0, none⟩) Y.length c, M k t ++ Y.drop t))[k]? = some (.slice (some ⟨g, 0, none⟩) Y.length c, M k t ++ Y.drop t) := List.getElem?_set_self hkR
          have htl2 : t < (M k t ++ Y.drop t).length := by omega
          have hown := hFr.own k _ _ hgk
          have hcl : ∀ (W : World), Farm W base 119 19 lC (R.set k (.slice (some ⟨g, 0, none⟩) Y.length c, M k t ++ Y.drop t)) → ∀ j u, (lC ((M k t ++ Y.drop t)[t]'htl2))[j]? = some u → W.cell? ⟨g, t * 19 + j, none⟩ = some u ∧ W.frozen? ⟨g, t * 19 + j, none⟩ = false := fun W hW j u hj => hW.cell insC_len hgk hlen2 htl2 hj
          have hst : ∀ (W : World), Below wr.heap.size wr W → Farm (putC W g (t * 19) (lC (mkI k t))) base 119 19 lC (R.set k (.slice (some ⟨g, 0, none⟩) Y.length c, M k (t + 1) ++ Y.drop (t + 1))) ∧ (Has (putC W g (t * 19) (lC (mkI k t))) q 60 cs ∧ KT w (putC W g (t * 19) (lC (mkI k t)))) ∧ Below base w (putC W g (t * 19) (lC (mkI k t))) ∧ w.heap.size ≤ (putC W g (t * 19) (lC (mkI k t))).heap.size := by
            intro W hW
            have hFW := hFr.below hW
            have hFn := hFW.set (t := t) hgk hlen2 insC_len htl2 (mkI k t)
            rw [List.set_set, fill_set (HMM.out k) htl] at hFn
            have hownW := hFW.own k _ _ hgk
            rw [hlen2] at hownW
            have hsm := (stored_many (lC (mkI k t)) W (t * 19) _ hownW).2
            have hne : q ≠ g := fun e => own_has_ne hownW (hqr.1.below hW hqr.1.lt) (by decide) (by rw [e]; rfl)
            refine ⟨hFn, ⟨(hqr.1.below hW hqr.1.lt).grown hsm (fun e => hne (by injection e)), (hqr.2.below hW).many hsm hownW rfl⟩, Below.grown (hbel.trans (hW.mono (Nat.le_trans hbase hbel.size))) hsm (Nat.le_trans (Nat.le_trans hbase hbel.size) hW.size) (fun r hr => by cases hr; exact (hownW.lt g rfl).1), Nat.le_trans hsz (Nat.le_trans hW.size hsm.size)⟩
          have HST := Lib.hid hst
          have zg : g < wr.heap.size := (hown.lt g (by rfl)).2
          have zq : q < wr.heap.size := hqr.1.lt
          have hth : wr.there g (t * 19) 19 := fun j hj => by
            have h1 : (lC ((M k t ++ Y.drop t)[t]'htl2)).length = 19 := insC_len _
            obtain ⟨h2, h3⟩ := hcl wr hFr j _ (List.getElem?_eq_getElem (by rw [h1]; exact hj))
            exact ⟨by rw [h2]; rfl, h3⟩
          have HTH := Lib.hid hth
          clear hst hcl hown hFr hqr hbel hgk hlen2 htl2 hth
          go_wp2_with (refine wpList_store_mid rfl 119 _ _ rfl g (t * 19) (lC (mkI k t)).toArray (by rfl) (by rfl) (by exact HTH.out) (by exact HI1.out) (all_oneCell_toArray (by intro u hu; simp only [lC, List.mem_cons, List.not_mem_nil, or_false] at hu; rcases hu with rfl | rfl | rfl | rfl | rfl | rfl | rfl | rfl | rfl | rfl | rfl | rfl | rfl | rfl | rfl | rfl | rfl | rfl | rfl <;> rfl)) ?_; rw [setCells_putC])
          go_roundw
          case rel => exact ⟨t + 1, by go_num, by omega, (HST.out _ (Below.refl _ _)).1, (HST.out _ (Below.refl _ _)).2.1, (HST.out _ (Below.refl _ _)).2.2.1, (HST.out _ (Below.refl _ _)).2.2.2⟩
          case measure => first | (simp [intOf]; done) | (simp [intOf]; omega)
        · obtain rfl : t = Y.length := by omega
          rw [List.drop_of_length_le (Nat.le_refl _), List.append_nil] at hFr
          have HS1 := Lib.hid (HS.out.next HRk.out (M_len k _))
          have HFr := Lib.hid hFr
          have HQr := Lib.hid hqr
          have HBr := Lib.hid hbel
          clear hFr hqr hbel HS
          go_wp2
          go_roundw
          case rel => exact ⟨k + 1, _, by go_num, by omega, HS1, HFr.out, HQr.out, HBr.out, hsz⟩
          case measure => first | (simp [intOf]; done) | (simp [intOf]; omega)
    · obtain rfl : k = rows.length := by omega
      have hcont : ∀ (j : Nat) (p : Row), R[j]? = some p → p.2 = M j p.2.length := fun j p hp => HS.out.done j p (by have := (List.getElem?_eq_some_iff.1 hp).1; omega) hp
      have hbd : ∀ p ∈ R, p.2.length ≤ 1000000000 := by
        intro p hp
        obtain ⟨j, hj⟩ := List.mem_iff_getElem?.1 hp
        have hjl := (List.getElem?_eq_some_iff.1 hj).1
        obtain ⟨p2, hr2⟩ : ∃ p2, rows[j]? = some p2 := ⟨_, List.getElem?_eq_getElem (by omega)⟩
        obtain ⟨z, hz, hzl⟩ := HS.out.at_ hr2
        have := HL.out p2 (List.mem_of_getElem? hr2)
        rw [hj] at hz
        have := Option.some.inj hz
        rw [this]; simp only; omega
      have hhd : R.map (·.1) = rows.map (·.1) := HS.out.heads
      have hq2 : Has wr q 60 cs ∧ KT w wr := HQR.out
      have HCSR := Lib.hid (fun (j : Nat) (p : Row) (hp : R[j]? = some p) => show cs[j]? = some p.1 from by
        have h1 : (R.map (·.1))[j]? = some p.1 := by rw [List.getElem?_map, hp]; rfl
        rw [hhd, List.getElem?_map] at h1
        cases hj2 : rows[j]? with
        | none => rw [hj2] at h1; cases h1
        | some p2 => rw [hj2] at h1; have h3 := HCS.out j p2 hj2; simp only [Option.map_some, Option.some.injEq] at h1; rw [h3, h1])
      have HQR2 := Lib.hid hq2
      have HCO := Lib.hid hcont
      have HBD := Lib.hid hbd
      have hR1 : R.length ≤ rows.length := Nat.le_of_eq hRl
      have hR2 : rows.length ≤ R.length := Nat.le_of_eq hRl.symm
      clear hcont hbd hhd hq2 HQR HL HS hlt hk hRl
      go_wp2
      go_loopw [5, 6] (fun gsv' i wr => ∃ (gsv : Value) (k : Nat) (F D : List Row), gsv = gsv' ∧ i = .int .i64 k ∧ k ≤ rows.length ∧ Hid (P1 E R F D k) ∧ Farm wr base 119 19 lC (F ++ D) ∧ wr.ownsRow w.heap.size 60 1 gsv k ((F.take k).map (·.1)) ∧ (Has wr q 60 cs ∧ KT w wr) ∧ Below base w wr ∧ w.heap.size ≤ wr.heap.size) (fun _ i _ => rows.length - (intOf i).toNat)
      case atStart => exact ⟨_, 0, R, [], rfl, rfl, Nat.zero_le _, Lib.hid ⟨rfl, rfl, fun i p h => absurd h (by omega), fun i _ => rfl⟩, by simpa using HFm.out, World.ownsRow_nil _ _ _ _, HQR2.out, HB.out, hsz⟩
      case round =>
        clear HFm HQR2 HB hsz
        obtain ⟨gsv, k, F, D, rfl, rfl, hk, HP, hFm, hgs, hqr, hbel, hsz⟩ := hrel
        have HFm := Lib.hid hFm; clear hFm
        have HGS := Lib.hid hgs; clear hgs
        have HQR := Lib.hid hqr; clear hqr
        have HB := Lib.hid hbel; clear hbel
        by_cases hlt : k < rows.length
        · have hltR : k < R.length := by omega
          obtain ⟨⟨V, X⟩, hr⟩ : ∃ p, R[k]? = some p := ⟨_, List.getElem?_eq_getElem hltR⟩
          have hX : X.length ≤ 1000000000 := HBD.out (V, X) (List.mem_of_getElem? hr)
          have hXM : X = M k X.length := HCO.out k (V, X) hr
          have hFk : (F ++ D)[k]? = some (V, X) := by
            rw [List.getElem?_append_left (by rw [HP.out.lenF]; exact hltR), HP.out.todo k (Nat.le_refl _)]; exact hr
          obtain ⟨A, c, rfl, hc1, hc2, hA⟩ := HFm.out.form hFk
          have hcv : wr.cell? ⟨q, k, none⟩ = some (.slice A X.length c) := by
            rw [HQR.out.1.cell k]; exact HCSR.out k _ hr
          have HFK := Lib.hid hFk
          have HR := Lib.hid hr
          have HXM := Lib.hid hXM
          clear hFk hr hA hXM
          obtain ⟨wo, rfl⟩ : ∃ wo : World, wo = wr := ⟨_, rfl⟩
          have hkF : k < F.length := by rw [HP.out.lenF]; exact hltR
          have hdl : D.length = k := HP.out.lenD
          have h0 : Farm wo base 119 19 lC (F.set k (.slice A X.length c, M k (X.length + 0)) ++ (D ++ [((Value.slice none 0 0 : Value), ([] : List L5))])) := by
            have e1 : F.set k (.slice A X.length c, M k (X.length + 0)) = F := by
              have hk2 : F[k]? = some (.slice A X.length c, X) := by rw [HP.out.todo k (Nat.le_refl _)]; exact HR.out
              have e2 : M k (X.length + 0) = X := HXM.out.symm
              rw [e2]
              exact set_same hk2
            rw [e1, ← List.append_assoc]
            exact HFm.out.snoc (World.ownsRow_nil _ _ _ _) (fun i u y q _ _ => by simp [Value.ownBlock])
          have H0 := Lib.hid h0; clear h0
          go_wp2
          go_loopw [7, 8] (fun gv' i wr => ∃ (gv : Value) (j : Nat) (d : Row), gv = gv' ∧ i = .int .i64 j ∧ j ≤ 64 ∧ Hid (Pair (.slice A X.length c) X (X.length + j) gv d) ∧ Farm wr base 119 19 lC (F.set k (gv, M k (X.length + j)) ++ (D ++ [d])) ∧
              wr.ownsRow w.heap.size 60 1 gsv k ((F.take k).map (·.1)) ∧ (Has wr q 60 cs ∧ KT w wr) ∧ Below base w wr ∧ w.heap.size ≤ wr.heap.size) (fun _ i _ => 64 - (intOf i).toNat)
          case atStart => exact ⟨_, 0, _, rfl, rfl, Nat.zero_le _, Lib.hid (.inl ⟨rfl, A, c, rfl, rfl⟩), H0.out, HGS.out, HQR.out, HB.out, hsz⟩
          case round =>
            clear H0 hcv
            obtain ⟨gv, j, d, rfl, rfl, hj64, hPr, hFr, hgr, hqr, hbr, hzr⟩ := hrel
            obtain ⟨A1, c1, rfl⟩ : ∃ A1 c1, gv = .slice A1 (X.length + j) c1 := by
              rcases hPr.out with ⟨_, A1, c1, _, h⟩ | ⟨_, _, A1, c1, h⟩ <;> exact ⟨A1, c1, h⟩
            have hZ : (M k (X.length + j)).length = X.length + j := M_len _ _
            have hcv : wr.cell? ⟨q, k, none⟩ = some (.slice A X.length c) := by
              rw [hqr.1.cell k]; exact HCSR.out k _ HR.out
            by_cases hlt2 : j < 64
            · have hown := hFr.own k _ _ (at_k hkF _ _)
              have hrd := own_reads (by rw [hZ] at hown; exact hown)
              obtain ⟨hn1, hn2⟩ := hrd
              have HPr := Lib.hid hPr.out; clear hPr
              have HFr := Lib.hid hFr; clear hFr
              have HGR := Lib.hid hgr; clear hgr
              have HQ2 := Lib.hid hqr; clear hqr
              have HBR := Lib.hid hbr; clear hbr
              have hl1 : (M k (X.length + (j + 1))).length = X.length + j + 1 := M_len _ _
              have hm1 : (M k (X.length + (j + 1))).flatMap lC = (M k (X.length + j)).flatMap lC ++ lC (mkI k (X.length + j)) := by
                rw [show X.length + (j + 1) = (X.length + j) + 1 from rfl, ← M_snoc, List.flatMap_append]; simp
              have HL1 := Lib.hid hl1; clear hl1
              have HM1 := Lib.hid hm1; clear hm1
              have HZ := Lib.hid hZ
              have HN1 := Lib.hid hn1; clear hn1
              rw [hZ] at hown
              have HOW := Lib.hid hown; clear hown hZ
              have hzr' : w.heap.size ≤ wr.heap.size := hzr
              have HNX : Hid ([.int .i64 0, .int .i64 0, .string ⟨#[]⟩, .int .i64 0, .int .u64 0, .int .i64 (-1000000 * ((k : Int) + 1) - ((X.length : Int) + (j : Int))), .int .i64 0, .bool false, .bool false, .int .i64 0, .int .i64 0, .int .i64 0, .int .i64 0, .int .i64 0, .int .i64 0, .int .i64 0, .int .i64 0, .string ⟨#[]⟩, .slice none 0 0] = lC (mkI k (X.length + j))) := Lib.hid (by simp [lC, mkI])
              have hzr9 := hzr
              have HFr9 := HFr
              have HOW9 := HOW
              have HGR9 := HGR
              have HQ9 := HQ2
              have HBR9 := HBR
              clear HFr HOW HGR HQ2 HBR
              by_cases hfit : X.length + j < c1
              · obtain ⟨g, rfl⟩ := hn2 (by omega)
                clear hn2
                go_wp2_with (at_builtin; refine wpList_append_fits _ rfl _ _ 60 rfl base 119 i0 19 Try.underlying60 hi hz1 g (X.length + j) c1 ((M k (X.length + j)).flatMap lC) rfl (HOW9.out.alloc _) ⟨wr.heap.size, 0, none⟩ 1 1 [.int .i64 0, .int .i64 0, .string ⟨#[]⟩, .int .i64 0, .int .u64 0, .int .i64 (-1000000 * ((k : Int) + 1) - ((X.length : Int) + (j : Int))), .int .i64 0, .bool false, .bool false, .int .i64 0, .int .i64 0, .int .i64 0, .int .i64 0, .int .i64 0, .int .i64 0, .int .i64 0, .int .i64 0, .string ⟨#[]⟩, .slice none 0 0] rfl rfl ?c1 ?c2 ?c3 ?_)
                case c1 => exact Go.Bus.lentC.news_new2 wr _ _
                case c2 => intro u hu; simp only [List.mem_cons, List.not_mem_nil, or_false] at hu; rcases hu with rfl | rfl | rfl | rfl | rfl | rfl | rfl | rfl | rfl | rfl | rfl | rfl | rfl | rfl | rfl | rfl | rfl | rfl | rfl <;> rfl
                case c3 => omega
                intro w1 hown1 hg1
                rw [HNX.out] at hown1
                have hPn : Pair (.slice A X.length c) X (X.length + (j + 1)) (.slice (some ⟨g, 0, none⟩) (X.length + j + 1) c1) d := by
                  rcases HPr.out with ⟨hd, A0, c0, hV1, hV2⟩ | ⟨hd1, hd2, _⟩
                  · simp only [Value.slice.injEq] at hV2
                    obtain ⟨rfl, _, rfl⟩ := hV2
                    exact .inl ⟨hd, _, _, hV1, rfl⟩
                  · exact .inr ⟨hd1, hd2, _, _, rfl⟩
                have hFn := fit_step (v1 := .slice (some ⟨g, 0, none⟩) (X.length + j + 1) c1) (Z1 := M k (X.length + (j + 1))) hkF HFr9.out (by rw [HL1.out, HM1.out]; exact hown1) hg1 rfl
                have hgn : w1.ownsRow w.heap.size 60 1 gsv k ((F.take k).map (·.1)) := (HGR9.out.alloc _).kept hg1 (.inr (own_ne_own HOW9.out HGR9.out (by decide) g rfl))
                have hqn : Has w1 q 60 cs ∧ KT w w1 := ⟨(HQ9.out.1.alloc _).grown hg1 (fun e => own_has_ne HOW9.out HQ9.out.1 (by decide) e.symm), HQ9.out.2.grown _ hg1 HOW9.out (.inl rfl)⟩
                have hbn : Below base w w1 := Below.grown (HBR9.out.alloc (by omega) _) hg1 (by simp; omega) (fun r hr => by cases hr; exact (HOW9.out.lt g rfl).1)
                have hzn : w.heap.size ≤ w1.heap.size := Nat.le_trans (by simp; omega) hg1.size
                have HPn := Lib.hid hPn
                have HFn := Lib.hid hFn
                have HGn := Lib.hid hgn
                have HQn := Lib.hid hqn
                have HBn := Lib.hid hbn
                clear hPn hFn hgn hqn hbn hown1 hg1
                go_wp2
                go_roundw
                case rel => exact ⟨_, j + 1, d, rfl, by go_num, by omega, HPn, HFn.out, HGn.out, HQn.out, HBn.out, hzn⟩
                case measure => first | (simp [intOf]; done) | (simp [intOf]; omega)
              · have hce : c1 = X.length + j := by
                  have := (own_cap5 HOW9.out).1
                  omega
                subst hce
                clear hn2 hfit
                go_wp2_with (at_builtin; refine wpList_append_grows _ rfl _ _ 60 rfl 119 i0 (.agg #[.int .i64 0, .int .i64 0, .string ⟨#[]⟩, .int .i64 0, .int .u64 0, .int .i64 0, .int .i64 0, .bool false, .bool false, .int .i64 0, .int .i64 0, .int .i64 0, .int .i64 0, .int .i64 0, .int .i64 0, .int .i64 0, .int .i64 0, .string ⟨#[]⟩, .slice none 0 0]) 19 176 Try.underlying60 hi hz0 hz1 hz2 rfl (by decide) A1 (X.length + j) (X.length + j) ((M k (X.length + j)).flatMap lC) rfl ?d1 ?d2 ?d3 ⟨wr.heap.size, 0, none⟩ 1 1 [.int .i64 0, .int .i64 0, .string ⟨#[]⟩, .int .i64 0, .int .u64 0, .int .i64 (-1000000 * ((k : Int) + 1) - ((X.length : Int) + (j : Int))), .int .i64 0, .bool false, .bool false, .int .i64 0, .int .i64 0, .int .i64 0, .int .i64 0, .int .i64 0, .int .i64 0, .int .i64 0, .int .i64 0, .string ⟨#[]⟩, .slice none 0 0] rfl rfl ?d4 ?d5 ?d6 ?d7 ?d8 ?_)
                case d1 => exact (own_reads HOW9.out).1
                case d2 => have := HOW9.out.1; omega
                case d3 => exact own_cells (HOW9.out.alloc _)
                case d4 => exact Go.Bus.lentC.news_new2 wr _ _
                case d5 => intro u hu; simp only [List.mem_cons, List.not_mem_nil, or_false] at hu; rcases hu with rfl | rfl | rfl | rfl | rfl | rfl | rfl | rfl | rfl | rfl | rfl | rfl | rfl | rfl | rfl | rfl | rfl | rfl | rfl <;> rfl
                case d6 => omega
                case d7 => unfold maxLen; omega
                case d8 => omega
                intro v1 w1 hown1 hg1
                rw [HNX.out] at hown1
                obtain ⟨g2, c2, rfl, hg21, hg22⟩ := own_form hown1 (by omega)
                obtain ⟨d1, hPn, hFn⟩ := grow_step (A := A1) (c := X.length + j) (Z1 := M k (X.length + (j + 1))) (X := X) insC_len hkF ((M_take (Nat.le_add_right _ _)).trans HXM.out.symm) (by rw [HZ.out]; omega) HZ.out rfl HPr.out HFr9.out (by rw [HL1.out, HM1.out]; exact own_base hown1 (by simp)) (Nat.le_trans hbase hzr9) hg1 ⟨_, _, rfl⟩
                have hgn : w1.ownsRow w.heap.size 60 1 gsv k ((F.take k).map (·.1)) := (HGR9.out.alloc _).kept hg1 (by cases gsv.ownBlock with | none => exact .inl rfl | some r => exact .inr (by simp))
                have hqn : Has w1 q 60 cs ∧ KT w w1 := ⟨(HQ9.out.1.alloc _).grown hg1 (by simp), HQ9.out.2.grown0 _ (by simp) hg1⟩
                have hbn : Below base w w1 := Below.grown (HBR9.out.alloc (by omega) _) hg1 (by simp; omega) (fun r hr => by cases hr)
                have hzn : w.heap.size ≤ w1.heap.size := Nat.le_trans (by simp; omega) hg1.size
                have HPn := Lib.hid hPn
                have HFn := Lib.hid hFn
                have HGn := Lib.hid hgn
                have HQn := Lib.hid hqn
                have HBn := Lib.hid hbn
                clear hPn hFn hgn hqn hbn hown1 hg1
                go_wp2
                go_roundw
                case rel => exact ⟨_, j + 1, d1, rfl, by go_num, by omega, HPn, HFn.out, HGn.out, HQn.out, HBn.out, hzn⟩
                case measure => first | (simp [intOf]; done) | (simp [intOf]; omega)
            · obtain rfl : j = 64 := by omega
              obtain ⟨hPn, hTn⟩ := p1_step HP.out hltR HR.out (show Pair _ X (E k X).length _ d by unfold E; rw [M_len]; exact hPr.out)
              have HPn := Lib.hid hPn
              have HTn := Lib.hid hTn
              have HFr := Lib.hid hFr; clear hFr hPr hPn hTn
              have HGR := Lib.hid hgr; clear hgr
              have HQ2 := Lib.hid hqr; clear hqr
              have HBR := Lib.hid hbr; clear hbr hZ hcv
              go_wp2_with (at_builtin; refine wpList_append_own _ rfl _ _ 48 rfl w.heap.size 60 i1 (.slice none 0 0) 1 24 Try.underlying48 hj hy0 hy1 hy2 rfl (by decide) _ _ _ rfl (HGR.out.alloc _) ⟨wr.heap.size, 0, none⟩ 1 1 [.slice A1 (X.length + 64) c1] rfl rfl (one_new wr _ _) ?e2 ?e3 ?e4 ?e5 ?_)
              case e2 => first | rfl | (intro u hu; simp at hu; subst hu; rfl)
              case e3 => unfold maxLen; omega
              case e4 => omega
              case e5 => first | omega | (simp; omega)
              intro v1 w1 hown1 hg1 _
              have hFa : Farm (wr.alloc (.cells #[.slice A1 (X.length + 64) c1] 60)) base 119 19 lC (F.set k (.slice A1 (X.length + 64) c1, M k (X.length + 64)) ++ (D ++ [d])) := HFr.out.below ((Below.refl _ _).alloc (Nat.le_refl _) _)
              have hFn := hFa.kept hg1 (fun i v z hiv => by
                cases hvb : v.ownBlock with
                | none => exact .inl rfl
                | some r => exact .inr fun he => own_ne_own (hFa.own i v z hiv) (HGR.out.alloc _) (by decide) r hvb he.symm)
              have hqn : Has w1 q 60 cs ∧ KT w w1 := ⟨(HQ2.out.1.alloc _).grown hg1 (fun e => by have h1 := (HGR.out.lt q e.symm).1; omega), HQ2.out.2.grown _ hg1 HGR.out (.inr rfl)⟩
              have hbn : Below base w w1 := Below.grown (HBR.out.alloc (by omega) _) hg1 (by simp; omega) (fun r hr => by have h1 := (HGR.out.lt r hr).1; omega)
              have hzn : w.heap.size ≤ w1.heap.size := Nat.le_trans (by simp; omega) hg1.size
              have HG1 : Hid (w1.ownsRow w.heap.size 60 1 v1 (k + 1) (((F.set k (.slice A1 (X.length + 64) c1, E k X)).take (k + 1)).map (·.1))) := by
                unfold Hid; rw [HTn.out, List.map_take]; exact hown1
              have HFn := Lib.hid hFn
              have HQn := Lib.hid hqn
              have HBn := Lib.hid hbn
              clear hFa hFn hqn hbn hown1 hg1
              go_wp2
              go_roundw
              case rel => exact ⟨_, k + 1, _, _, rfl, by go_num, by omega, HPn, HFn.out, HG1.out, HQn.out, HBn.out, hzn⟩
              case measure => first | (simp [intOf]; done) | (simp [intOf]; omega)
        · obtain rfl : k = rows.length := by omega
          have hFl : F.length = rows.length := by rw [HP.out.lenF]; omega
          have hgs2 : wr.ownsRow w.heap.size 60 1 gsv rows.length (F.map (·.1)) := by have := HGS.out; rw [List.take_of_length_le (by omega)] at this; exact this
          obtain ⟨gg, cg, rfl, hcg1, hcg2⟩ := own_form hgs2 hN0
          have HGS2 := Lib.hid hgs2; clear hgs2 HGS
          obtain ⟨wo, rfl⟩ : ∃ wo : World, wo = wr := ⟨_, rfl⟩
          have hrow : ∀ k, k < rows.length → ∃ (n g c c0 : Nat) (A0 : Option Addr), n ≤ 1000000000 ∧ wo.cell? ⟨gg, k, none⟩ = some (.slice (some ⟨g, 0, none⟩) (n + 64) c) ∧ wo.cell? ⟨q, k, none⟩ = some (.slice A0 n c0) ∧ n ≤ c0 ∧ c0 ≤ 9223372036854775807 ∧ g < wo.heap.size ∧
              (∀ i, i < n + 64 → ∀ j u, (lC (mkI k i))[j]? = some u → wo.cell? ⟨g, i * 19 + j, none⟩ = some u) ∧ (∀ i, i < n → ∃ b, A0 = some ⟨b, 0, none⟩ ∧ b < wo.heap.size ∧ ∀ j u, (lC (mkI k i))[j]? = some u → wo.cell? ⟨b, i * 19 + j, none⟩ = some u) := by
            intro k hk
            have hkR : k < R.length := by omega
            obtain ⟨⟨V, X⟩, hr⟩ : ∃ p, R[k]? = some p := ⟨_, List.getElem?_eq_getElem hkR⟩
            have hX : X.length ≤ 1000000000 := HBD.out (V, X) (List.mem_of_getElem? hr)
            have hXM : X = M k X.length := HCO.out k (V, X) hr
            obtain ⟨G, d, hFj, hDj, hPj⟩ := HP.out.done k (V, X) hk hr
            have hFD : (F ++ D)[k]? = some (G, M k (X.length + 64)) := by rw [List.getElem?_append_left (by omega)]; exact hFj
            obtain ⟨A, c, rfl, hc1, hc2, hA⟩ := HFm.out.form hFD
            rw [M_len] at hc1 hA
            obtain ⟨g, rfl⟩ := hA (by omega)
            have zg : g < wo.heap.size := ((HFm.out.own k _ _ hFD).lt g rfl).2
            have hcellG : ∀ i, i < X.length + 64 → ∀ j u, (lC (mkI k i))[j]? = some u → wo.cell? ⟨g, i * 19 + j, none⟩ = some u := by
              intro i hi j u hj
              exact (HFm.out.cell insC_len (t := i) hFD rfl (by rw [M_len]; exact hi) (by rw [M_get hi]; exact hj)).1
            have hhdG : wo.cell? ⟨gg, k, none⟩ = some (.slice (some ⟨g, 0, none⟩) (X.length + 64) c) := by
              rw [HGS2.out.cellAt k (by omega), List.getElem?_map, hFj, M_len]; rfl
            have hhdV : wo.cell? ⟨q, k, none⟩ = some V := by rw [HQR.out.1.cell k]; exact HCSR.out k _ hr
            rcases hPj with ⟨_, A0, c0, hV1, hG1⟩ | ⟨hd1, hd2, _⟩
            · simp only [Value.slice.injEq] at hG1
              obtain ⟨rfl, _, rfl⟩ := hG1
              simp only at hV1
              refine ⟨X.length, g, _, _, _, hX, hhdG, by rw [hhdV, hV1], by omega, by omega, zg, hcellG, fun i hi => ⟨g, rfl, zg, hcellG i (by omega)⟩⟩
            · simp only at hd1 hd2
              have hDk : (F ++ D)[F.length + k]? = some (V, X) := by
                rw [List.getElem?_append_right (by omega), Nat.add_sub_cancel_left, hDj, ← hd1, ← hd2]
              obtain ⟨A0, c0, hV1, h1, h2, h4⟩ := HFm.out.form hDk
              refine ⟨X.length, g, c, c0, A0, hX, hhdG, by rw [hhdV, hV1], h1, h2, zg, hcellG, fun i hi => ?_⟩
              obtain ⟨b, rfl⟩ := h4 (by omega)
              subst hV1
              refine ⟨b, rfl, ((HFm.out.own _ _ _ hDk).lt b rfl).2, fun j u hj => ?_⟩
              have h6 : X[i] = mkI k i := by
                have h7 : X[i]? = (M k X.length)[i]? := by rw [← hXM]
                rw [List.getElem?_eq_getElem hi, List.getElem?_eq_getElem (by rw [M_len]; exact hi)] at h7
                rw [Option.some.inj h7, M_get hi]
              exact (HFm.out.cell insC_len (t := i) hDk rfl hi (by rw [h6]; exact hj)).1
          have HROW := Lib.hid hrow
          have zgg : gg < wo.heap.size := (HGS2.out.lt gg rfl).2
          have zq : q < wo.heap.size := HQR.out.1.lt
          have hzo : base ≤ wo.heap.size := HB.out.size |> fun h => Nat.le_trans hbase hsz
          have HKT := Lib.hid HQR.out.2
          clear hrow hFl HP HFm HGS2 HQR HCO HBD
          go_wp2
          go_loopw [10] (fun i wr => ∃ k : Nat, i = .int .i64 k ∧ k ≤ rows.length ∧ Hid (Below wo.heap.size wo wr)) (fun i _ => rows.length - (intOf i).toNat)
          case atStart => exact ⟨0, rfl, Nat.zero_le _, Lib.hid (Below.refl _ _)⟩
          case round =>
            obtain ⟨k, rfl, hk, HBk⟩ := hrel
            have hzk := HBk.out.size
            by_cases hlt3 : k < rows.length
            · obtain ⟨n, g, c, c0, A0, hn, hcg, hcv, hc1, hc2, zg, hG, hV⟩ := HROW.out k hlt3
              have HG := Lib.hid hG
              have HV := Lib.hid hV
              have HCG := Lib.hid hcg
              have HCV := Lib.hid hcv
              clear hG hV hcg hcv
              obtain ⟨wk, rfl⟩ : ∃ wk : World, wk = wr := ⟨_, rfl⟩
              go_wp2
              go_loopw [11] (fun i wr => ∃ t : Nat, i = .int .i64 t ∧ t ≤ n + 64 ∧ Hid (Below wo.heap.size wo wr)) (fun i _ => (n + 64) - (intOf i).toNat)
              case atStart => exact ⟨0, rfl, Nat.zero_le _, HBk⟩
              case round =>
                obtain ⟨t, rfl, ht, HBt⟩ := hrel
                have hzt := HBt.out.size
                have hcg : wr.cell? ⟨gg, k, none⟩ = some (.slice (some ⟨g, 0, none⟩) (n + 64) c) := keepc HBt.out zgg HCG.out
                have hcv : wr.cell? ⟨q, k, none⟩ = some (.slice A0 n c0) := keepc HBt.out zq HCV.out
                by_cases htl : t < n + 64
                · have hct := HG.out t htl
                  have zg2 : g < wr.heap.size := Nat.lt_of_lt_of_le zg hzt
                  have zgg2 : gg < wr.heap.size := Nat.lt_of_lt_of_le zgg hzt
                  have zq2 : q < wr.heap.size := Nat.lt_of_lt_of_le zq hzt
                  have p0 := keepc HBt.out zg (hct 5 _ rfl)
                  simp only [Nat.add_zero, mkI] at p0
                  have hme : ((-1000000 * ((k : Int) + 1) - (t : Int)) == (-1000000 * ((k : Int) + 1) - (t : Int))) = true := by simp
                  by_cases htn : t < n
                  · obtain ⟨b, rfl, zb, hcb⟩ := HV.out t htn
                    have s0 := keepc HBt.out zb (hcb 5 _ rfl)
                    simp only [Nat.add_zero, mkI] at s0
                    clear hct hcb
                    go_wp2
                    go_roundw
                    case rel => exact ⟨t + 1, by go_num, by omega, HBt⟩
                    case measure => first | (simp [intOf]; done) | (simp [intOf]; omega)
                  · have dtn : decide (t < n) = false := by simp; omega
                    clear hct
                    go_wp2
                    go_roundw
                    case rel => exact ⟨t + 1, by go_num, by omega, HBt⟩
                    case measure => first | (simp [intOf]; done) | (simp [intOf]; omega)
                · obtain rfl : t = n + 64 := by omega
                  go_wp2
                  go_roundw
                  case rel => exact ⟨k + 1, by go_num, by omega, HBt⟩
                  case measure => first | (simp [intOf]; done) | (simp [intOf]; omega)
            · obtain rfl : k = rows.length := by omega
              go_wp2
              go_ret
              exact ⟨rfl, HB.out.trans (HBk.out.mono hzo), HKT.out.below HBk.out⟩
end apartSg
end Go.Proofs.Ytdibfkcddcjiiaa
