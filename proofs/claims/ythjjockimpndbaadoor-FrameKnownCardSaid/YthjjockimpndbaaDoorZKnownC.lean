/- The closed statement FrameKnown: knownWrong. Condition: errors.errorType is laid. -/
import Derived.Test.YthjjockimpndbaaDoorZKnownA
import Derived.Test.YthjjockimpndbaaDoorZFrameOnly
import Derived.Test.YthjjockimpndbaaDoorZFrameDecAll
import Derived.Test.YthjjockimpndbaaDoorZFrameWiresW
namespace Go.Proofs.YthjjockimpndbaaDoor.frameKnownW
open Go.RowKit Go.Bus Go.Bus.bitK Go.Bus.farmK
set_option linter.unusedVariables false
def ROWS : List ByteArray := [⟨#[]⟩, ⟨#[49]⟩, ⟨#[49, 49, 49, 49, 49, 49, 49, 49, 49]⟩, ⟨#[49, 49, 49, 49, 49, 49, 49, 49, 49, 49]⟩, ⟨#[48, 48, 48, 48, 48, 48, 48, 48, 48, 48]⟩, ⟨#[49, 49, 49, 49, 49, 49, 49, 49, 49, 49, 49]⟩, ⟨#[48, 48, 48, 48, 48, 48, 49, 49, 49, 49, 49, 49, 49, 49, 49, 49]⟩, ⟨#[48, 48, 48, 48, 48, 49, 49, 49, 49, 49, 49, 49, 49, 49, 49]⟩, ⟨#[48, 48, 48, 48, 48, 49, 48, 49, 49, 49, 49, 49, 49, 49, 49, 49, 49]⟩, ⟨#[48, 49, 49, 49, 49, 49, 49, 49, 49, 49, 48]⟩, ⟨#[48, 49, 48, 49, 48, 49, 48, 49, 48, 49, 48, 49, 48, 49, 49, 49, 49, 49, 49, 49, 49, 49, 49]⟩, ⟨#[48, 49, 48, 49, 48, 49, 48, 49, 48, 49, 48, 49, 48, 48, 49, 49, 49, 49, 49, 49, 49, 49, 49, 49]⟩, ⟨#[48, 49, 48, 49, 48, 49, 48, 49, 48, 49, 48, 49, 49, 48, 48, 49, 49, 49, 49, 49, 49, 49, 49, 49, 49]⟩]
theorem rows_ok : ∀ s ∈ ROWS, s.size ≤ 100 := by decide
theorem wire_bd (l : List Bool) : (wireW.wireF l).length ≤ 2 * l.length + 10 ∧ 10 ≤ (wireW.wireF l).length := by
  have h1 : (wireW.wireF l).length = _ := Go.Bus.decK.onF_length l
  have h2 := (Go.Bus.stuffK.run_bd l).2
  have h3 : (Go.Bus.stuffK.stuffF l).length ≤ 2 * l.length := h2
  omega
/-- Row l with the bit at t turned. -/
theorem turned_row {w : World} {base g n c t : Nat} {e : TypeId} {Y : List Bool} (h : w.ownsRow base e 1 (.slice (some ⟨g, 0, none⟩) n c) n (Y.map Value.bool)) (b : Bool) :
    (w.setCell ⟨g, t, none⟩ (.bool b)).ownsRow base e 1 (.slice (some ⟨g, 0, none⟩) n c) n ((Y.set t b).map Value.bool) := by
  rw [List.map_set]
  exact (h.stored t (.bool b)).1
theorem row_at {w : World} {base g n c t : Nat} {e : TypeId} {Y : List Bool} (h : w.ownsRow base e 1 (.slice (some ⟨g, 0, none⟩) n c) n (Y.map Value.bool)) (ht : t < n) :
    ∃ b, w.cell? ⟨g, t, none⟩ = some (.bool b) ∧ w.frozen? ⟨g, t, none⟩ = false := by
  have hl : Y.length = n := by simpa using h.1
  refine ⟨Y[t]'(by omega), ?_, h.frozenAt t⟩
  rw [h.cellAt t (by omega), List.getElem?_map, List.getElem?_eq_getElem (by omega)]; rfl
theorem row_sl {w : World} {base n : Nat} {e : TypeId} {v : Value} {Y : List Bool} (h : w.ownsRow base e 1 v n (Y.map Value.bool)) : Sl w w.heap.size Value.bool v Y := by
  have hl : Y.length = n := by simpa using h.1
  subst hl
  exact Sl.of_own h
/-- append(s, x...) behind a guard that lets it by. -/
theorem append_if {P : Program} {w : World} {ops : Array Oper} {rest : List Oper} {o : Oper} {a : Act} {Q : Exit → Act → World → Prop} (hw : Region.wanted o (yielded ops a.tmps) = true) (s x : Operand) (t : TypeId)
    (ho : o.op = .call { callee := .builtin .append, args := #[s, x], argTypes := #[t, t] })
    (base : Nat) (e : TypeId) (i : TypeInfo) (z : Value) (size bytes : Nat) (ht : P.underlying t = some (.slice e)) (hi : P.info? e = some i) (hz : i.zero = some z)
    (hsize : i.size = size) (hby : i.bytes = bytes) (hzs : z.cells.size = size) (hsz : 0 < size)
    (v : Value) (n : Nat) (xs : List Value) (hs : a.eval s = v) (hown : w.ownsRow base e size v n xs)
    (ad : Addr) (m c : Nat) (news : List Value) (hx : a.eval x = .slice (some ad) m c) (hl : news.length = m * size) (hnews : ∀ j u, news[j]? = some u → w.cell? (ad.add j) = some u) (h1 : ∀ u ∈ news, u.oneCell' = true)
    (h63 : n + m ≤ maxLen) (hbytes : (n + m) * bytes ≤ 140737488355328) (hbase : base ≤ w.heap.size)
    (h : ∀ v' w', w'.ownsRow base e size v' (n + m) (xs ++ news) → w.grownBy w' v.ownBlock → wpList P ops Q rest (a.put o.dst v') w') : wpList P ops Q (o :: rest) a w :=
  wpList_step fun K hK => by
    rw [if_pos hw]
    exact wp_append_own w s x t ho base e i z size bytes ht hi hz hsize hby hzs hsz v n xs hs hown ad m c news hx hl hnews h1 h63 hbytes hbase fun v' w' h2 h3 _ => hK _ _ (h v' w' h2 h3)
theorem row_kept {w w' : World} {base n : Nat} {e : TypeId} {v : Value} {xs : List Value} (h : w.ownsRow base e 1 v n xs) (hb : Below w.heap.size w w') : w'.ownsRow base e 1 v n xs := own_kept h hb

set_option maxRecDepth 100000 in
set_option maxHeartbeats 8000000 in
theorem wrong (w : World) (hG : asK.ErrT w) : Calls Tryd.prog 33 #[] w fun e w' => e = .returned (.bool true) ∧ Below w.heap.size w w' := by
  obtain ⟨i0, hi, hz0, hz1, hz2⟩ := info_parts Tryd.infoBool
  have HG := Lib.hid hG; clear hG
  go_enter Tryd.func33, Tryd.ntmps33
  obtain ⟨W1, hW1⟩ : ∃ W1, W1 = ((w.alloc (.cells #[.int .u8 255, .int .u8 0] 5)).alloc (.cells #[.int .u8 1] 5)).alloc (.cells #[.int .u32 291, .bool false, .slice (some ⟨w.heap.size, 0, none⟩) 2 2, .int .u32 28036591, .bool true, .slice (some ⟨w.heap.size + 1, 0, none⟩) 1 1, .int .u32 0, .bool false, .slice none 0 0] 46) := ⟨_, rfl⟩
  have hz1w : W1.heap.size = w.heap.size + 3 := by rw [hW1]; simp
  have HB1 := Lib.hid (show Below w.heap.size w W1 by rw [hW1]; exact (((Below.refl _ w).alloc (Nat.le_refl _) _).alloc (by simp) _).alloc (by simp; omega) _)
  have hfs : ∀ k, k < 3 → ∃ (id : Int) (wd : Bool) (A : Option Addr) (lst : List Int) (c : Nat), W1.cell? ⟨w.heap.size + 2, k * 3, none⟩ = some (.int .u32 id) ∧ W1.cell? ⟨w.heap.size + 2, k * 3 + 1, none⟩ = some (.bool wd) ∧ W1.cell? ⟨w.heap.size + 2, k * 3 + 2, none⟩ = some (.slice A lst.length c) ∧
      Sl W1 W1.heap.size (Value.int .u8) (.slice A lst.length c) lst ∧ 0 ≤ id ∧ id ≤ 536870911 ∧ (wd = false → id ≤ 2047) ∧ lst.length ≤ 8 ∧ (∀ x ∈ lst, 0 ≤ x ∧ x < 256) := by
    have hF : Has W1 (w.heap.size + 2) 46 #[.int .u32 291, .bool false, .slice (some ⟨w.heap.size, 0, none⟩) 2 2, .int .u32 28036591, .bool true, .slice (some ⟨w.heap.size + 1, 0, none⟩) 1 1, .int .u32 0, .bool false, .slice none 0 0] := by
      rw [hW1]
      have := Has.new ((w.alloc (.cells #[.int .u8 255, .int .u8 0] 5)).alloc (.cells #[.int .u8 1] 5)) 46 #[.int .u32 291, .bool false, .slice (some ⟨w.heap.size, 0, none⟩) 2 2, .int .u32 28036591, .bool true, .slice (some ⟨w.heap.size + 1, 0, none⟩) 1 1, .int .u32 0, .bool false, .slice none 0 0]
      simpa using this
    have hA : Has W1 w.heap.size 5 (([255, 0] : List Int).map (Value.int .u8)).toArray := by rw [hW1]; exact ((Has.new w _ _).alloc _).alloc _
    have hC : Has W1 (w.heap.size + 1) 5 (([1] : List Int).map (Value.int .u8)).toArray := by
      rw [hW1]
      have := (Has.new (w.alloc (.cells #[.int .u8 255, .int .u8 0] 5)) 5 #[.int .u8 1]).alloc (.cells #[.int .u32 291, .bool false, .slice (some ⟨w.heap.size, 0, none⟩) 2 2, .int .u32 28036591, .bool true, .slice (some ⟨w.heap.size + 1, 0, none⟩) 1 1, .int .u32 0, .bool false, .slice none 0 0] 46)
      simpa using this
    intro k hk
    have hk3 : k = 0 ∨ k = 1 ∨ k = 2 := by omega
    rcases hk3 with rfl | rfl | rfl
    · exact ⟨291, false, _, [255, 0], 2, by rw [hF.cell]; rfl, by rw [hF.cell]; rfl, by rw [hF.cell]; rfl, sl_block hA rfl (by simp), by omega, by omega, fun _ => by omega, by simp, by simp⟩
    · exact ⟨28036591, true, _, [1], 1, by rw [hF.cell]; rfl, by rw [hF.cell]; rfl, by rw [hF.cell]; rfl, sl_block hC rfl (by simp), by omega, by omega, (fun h => by cases h), by simp, by simp⟩
    · exact ⟨0, false, none, [], 0, by rw [hF.cell]; rfl, by rw [hF.cell]; rfl, by rw [hF.cell]; rfl, Sl.nil_ _ _ _, by omega, by omega, fun _ => by omega, by simp, by simp⟩
  have HFS := Lib.hid hfs
  have HW1 := Lib.hid hW1
  have hz1a : w.heap.size + 3 ≤ W1.heap.size := by omega
  have hz1b : w.heap.size + 2 < W1.heap.size := by omega
  clear hW1 hfs hz1w
  go_wp2
  rw [← HW1.out]
  go_loopw [2] (fun i wr => ∃ k : Nat, i = .int .i64 k ∧ k ≤ 3 ∧ Below W1.heap.size W1 wr) (fun i _ => 3 - (intOf i).toNat)
  case atStart => exact ⟨0, rfl, by omega, Below.refl _ _⟩
  case round =>
    obtain ⟨k, rfl, hk, hB⟩ := hrel
    have HB := Lib.hid hB
    by_cases hlt : k < 3
    · have dk : decide ((k : Int) < 3) = true := decide_eq_true (by omega)
      obtain ⟨id, wd, A, lst, c, f0, f1, f2, hsl, hid0, hid1, hid2, hl8, hlb⟩ := HFS.out k hlt
      have c0 := (hB.cell (p := ⟨w.heap.size + 2, k * 3, none⟩) hz1b).trans f0
      have c1 := (hB.cell (p := ⟨w.heap.size + 2, k * 3 + 1, none⟩) hz1b).trans f1
      have c2 := (hB.cell (p := ⟨w.heap.size + 2, k * 3 + 2, none⟩) hz1b).trans f2
      have HSL := Lib.hid (hsl.at_below hB)
      have HID := Lib.hid hid2
      have HLB := Lib.hid hlb
      have hzr := hB.size
      clear f0 f1 f2 hsl hB hid2 hlb
      go_wp2_with fail
      clear c0 c1 c2
      refine (bitsW.bits_ok id wd _ lst _ HSL.out hid0 hid1 HID.out hl8 HLB.out).mono ?_
      rintro e w2 ⟨vl, rfl, ho, hb⟩
      have hbl := bitsF_length id wd lst
      have hbl1 : (bitsF id wd lst).length ≤ 118 := by rw [hbl]; split <;> omega
      have hbl2 : 0 < (bitsF id wd lst).length := by rw [hbl]; split <;> omega
      obtain ⟨Y0, hY0⟩ : ∃ Y0, Y0 = bitsF id wd lst := ⟨_, rfl⟩
      rw [← hY0] at ho hbl1 hbl2
      obtain ⟨g, cl, rfl, hcl1, hcl2⟩ := own_form ho hbl2
      obtain ⟨N, hN⟩ : ∃ N, N = Y0.length := ⟨_, rfl⟩
      rw [← hN] at ho hbl1 hbl2 hcl1
      rw [← hN]
      have HN := Lib.hid hN
      have HO2 := Lib.hid (own_base ho hzr)
      have HB2 := Lib.hid (HB.out.trans (hb.mono hzr))
      clear ho hb hbl hY0 hN HSL HID HLB hid0 hid1 hl8 HB hzr
      go_wp2_with fail
      refine (worksW.works_yes _).mono ?_
      rintro e w3 ⟨rfl, hb⟩
      have HO3 := Lib.hid (own_kept HO2.out hb)
      have HB3 := Lib.hid (HB2.out.trans (hb.mono HB2.out.size))
      clear hb HO2 HB2
      go_wp2
      clear dk
      go_loopw [5] (fun i wr => ∃ n : Nat, i = .int .i64 n ∧ n ≤ N + 1 ∧ wr.ownsRow W1.heap.size 4 1 (.slice (some ⟨g, 0, none⟩) N cl) N (Y0.map Value.bool) ∧ Below W1.heap.size W1 wr) (fun i _ => (N + 1) - (intOf i).toNat)
      case atStart => exact ⟨0, rfl, by omega, HO3.out, HB3.out⟩
      case round =>
        clear HO3 HB3
        obtain ⟨n, rfl, hn, hown, hB⟩ := hrel
        have H0 := Lib.hid hown
        have HB0 := Lib.hid hB
        clear hown hB
        by_cases hnl : n ≤ N
        · have dn : decide ((n : Int) ≤ (N : Int)) = true := decide_eq_true (by omega)
          have hst := readW.Sl.take_ (row_sl H0.out) n (by have := HN.out; omega)
          have HST := Lib.hid hst
          clear hst
          go_wp2_with fail
          refine (wireW.wire_any _ (Y0.take n) _ HST.out (by rw [List.length_take]; omega)).mono ?_
          rintro e w4 ⟨vw, rfl, ho, hb⟩
          have hwb := wire_bd (Y0.take n)
          rw [List.length_take] at hwb
          obtain ⟨WL, hWL⟩ : ∃ WL, WL = wireW.wireF (Y0.take n) := ⟨_, rfl⟩
          rw [← hWL] at hwb ho
          have hwb1 : WL.length ≤ 300 := by omega
          have hwb2 : 10 ≤ WL.length := by omega
          obtain ⟨gw, cw, rfl, hcw1, hcw2⟩ := own_form ho (by omega)
          have H4 := Lib.hid (row_kept H0.out hb)
          have HX4 := Lib.hid ho
          have HB4 := Lib.hid (HB0.out.trans (hb.mono HB0.out.size))
          clear ho hb hwb hWL HST H0
          go_wp2_with fail
          refine (frameDecW.whole _ WL _ (row_sl HX4.out) (by omega) (HG.out.at_below (HB1.out.trans (HB4.out.mono HB1.out.size)))).mono ?_
          rintro e w5 ⟨rfl, hb⟩
          have H5 := Lib.hid (row_kept H4.out hb)
          have HX5 := Lib.hid (row_kept HX4.out hb)
          have HB5 := Lib.hid (HB4.out.trans (hb.mono HB4.out.size))
          have H5L := Lib.hid (fun q hq => (H5.out.lt q hq).2)
          have HX5L := Lib.hid (fun q hq => (HX5.out.lt q hq).2)
          have HB5z := Lib.hid HB5.out.size
          clear hb H4 HX4 HB4
          go_wp2_with fail
          refine (bools_any _ _ (by decide)).mono ?_
          rintro e w6 ⟨vz, rfl, ho, hb⟩
          obtain ⟨Z, hZ⟩ : ∃ Z, Z = bitsOf ⟨#[48]⟩ := ⟨_, rfl⟩
          have hZl : Z.length = 1 := by rw [hZ]; rfl
          have hzz : w6.ownsRow w5.heap.size 4 1 vz Z.length (Z.map Value.bool) := by rw [hZ]; exact ho
          have hZl1 : Z.length ≤ 1 := by omega
          obtain ⟨Az, cz, rfl⟩ := decW.own_slice hzz
          have H6 := Lib.hid (row_kept H5.out hb)
          have HX6 := Lib.hid (row_kept HX5.out hb)
          have HZ6 := Lib.hid hzz
          have HB6 := Lib.hid (HB5.out.trans (hb.mono HB5.out.size))
          have hz56 := hb.size
          clear ho hb H5 HX5 hzz hZ hZl
          go_wp2_with (at_builtin; refine append_if (by rfl) _ _ 48 rfl w5.heap.size 4 i0 (.bool false) 1 1 Tryd.underlying48 hi hz0 hz1 hz2 rfl (by decide) (.slice Az Z.length cz) Z.length (Z.map Value.bool) (by rfl) HZ6.out ⟨gw, 0, none⟩ WL.length cw (WL.map Value.bool) rfl ?d0 ?d1 ?d2 ?d3 ?d4 ?d5 ?_)
          case d0 => simp
          case d1 => exact (own_reads HX6.out).2.2 _ rfl
          case d2 => intro u hu; simp at hu; rcases hu with ⟨_, rfl⟩ | ⟨_, rfl⟩ <;> rfl
          case d3 => unfold maxLen; omega
          case d4 => omega
          case d5 => exact hz56
          intro v7 w7 hown7 hg7
          have hb67 : Below w5.heap.size w6 w7 := Below.grown (Below.refl _ w6) hg7 hz56 (fun r hr => (HZ6.out.lt r hr).1)
          have hsm : w7.ownsRow w5.heap.size 4 1 v7 (Z.length + WL.length) ((Z ++ WL).map Value.bool) := by rw [List.map_append]; exact hown7
          have hne : ∀ {base : Nat} {g n c : Nat} {xs : List Value}, w6.ownsRow base 4 1 (.slice (some ⟨g, 0, none⟩) n c) n xs → g < w5.heap.size → w7.ownsRow base 4 1 (.slice (some ⟨g, 0, none⟩) n c) n xs := fun h hlt => lentK.own_below h hb67 (fun q hq => by simp [Value.ownBlock] at hq; subst hq; exact hlt)
          have H7 := Lib.hid (hne H6.out (by have := (H5L.out g (by rfl)); exact this))
          have HX7 := Lib.hid (hne HX6.out (by have := (HX5L.out gw (by rfl)); exact this))
          have HY7 := Lib.hid hsm
          have HB7 := Lib.hid (HB6.out.trans (hb67.mono HB5z.out))
          clear hown7 hg7 hb67 hsm hne H6 HX6 HZ6 HB6
          go_wp2_with fail
          refine (frameDecW.whole _ (Z ++ WL) _ (row_sl HY7.out) (by rw [List.length_append]; omega) (HG.out.at_below (HB1.out.trans (HB7.out.mono HB1.out.size)))).mono ?_
          rintro e w8 ⟨rfl, hb⟩
          have H8 := Lib.hid (row_kept H7.out hb)
          have HX8 := Lib.hid (row_kept HX7.out hb)
          have HB8 := Lib.hid (HB7.out.trans (hb.mono HB7.out.size))
          clear hb H7 HX7 HY7 HB7
          obtain ⟨m, hm⟩ : ∃ m, m = WL.length * 2 / 3 := ⟨_, rfl⟩
          have e23 : (WL.length : Int) * 2 / 3 = (m : Int) := by omega
          have hmw : m ≤ WL.length := by omega
          have HTK := Lib.hid (readW.Sl.take_ (row_sl HX8.out) m hmw)
          clear hm
          go_wp2_with fail
          refine (frameDecW.whole _ (WL.take m) _ HTK.out (by rw [List.length_take]; omega) (HG.out.at_below (HB1.out.trans (HB8.out.mono HB1.out.size)))).mono ?_
          rintro e w9 ⟨rfl, hb⟩
          have H9 := Lib.hid (row_kept H8.out hb)
          have HB9 := Lib.hid (HB8.out.trans (hb.mono HB8.out.size))
          clear hb H8 HX8 HB8 HTK e23
          go_wp2
          go_roundw
          case rel => first | exact ⟨n + 1, by go_num, by omega, H9.out, HB9.out⟩ | ((repeat apply Exists.intro); exact ⟨⟨n + 1, by go_num, by omega, H9.out, HB9.out⟩, rfl⟩)
          case measure => first | (simp [intOf]; done) | (simp [intOf]; omega)
        · have dn : decide ((n : Int) ≤ (N : Int)) = false := decide_eq_false (by omega)
          go_wp2
          clear dn
          go_loopw [7] (fun i wr => ∃ (m : Nat) (Y : List Bool), i = .int .i64 m ∧ m ≤ N ∧ wr.ownsRow W1.heap.size 4 1 (.slice (some ⟨g, 0, none⟩) N cl) N (Y.map Value.bool) ∧ Below W1.heap.size W1 wr) (fun i _ => N - (intOf i).toNat)
          case atStart => exact ⟨0, Y0, rfl, Nat.zero_le _, H0.out, HB0.out⟩
          case round =>
            clear H0 HB0
            obtain ⟨m, Y, rfl, hm, hown, hB⟩ := hrel
            by_cases hml : m < N
            · have hYl : Y.length = N := by simpa using hown.1
              have HYL := Lib.hid hYl
              obtain ⟨b, hc, hf⟩ := row_at hown hml
              have dm1 : decide ((m : Int) < (N : Int)) = true := decide_eq_true (by omega)
              have dm2 : decide (m < N) = true := decide_eq_true (by omega)
              have hgW := (hown.lt g (by rfl)).1
              have H1 := Lib.hid (turned_row (t := m) hown (!b))
              have HBa := Lib.hid (hB.setCell (p := ⟨g, m, none⟩) hgW (.bool (!b)))
              clear hown hB hYl
              go_wp2_with fail
              refine (wireW.wire_any _ (Y.set m (!b)) _ (row_sl H1.out) (by rw [List.length_set]; have := HYL.out; omega)).mono ?_
              rintro e w4 ⟨vw4, rfl, ho, hb⟩
              have hwb := wire_bd (Y.set m (!b))
              rw [List.length_set] at hwb
              obtain ⟨Lw4, hWL⟩ : ∃ Lw4, Lw4 = wireW.wireF (Y.set m (!b)) := ⟨_, rfl⟩
              rw [← hWL] at hwb ho
              have hlw4 : Lw4.length ≤ 300 := by have := HYL.out; omega
              have hmw4 : 10 ≤ Lw4.length := by omega
              obtain ⟨gw4, cw4, rfl, -, -⟩ := own_form ho (by omega)
              have H4 := Lib.hid (row_kept H1.out hb)
              have HX4 := Lib.hid ho
              have HB4 := Lib.hid (HBa.out.trans (hb.mono HBa.out.size))
              clear ho hb hwb hWL H1 HBa hc hf
              go_wp2_with fail
              refine (frameDecW.whole _ Lw4 _ (row_sl HX4.out) (by omega) (HG.out.at_below (HB1.out.trans (HB4.out.mono HB1.out.size)))).mono ?_
              rintro e w5 ⟨rfl, hb⟩
              have H5 := Lib.hid (row_kept H4.out hb)
              have HX5 := Lib.hid (row_kept HX4.out hb)
              have HB5 := Lib.hid (HB4.out.trans (hb.mono HB4.out.size))
              clear hb H4 HX4 HB4
              go_wp2_with fail
              refine (frameOnly.walk _ Lw4 _ (row_sl HX5.out) (by omega)).mono ?_
              rintro e w6 ⟨rfl, hb⟩
              have H6 := Lib.hid (row_kept H5.out hb)
              have HB6 := Lib.hid (HB5.out.trans (hb.mono HB5.out.size))
              clear hb H5 HX5 HB5
              go_wp2
              clear dm1 dm2
              go_loopw [9] (fun i wr => ∃ (q : Nat) (Y : List Bool), i = .int .i64 q ∧ q ≤ 40 ∧ wr.ownsRow W1.heap.size 4 1 (.slice (some ⟨g, 0, none⟩) N cl) N (Y.map Value.bool) ∧ Below W1.heap.size W1 wr) (fun i _ => 40 - (intOf i).toNat)
              case atStart => exact ⟨0, _, rfl, Nat.zero_le _, H6.out, HB6.out⟩
              case round =>
                clear H6 HB6
                obtain ⟨q, Y, rfl, hq, hown, hB⟩ := hrel
                by_cases hq4 : q < 40
                · have dq : decide ((q : Int) < 40) = true := decide_eq_true (by omega)
                  by_cases hqN : q < N
                  · have hYl : Y.length = N := by simpa using hown.1
                    have HYL2 := Lib.hid hYl
                    obtain ⟨b, hc, hf⟩ := row_at hown hqN
                    have H1 := Lib.hid (turned_row (t := q) hown (!b))
                    have HBa := Lib.hid (hB.setCell (p := ⟨g, q, none⟩) hgW (.bool (!b)))
                    clear hown hB hYl
                    go_wp2_with fail
                    refine (wireW.wire_any _ (Y.set q (!b)) _ (row_sl H1.out) (by rw [List.length_set]; have := HYL2.out; omega)).mono ?_
                    rintro e w7 ⟨vw7, rfl, ho, hb⟩
                    have hwb := wire_bd (Y.set q (!b))
                    rw [List.length_set] at hwb
                    obtain ⟨Lw7, hWL⟩ : ∃ Lw7, Lw7 = wireW.wireF (Y.set q (!b)) := ⟨_, rfl⟩
                    rw [← hWL] at hwb ho
                    have hlw7 : Lw7.length ≤ 300 := by have := HYL2.out; omega
                    have hmw7 : 10 ≤ Lw7.length := by omega
                    obtain ⟨gw7, cw7, rfl, -, -⟩ := own_form ho (by omega)
                    have H7 := Lib.hid (row_kept H1.out hb)
                    have HX7 := Lib.hid ho
                    have HB7 := Lib.hid (HBa.out.trans (hb.mono HBa.out.size))
                    clear ho hb hwb hWL H1 HBa hc hf
                    go_wp2_with fail
                    refine (frameDecW.whole _ Lw7 _ (row_sl HX7.out) (by omega) (HG.out.at_below (HB1.out.trans (HB7.out.mono HB1.out.size)))).mono ?_
                    rintro e w8 ⟨rfl, hb⟩
                    have h8 := row_kept H7.out hb
                    have hB8 := HB7.out.trans (hb.mono HB7.out.size)
                    obtain ⟨b, hc, hf⟩ := row_at h8 hqN
                    have H9 := Lib.hid (turned_row (t := q) h8 (!b))
                    have HB9 := Lib.hid (hB8.setCell (p := ⟨g, q, none⟩) hgW (.bool (!b)))
                    clear hb H7 HX7 HB7 h8 hB8
                    go_wp2
                    go_roundw
                    case rel => first | exact ⟨q + 1, _, by go_num, by omega, H9.out, HB9.out⟩ | ((repeat apply Exists.intro); exact ⟨⟨q + 1, _, by go_num, by omega, H9.out, HB9.out⟩, rfl⟩)
                    case measure => first | (simp [intOf]; done) | (simp [intOf]; omega)
                  · obtain ⟨b, hc, hf⟩ := row_at hown hml
                    have H9 := Lib.hid (turned_row (t := m) hown (!b))
                    have HB9 := Lib.hid (hB.setCell (p := ⟨g, m, none⟩) hgW (.bool (!b)))
                    clear hown hB
                    go_wp2
                    go_roundw
                    case rel => first | exact ⟨m + 1, _, by go_num, by omega, H9.out, HB9.out⟩ | ((repeat apply Exists.intro); exact ⟨⟨m + 1, _, by go_num, by omega, H9.out, HB9.out⟩, rfl⟩)
                    case measure => first | (simp [intOf]; done) | (simp [intOf]; omega)
                · obtain ⟨b, hc, hf⟩ := row_at hown hml
                  have H9 := Lib.hid (turned_row (t := m) hown (!b))
                  have HB9 := Lib.hid (hB.setCell (p := ⟨g, m, none⟩) hgW (.bool (!b)))
                  clear hown hB
                  have dq : decide ((q : Int) < 40) = false := decide_eq_false (by omega)
                  go_wp2
                  go_roundw
                  case rel => first | exact ⟨m + 1, _, by go_num, by omega, H9.out, HB9.out⟩ | ((repeat apply Exists.intro); exact ⟨⟨m + 1, _, by go_num, by omega, H9.out, HB9.out⟩, rfl⟩)
                  case measure => first | (simp [intOf]; done) | (simp [intOf]; omega)
            · have HBe := Lib.hid hB
              clear hown hB
              go_wp2
              go_roundw
              case rel => first | exact ⟨k + 1, by go_num, by omega, HBe.out⟩ | ((repeat apply Exists.intro); exact ⟨⟨k + 1, by go_num, by omega, HBe.out⟩, rfl⟩)
              case measure => first | (simp [intOf]; done) | (simp [intOf]; omega)
    · obtain rfl : k = 3 := by omega
      obtain ⟨wo, rfl⟩ : ∃ wo : World, wo = wr := ⟨_, rfl⟩
      obtain ⟨WR, hWR⟩ : ∃ WR, WR = wo.alloc (.cells #[.string ⟨#[]⟩, .string ⟨#[49]⟩, .string ⟨#[49, 49, 49, 49, 49, 49, 49, 49, 49]⟩, .string ⟨#[49, 49, 49, 49, 49, 49, 49, 49, 49, 49]⟩, .string ⟨#[48, 48, 48, 48, 48, 48, 48, 48, 48, 48]⟩, .string ⟨#[49, 49, 49, 49, 49, 49, 49, 49, 49, 49, 49]⟩, .string ⟨#[48, 48, 48, 48, 48, 48, 49, 49, 49, 49, 49, 49, 49, 49, 49, 49]⟩, .string ⟨#[48, 48, 48, 48, 48, 49, 49, 49, 49, 49, 49, 49, 49, 49, 49]⟩, .string ⟨#[48, 48, 48, 48, 48, 49, 48, 49, 49, 49, 49, 49, 49, 49, 49, 49, 49]⟩, .string ⟨#[48, 49, 49, 49, 49, 49, 49, 49, 49, 49, 48]⟩, .string ⟨#[48, 49, 48, 49, 48, 49, 48, 49, 48, 49, 48, 49, 48, 49, 49, 49, 49, 49, 49, 49, 49, 49, 49]⟩, .string ⟨#[48, 49, 48, 49, 48, 49, 48, 49, 48, 49, 48, 49, 48, 48, 49, 49, 49, 49, 49, 49, 49, 49, 49, 49]⟩, .string ⟨#[48, 49, 48, 49, 48, 49, 48, 49, 48, 49, 48, 49, 49, 48, 48, 49, 49, 49, 49, 49, 49, 49, 49, 49, 49]⟩] 9) := ⟨_, rfl⟩
      have HRR := Lib.hid (show Has WR wo.heap.size 9 (ROWS.map Value.string).toArray by rw [hWR]; exact Has.new wo _ _)
      have HBR := Lib.hid (show Below w.heap.size w WR by rw [hWR]; exact (HB1.out.trans (HB.out.mono HB1.out.size)).alloc (HB1.out.trans (HB.out.mono HB1.out.size)).size _)
      have HWR := Lib.hid hWR
      clear hWR hB
      go_wp2
      rw [← HWR.out]
      go_loopw [11] (fun i wq => ∃ m : Nat, i = .int .i64 m ∧ m ≤ 13 ∧ Below WR.heap.size WR wq) (fun i _ => 13 - (intOf i).toNat)
      case atStart => exact ⟨0, rfl, by omega, Below.refl _ _⟩
      case round =>
        obtain ⟨m, rfl, hm, hB⟩ := hrel
        by_cases hlt2 : m < 13
        · obtain ⟨s, hs⟩ : ∃ s, ROWS[m]? = some s := ⟨_, List.getElem?_eq_getElem (show m < ROWS.length from hlt2)⟩
          have hsz := rows_ok s (List.mem_of_getElem? hs)
          have HBL := Lib.hid (bitsOf_len s)
          have HR0 := Lib.hid (HRR.out.below hB HRR.out.lt)
          have hcs : ∀ W, Has W wo.heap.size 9 (ROWS.map Value.string).toArray → W.cell? ⟨wo.heap.size, m, none⟩ = some (.string s) := fun W h => by rw [h.cell]; simp [hs]
          have HCS := Lib.hid hcs
          have HB0 := Lib.hid hB
          have c0 := hcs _ HR0.out
          clear hcs hB hs
          go_wp2_with fail
          clear c0
          refine (bools_any s _ (by omega)).mono ?_
          rintro e w4 ⟨v4, rfl, ho, hb⟩
          have HX4 := Lib.hid ho
          have HB4 := Lib.hid (HB0.out.trans (hb.mono HB0.out.size))
          have HR4 := Lib.hid (HR0.out.below hb HR0.out.lt)
          clear ho hb HB0 HR0
          go_wp2_with fail
          refine (frameDecW.whole _ (bitsOf s) _ (row_sl HX4.out) (by have := HBL.out; omega) (HG.out.at_below (HBR.out.trans (HB4.out.mono HBR.out.size)))).mono ?_
          rintro e w5 ⟨rfl, hb⟩
          have HB5 := Lib.hid (HB4.out.trans (hb.mono HB4.out.size))
          have HR5 := Lib.hid (HR4.out.below hb HR4.out.lt)
          have c0 := HCS.out _ HR5.out
          clear hb HX4 HB4 HR4
          go_wp2_with fail
          clear c0
          refine (bools_any s _ (by omega)).mono ?_
          rintro e w6 ⟨v6, rfl, ho, hb⟩
          have HX6 := Lib.hid ho
          have HB6 := Lib.hid (HB5.out.trans (hb.mono HB5.out.size))
          have HR6 := Lib.hid (HR5.out.below hb HR5.out.lt)
          clear ho hb HB5 HR5
          go_wp2_with fail
          refine (frameWiresW.walk _ (bitsOf s) _ (row_sl HX6.out) (by have := HBL.out; omega)).mono ?_
          rintro e w7 ⟨rfl, hb⟩
          have HB7 := Lib.hid (HB6.out.trans (hb.mono HB6.out.size))
          have HR7 := Lib.hid (HR6.out.below hb HR6.out.lt)
          have c0 := HCS.out _ HR7.out
          clear hb HX6 HB6 HR6
          go_wp2_with fail
          clear c0
          refine (bools_any s _ (by omega)).mono ?_
          rintro e w8 ⟨v8, rfl, ho, hb⟩
          have HX8 := Lib.hid ho
          have HB8 := Lib.hid (HB7.out.trans (hb.mono HB7.out.size))
          clear ho hb HB7 HR7
          go_wp2_with fail
          refine (frameOnly.walk _ (bitsOf s) _ (row_sl HX8.out) (by have := HBL.out; omega)).mono ?_
          rintro e w9 ⟨rfl, hb⟩
          have HB9 := Lib.hid (HB8.out.trans (hb.mono HB8.out.size))
          clear hb HX8 HB8
          go_wp2
          go_roundw
          case rel => first | exact ⟨m + 1, by go_num, by omega, HB9.out⟩ | ((repeat apply Exists.intro); exact ⟨⟨m + 1, by go_num, by omega, HB9.out⟩, rfl⟩)
          case measure => first | (simp [intOf]; done) | (simp [intOf]; omega)
        · obtain rfl : m = 13 := by omega
          have HBe := Lib.hid hB
          clear hB
          go_wp2
          go_ret
          exact ⟨rfl, HBR.out.trans (HBe.out.mono HBR.out.size)⟩
end Go.Proofs.YthjjockimpndbaaDoor.frameKnownW
