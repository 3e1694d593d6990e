/- node.List: the parts of any database, all lists in new memory. Condition: no list of more than 2^47 bytes. -/
import Derived.Test.YtdibfkcddcjiiaaNodeKind
namespace Go.Proofs.Ytdibfkcddcjiiaa
open Go.RowKit Go.Bus Go.Bus.cellK Go.Bus.dbK
set_option linter.unusedVariables false
theorem Try.infoN : (Try.prog.info? 70).map (fun i => (i.zero, i.size, i.bytes)) = some (some .nilIface, 1, 16) := by kernel_rfl
namespace nodeL
open nodeC nodeK
def nodes (d : Db) : List Nd := (if d.hasV then [.ver d.ver] else []) ++ [.sta d.sta] ++ d.msgs.map .msg ++ d.tabs.map .tab
def ListP (w : World) (d : Db) (e : Ending) (w' : World) : Prop := ∃ v, e = .returned v ∧ OwD 1 ndO w' (Iv w.heap.size w'.heap.size) 0 70 v (nodes d) ∧ Below w.heap.size w w'
def dbA (d : Db) (sv mv tv : Value) : Array Value := #[.bool d.hasV, .int .i64 d.ver.line, .int .i64 d.ver.col, .string d.ver.text, .int .i64 d.sta.line, .int .i64 d.sta.col, sv, mv, tv]
/-- What the walk knows between two statements: the parts so far, the database in its box. -/
structure St (w wr : World) (d : Db) (sv mv tv v : Value) (l : List Nd) (xs : List Value) : Prop where
  row : OwX 1 ndO wr (Iv (w.heap.size + 1) wr.heap.size) (w.heap.size + 1) 70 v l xs
  box : Has wr w.heap.size 32 (dbA d sv mv tv)
  bel : Below w.heap.size w wr
  size : w.heap.size + 1 ≤ wr.heap.size
theorem St.push {w wr w1 w3 : World} {d : Db} {sv mv tv v v3 : Value} {l : List Nd} {xs c : List Value} {x : Nd} (h : St w wr d sv mv tv v l xs) (hb : Below wr.heap.size wr w1) (hq : ndQ w1 (Iv wr.heap.size w1.heap.size) c x)
    {o : Obj} {m n : Nat} (ho : w3.ownsRow (w.heap.size + 1) 70 1 v3 n (xs ++ [ndV c x])) (hn : n = l.length + 1) (hg : (w1.alloc o).grownBy w3 v.ownBlock) (hat : v3.ownBlock = v.ownBlock ∨ v3.ownBlock = some m) (hm : w1.heap.size + 1 ≤ m) :
    St w w3 d sv mv tv v3 (l ++ [x]) (xs ++ [ndV c x]) := by
  subst hn
  have hs1 := hb.size
  have hs3 := hg.size
  simp at hs3
  have hsz := h.size
  refine ⟨h.row.snoc ndO_mono (Nat.le_refl _) h.size hb ⟨c, rfl, hq⟩ rfl ((Below.refl _ _).alloc (Nat.le_refl _) _) hg ho ?_, ?_, ?_, by omega⟩
  · rcases hat with h1 | h1
    · exact .inl h1
    · exact .inr fun g hg' => by rw [h1] at hg'; cases hg'; simp; omega
  · refine Has.grown ((h.box.below hb (by omega)).alloc _) hg fun he => ?_
    have := (h.row.1.lt _ he.symm).1
    omega
  · refine Below.grown ((h.bel.trans (hb.mono (by omega))).alloc (by omega) _) hg (by simp; omega) fun r hr => ?_
    have := (h.row.1.lt r hr).1
    omega
theorem St.fin {w wr : World} {d : Db} {sv mv tv v : Value} {l : List Nd} {xs : List Value} (h : St w wr d sv mv tv v l xs) : OwD 1 ndO wr (Iv w.heap.size wr.heap.size) 0 70 v l := by
  obtain ⟨ho, hF, rest⟩ := h.row
  have h1 : OwX 1 ndO wr (Iv (w.heap.size + 1) wr.heap.size) 0 70 v l xs := ⟨own_base ho (Nat.zero_le _), hF, rest⟩
  exact ⟨xs, h1.keep ndO_mono (fun b hb => ⟨by have := hb.1; omega, hb.2⟩) fun _ _ => rfl⟩
theorem snoc_msgs {l : List Nd} {a : List Msg} {k : Nat} (h : k < a.length) : l ++ (a.take k).map Nd.msg ++ [.msg a[k]] = l ++ (a.take (k + 1)).map Nd.msg := by
  rw [List.take_succ_eq_append_getElem h, List.map_append, List.append_assoc]; rfl
theorem snoc_tabs {l : List Nd} {a : List Tab} {k : Nat} (h : k < a.length) : l ++ (a.take k).map Nd.tab ++ [.tab a[k]] = l ++ (a.take (k + 1)).map Nd.tab := by
  rw [List.take_succ_eq_append_getElem h, List.map_append, List.append_assoc]; rfl
theorem one_new1 (w : World) (o : Obj) (u : Value) (t : TypeId) : ∀ (j : Nat) (x : Value), [u][j]? = some x → ((w.alloc o).alloc (.cells #[u] t)).cell? ((⟨w.heap.size + 1, 0, none⟩ : Addr).add j) = some x := by
  have := one_new (w.alloc o) u t
  simpa using this
theorem oneV {u : Value} (h : u.oneCell' = true) : ∀ x ∈ [u], x.oneCell' = true := by
  intro x hx
  simp at hx
  subst hx
  exact h
set_option maxRecDepth 100000 in
set_option maxHeartbeats 4000000 in
theorem list_any (d : Db) (sv mv tv : Value) (F : Foot) (w : World) (hs : SlK 1 strE w F sv d.sta.names) (hm : SlK 8 msgE w F mv d.msgs) (ht : SlK 6 tabE w F tv d.tabs) (hF : ∀ b, F b → b < w.heap.size) (hok : DbOk d) :
    Calls Try.prog 6 #[.agg (dbCells d sv mv tv).toArray] w (ListP w d) := by
  obtain ⟨i0, hi, hz0, hz1, hz2⟩ := info_parts Try.infoN
  obtain ⟨hasV, ver, sta, msgs, tabs⟩ := d
  have b1 : msgs.length * 88 ≤ 140737488351232 := hok.mlen
  have b2 : tabs.length * 64 ≤ 140737488351232 := hok.tlen
  have b3 : sta.names.length * 16 ≤ 140737488351232 := hok.names
  simp only at hs hm ht
  have HS := Lib.hid (fun (w1 : World) (hb : Below w.heap.size w w1) => hs.belowF strE_mono hF hb)
  have HM := Lib.hid (fun (w1 : World) (hb : Below w.heap.size w w1) => hm.belowF msgE_mono hF hb)
  have HT := Lib.hid (fun (w1 : World) (hb : Below w.heap.size w w1) => ht.belowF tabE_mono hF hb)
  obtain ⟨Am, cm, rfl, hm1, hm2⟩ := hm.form
  obtain ⟨At, ct, rfl, ht1, ht2⟩ := ht.form
  have hm3 : cm ≤ 9223372036854775807 := by unfold maxLen at hm2; omega
  have ht3 : ct ≤ 9223372036854775807 := by unfold maxLen at ht2; omega
  clear hm2 ht2
  have HF := Lib.hid hF
  have HO := Lib.hid hok
  clear hs hm ht hF hok
  have HSt : ∀ hasV, Hid (St w (w.alloc (.cells (dbA ⟨hasV, ver, sta, msgs, tabs⟩ sv (.slice Am msgs.length cm) (.slice At tabs.length ct)) 32)) ⟨hasV, ver, sta, msgs, tabs⟩ sv (.slice Am msgs.length cm) (.slice At tabs.length ct) (.slice none 0 0) [] []) :=
    fun hasV => ⟨OwX.nil_ _ _ _ _ _ _, Has.new w _ _, (Below.refl _ _).alloc (Nat.le_refl _) _, by simp⟩
  cases hasV
  · replace HSt := HSt false
    show Calls Try.prog 6 #[.agg #[.bool false, .int .i64 ver.line, .int .i64 ver.col, .string ver.text, .int .i64 sta.line, .int .i64 sta.col, sv, .slice Am msgs.length cm, .slice At tabs.length ct]] w (ListP w ⟨false, ver, sta, msgs, tabs⟩)
    obtain ⟨l0, xs0, hl0, hn0, hst0⟩ : ∃ l0 xs0, Hid (l0.length ≤ 1) ∧ Hid (nodes ⟨false, ver, sta, msgs, tabs⟩ = l0 ++ [.sta sta] ++ msgs.map .msg ++ tabs.map .tab) ∧ Hid (St w (w.alloc (.cells (dbA ⟨false, ver, sta, msgs, tabs⟩ sv (.slice Am msgs.length cm) (.slice At tabs.length ct)) 32)) ⟨false, ver, sta, msgs, tabs⟩ sv (.slice Am msgs.length cm) (.slice At tabs.length ct) (.slice none 0 0) l0 xs0) := ⟨[], [], Lib.hid (by simp), Lib.hid rfl, HSt⟩
    clear HSt
    go_enter Try.func6, Try.ntmps6
    go_wp2_with fail
    refine (stations_any sta sv F _ (HS.out _ (by exact hst0.out.bel)) (fun b hb => Nat.lt_of_lt_of_le (HF.out b hb) (by exact Nat.le_of_succ_le hst0.out.size)) b3).mono ?_
    rintro e w3 ⟨c3, rfl, hq3, hb3⟩
    have HQ3 := Lib.hid hq3; have HB3 := Lib.hid hb3
    clear hq3 hb3
    have hb3' := HB3.out.size
    have hw3 : w.heap.size + 1 ≤ w3.heap.size := Nat.le_trans hst0.out.size hb3'
    clear hb3'
    have hl00 := hl0.out
    go_wp2_with (at_builtin; refine wpList_append_own_at _ rfl _ _ 34 rfl (w.heap.size + 1) 70 i0 .nilIface 1 16 Try.underlying34 hi hz0 hz1 hz2 rfl (by decide) _ l0.length xs0 rfl ((own_kept hst0.out.row.1 HB3.out).alloc _) ⟨w3.heap.size, 0, none⟩ 1 1 [ndV c3 (.sta sta)] rfl rfl (one_new w3 _ _) (oneV rfl) (by unfold maxLen; omega) (by omega) (by simp; omega) ?_)
    intro v4 w4 ho4 hg4 _ hat4
    have hst4 := Lib.hid (hst0.out.push (x := .sta sta) HB3.out HQ3.out ho4 (by simp) hg4 hat4 (by simp))
    have hw4 : w.heap.size + 1 ≤ w4.heap.size := hst4.out.size
    have c_w4_7 : w4.cell? ⟨w.heap.size, 7, none⟩ = some (.slice Am msgs.length cm) := hst4.out.box.cell 7
    clear ho4 hg4 hat4 hst0 HQ3 HB3 HS
    go_wp2
    go_loopw [3, 26] (fun v i wr => ∃ (k : Nat) (xs : List Value), i = .int .i64 k ∧ k ≤ msgs.length ∧ Hid (St w wr ⟨false, ver, sta, msgs, tabs⟩ sv (.slice Am msgs.length cm) (.slice At tabs.length ct) v (l0 ++ [.sta sta] ++ (msgs.take k).map .msg) xs)) (fun _ i _ => msgs.length - (intOf i).toNat)
    case atStart => exact ⟨0, _, rfl, Nat.zero_le _, Lib.hid (by rw [List.take_zero, List.map_nil, List.append_nil]; exact hst4.out)⟩
    case round =>
      clear hst4 c_w4_7
      obtain ⟨k, xs, rfl, hk, hst⟩ := hrel
      by_cases hlt : k < msgs.length
      · obtain ⟨b, off, cs, hA, hFb, hcl, hr, u, hcs, hsl⟩ := (HM.out _ hst.out.bel).at_ hlt
        obtain ⟨Au, cu, rfl, _, _⟩ := hsl.form
        subst hA hcs
        have hmem : msgs[k] ∈ msgs := List.getElem_mem hlt
        have hmo := HO.out.msgs _ hmem
        have hsn := snoc_msgs (l := l0 ++ [.sta sta]) hlt
        generalize msgs[k] = m at *
        have hq1 : m.sigs.length * 176 ≤ 140737488351232 := hmo.len
        have HQ1 := Lib.hid (fun (x : Sig) (hx : x ∈ m.sigs) => (hmo.sigs x hx).to)
        have HSL := Lib.hid (fun (o : Obj) => hsl.keep (w' := wr.alloc o) sigE_mono (fun _ h => h) (fun b hb => heap_alloc_old _ _ (Nat.lt_of_lt_of_le (HF.out b hb) (Nat.le_of_succ_le hst.out.size))))
        have HSN := Lib.hid hsn
        have c0 : wr.cell? ⟨b, off + k * 8, none⟩ = some (.int .i64 m.line) := hr 0 _ rfl
        have c1 : wr.cell? ⟨b, off + k * 8 + 1, none⟩ = some (.int .i64 m.col) := hr 1 _ rfl
        have c2 : wr.cell? ⟨b, off + k * 8 + 2, none⟩ = some (.int .u32 m.id) := hr 2 _ rfl
        have c3 : wr.cell? ⟨b, off + k * 8 + 3, none⟩ = some (.bool m.wide) := hr 3 _ rfl
        have c4 : wr.cell? ⟨b, off + k * 8 + 4, none⟩ = some (.string m.name) := hr 4 _ rfl
        have c5 : wr.cell? ⟨b, off + k * 8 + 5, none⟩ = some (.int .i64 m.size) := hr 5 _ rfl
        have c6 : wr.cell? ⟨b, off + k * 8 + 6, none⟩ = some (.string m.sender) := hr 6 _ rfl
        have c7 : wr.cell? ⟨b, off + k * 8 + 7, none⟩ = some (.slice Au m.sigs.length cu) := hr 7 _ rfl
        clear hmem hmo hsl hr hsn hcl hFb
        go_wp2_with fail
        refine (message_any m (.slice Au m.sigs.length cu) F _ (HSL.out _) (fun b hb => by have := HF.out b hb; have := hst.out.size; simp; omega) hq1 HQ1.out).mono ?_
        rintro e w5 ⟨d5, rfl, hq5, hb5⟩
        have hb6 : Below wr.heap.size wr w5 := Below.trans ((Below.refl _ _).alloc (Nat.le_refl _) _) (hb5.mono (by simp))
        have hq6 : ndQ w5 (Iv wr.heap.size w5.heap.size) d5 (.msg m) := msgO_mono _ _ _ _ _ _ (fun b hb => ⟨by have := hb.1; simp at this; omega, hb.2⟩) (fun _ _ => rfl) hq5
        have hw5 : w.heap.size + 1 ≤ w5.heap.size := Nat.le_trans hst.out.size hb6.size
        have HB6 := Lib.hid hb6; have HQ6 := Lib.hid hq6
        have hln : (l0 ++ [Nd.sta sta] ++ (msgs.take k).map Nd.msg).length ≤ 2 + k := by simp; omega
        clear hb5 hq5 hb6 hq6 c0 c1 c2 c3 c4 c5 c6 c7
        go_wp2_with (at_builtin; refine wpList_append_own_at _ rfl _ _ 34 rfl (w.heap.size + 1) 70 i0 .nilIface 1 16 Try.underlying34 hi hz0 hz1 hz2 rfl (by decide) _ (l0 ++ [Nd.sta sta] ++ (msgs.take k).map Nd.msg).length xs rfl ((own_kept hst.out.row.1 HB6.out).alloc _) ⟨w5.heap.size, 0, none⟩ 1 1 [ndV d5 (.msg m)] rfl rfl (one_new w5 _ _) (oneV rfl) (by unfold maxLen; omega) (by omega) (by simp; omega) ?_)
        intro v7 w7 ho7 hg7 _ hat7
        have hst7 := hst.out.push (x := .msg m) HB6.out HQ6.out ho7 (by simp; omega) hg7 hat7 (by simp)
        rw [HSN.out] at hst7
        have HST7 := Lib.hid hst7
        clear hst7 ho7 hg7 hat7 hln HQ6 HB6
        go_wp2
        go_roundw
        case rel => exact ⟨k + 1, _, by go_num, by omega, HST7⟩
        case measure => simp [intOf]; omega
      · obtain rfl : k = msgs.length := by omega
        have hst8 := hst.out
        rw [List.take_of_length_le (Nat.le_refl _)] at hst8
        have hst4 := Lib.hid hst8
        have hw8 : w.heap.size + 1 ≤ wr.heap.size := hst8.size
        have c_wr_8 : wr.cell? ⟨w.heap.size, 8, none⟩ = some (.slice At tabs.length ct) := hst8.box.cell 8
        clear hst8 hst hlt hk
        obtain ⟨wo, rfl⟩ : ∃ wo : World, wo = wr := ⟨_, rfl⟩
        go_wp2
        go_loopw [3, 40] (fun v i wr => ∃ (k : Nat) (xs : List Value), i = .int .i64 k ∧ k ≤ tabs.length ∧ Hid (St w wr ⟨false, ver, sta, msgs, tabs⟩ sv (.slice Am msgs.length cm) (.slice At tabs.length ct) v (l0 ++ [.sta sta] ++ msgs.map .msg ++ (tabs.take k).map .tab) xs)) (fun _ i _ => tabs.length - (intOf i).toNat)
        case atStart => exact ⟨0, _, rfl, Nat.zero_le _, Lib.hid (by rw [List.take_zero, List.map_nil, List.append_nil]; exact hst4.out)⟩
        case round =>
          clear hst4 c_wr_8
          obtain ⟨k, xs, rfl, hk, hst⟩ := hrel
          by_cases hlt : k < tabs.length
          · obtain ⟨b, off, cs, hA, hFb, hcl, hr, u, hcs, hsl⟩ := (HT.out _ hst.out.bel).at_ hlt
            obtain ⟨Au, cu, rfl, _, _⟩ := hsl.form
            subst hA hcs
            have hmem : tabs[k] ∈ tabs := List.getElem_mem hlt
            have hmo := HO.out.tabs _ hmem
            have hsn := snoc_tabs (l := l0 ++ [.sta sta] ++ msgs.map .msg) hlt
            generalize tabs[k] = m at *
            have hq1 : m.rows.length * 24 ≤ 140737488351232 := hmo.len
            have HSL := Lib.hid (fun (o : Obj) => hsl.keep (w' := wr.alloc o) rowE_mono (fun _ h => h) (fun b hb => heap_alloc_old _ _ (Nat.lt_of_lt_of_le (HF.out b hb) (Nat.le_of_succ_le hst.out.size))))
            have HSN := Lib.hid hsn
            have c0 : wr.cell? ⟨b, off + k * 6, none⟩ = some (.int .i64 m.line) := hr 0 _ rfl
            have c1 : wr.cell? ⟨b, off + k * 6 + 1, none⟩ = some (.int .i64 m.col) := hr 1 _ rfl
            have c2 : wr.cell? ⟨b, off + k * 6 + 2, none⟩ = some (.int .u32 m.id) := hr 2 _ rfl
            have c3 : wr.cell? ⟨b, off + k * 6 + 3, none⟩ = some (.bool m.wide) := hr 3 _ rfl
            have c4 : wr.cell? ⟨b, off + k * 6 + 4, none⟩ = some (.string m.signal) := hr 4 _ rfl
            have c5 : wr.cell? ⟨b, off + k * 6 + 5, none⟩ = some (.slice Au m.rows.length cu) := hr 5 _ rfl
            clear hmem hmo hsl hr hsn hcl hFb
            go_wp2_with fail
            refine (table_any m (.slice Au m.rows.length cu) F _ (HSL.out _) (fun b hb => by have := HF.out b hb; have := hst.out.size; simp; omega) hq1).mono ?_
            rintro e w5 ⟨d5, rfl, hq5, hb5⟩
            have hb6 : Below wr.heap.size wr w5 := Below.trans ((Below.refl _ _).alloc (Nat.le_refl _) _) (hb5.mono (by simp))
            have hq6 : ndQ w5 (Iv wr.heap.size w5.heap.size) d5 (.tab m) := tabO_mono _ _ _ _ _ _ (fun b hb => ⟨by have := hb.1; simp at this; omega, hb.2⟩) (fun _ _ => rfl) hq5
            have hw5 : w.heap.size + 1 ≤ w5.heap.size := Nat.le_trans hst.out.size hb6.size
            have HB6 := Lib.hid hb6; have HQ6 := Lib.hid hq6
            have hln : (l0 ++ [Nd.sta sta] ++ msgs.map Nd.msg ++ (tabs.take k).map Nd.tab).length ≤ 2 + msgs.length + k := by simp; omega
            clear hb5 hq5 hb6 hq6 c0 c1 c2 c3 c4 c5
            go_wp2_with (at_builtin; refine wpList_append_own_at _ rfl _ _ 34 rfl (w.heap.size + 1) 70 i0 .nilIface 1 16 Try.underlying34 hi hz0 hz1 hz2 rfl (by decide) _ (l0 ++ [Nd.sta sta] ++ msgs.map Nd.msg ++ (tabs.take k).map Nd.tab).length xs rfl ((own_kept hst.out.row.1 HB6.out).alloc _) ⟨w5.heap.size, 0, none⟩ 1 1 [ndV d5 (.tab m)] rfl rfl (one_new w5 _ _) (oneV rfl) (by unfold maxLen; omega) (by omega) (by simp; omega) ?_)
            intro v7 w7 ho7 hg7 _ hat7
            have hst7 := hst.out.push (x := .tab m) HB6.out HQ6.out ho7 (by simp; omega) hg7 hat7 (by simp)
            rw [HSN.out] at hst7
            have HST7 := Lib.hid hst7
            clear hst7 ho7 hg7 hat7 hln HQ6 HB6
            go_wp2
            go_roundw
            case rel => exact ⟨k + 1, _, by go_num, by omega, HST7⟩
            case measure => simp [intOf]; omega
          · obtain rfl : k = tabs.length := by omega
            have hst9 := hst.out
            rw [List.take_of_length_le (Nat.le_refl _), ← hn0.out] at hst9
            have HST9 := Lib.hid hst9
            clear hst9 hst
            go_wp2
            go_ret
            exact ⟨_, rfl, HST9.out.fin, HST9.out.bel⟩
  · replace HSt := HSt true
    show Calls Try.prog 6 #[.agg #[.bool true, .int .i64 ver.line, .int .i64 ver.col, .string ver.text, .int .i64 sta.line, .int .i64 sta.col, sv, .slice Am msgs.length cm, .slice At tabs.length ct]] w (ListP w ⟨true, ver, sta, msgs, tabs⟩)
    go_enter Try.func6, Try.ntmps6
    go_wp2_with (at_builtin; refine wpList_append_own_at _ rfl _ _ 34 rfl (w.heap.size + 1) 70 i0 .nilIface 1 16 Try.underlying34 hi hz0 hz1 hz2 rfl (by decide) (.slice none 0 0) 0 [] rfl (HSt.out.row.1.alloc _) ⟨w.heap.size + 1, 0, none⟩ 1 1 [ndV (verCells ver) (.ver ver)] rfl rfl ?c1 ?c2 ?c3 ?c4 ?c5 ?_)
    case c1 => exact one_new1 w _ _ _
    case c2 => exact oneV rfl
    case c3 => unfold maxLen; omega
    case c4 => omega
    case c5 => simp
    intro v2 w2 ho2 hg2 _ hat2
    obtain ⟨l0, xs0, hl0, hn0, hst0⟩ : ∃ l0 xs0, Hid (l0.length ≤ 1) ∧ Hid (nodes ⟨true, ver, sta, msgs, tabs⟩ = l0 ++ [.sta sta] ++ msgs.map .msg ++ tabs.map .tab) ∧ Hid (St w w2 ⟨true, ver, sta, msgs, tabs⟩ sv (.slice Am msgs.length cm) (.slice At tabs.length ct) v2 l0 xs0) :=
      ⟨_, _, Lib.hid (by simp), Lib.hid rfl, Lib.hid (HSt.out.push (x := .ver ver) (Below.refl _ _) rfl ho2 (by simp) hg2 hat2 (by simp))⟩
    have hw2 : w.heap.size + 1 ≤ w2.heap.size := hst0.out.size
    have c_w2_H_4 : w2.cell? ⟨w.heap.size, 4, none⟩ = some (.int .i64 sta.line) := hst0.out.box.cell 4; have f_w2_H_4 : w2.frozen? ⟨w.heap.size, 4, none⟩ = false := hst0.out.box.frozen 4; have c_w2_H_5 : w2.cell? ⟨w.heap.size, 5, none⟩ = some (.int .i64 sta.col) := hst0.out.box.cell 5; have f_w2_H_5 : w2.frozen? ⟨w.heap.size, 5, none⟩ = false := hst0.out.box.frozen 5; have c_w2_H_6 : w2.cell? ⟨w.heap.size, 6, none⟩ = some (sv) := hst0.out.box.cell 6; have f_w2_H_6 : w2.frozen? ⟨w.heap.size, 6, none⟩ = false := hst0.out.box.frozen 6
    clear HSt ho2 hg2 hat2
    go_wp2_with fail
    refine (stations_any sta sv F _ (HS.out _ (by exact hst0.out.bel)) (fun b hb => Nat.lt_of_lt_of_le (HF.out b hb) (by exact Nat.le_of_succ_le hst0.out.size)) b3).mono ?_
    rintro e w3 ⟨c3, rfl, hq3, hb3⟩
    have HQ3 := Lib.hid hq3; have HB3 := Lib.hid hb3
    clear hq3 hb3
    have hb3' := HB3.out.size
    have hw3 : w.heap.size + 1 ≤ w3.heap.size := Nat.le_trans hst0.out.size hb3'
    clear hb3'
    have hl00 := hl0.out
    go_wp2_with (at_builtin; refine wpList_append_own_at _ rfl _ _ 34 rfl (w.heap.size + 1) 70 i0 .nilIface 1 16 Try.underlying34 hi hz0 hz1 hz2 rfl (by decide) _ l0.length xs0 rfl ((own_kept hst0.out.row.1 HB3.out).alloc _) ⟨w3.heap.size, 0, none⟩ 1 1 [ndV c3 (.sta sta)] rfl rfl (one_new w3 _ _) (oneV rfl) (by unfold maxLen; omega) (by omega) (by simp; omega) ?_)
    intro v4 w4 ho4 hg4 _ hat4
    have hst4 := Lib.hid (hst0.out.push (x := .sta sta) HB3.out HQ3.out ho4 (by simp) hg4 hat4 (by simp))
    have hw4 : w.heap.size + 1 ≤ w4.heap.size := hst4.out.size
    have c_w4_7 : w4.cell? ⟨w.heap.size, 7, none⟩ = some (.slice Am msgs.length cm) := hst4.out.box.cell 7
    clear ho4 hg4 hat4 hst0 HQ3 HB3 HS
    go_wp2
    go_loopw [3, 26] (fun v i wr => ∃ (k : Nat) (xs : List Value), i = .int .i64 k ∧ k ≤ msgs.length ∧ Hid (St w wr ⟨true, ver, sta, msgs, tabs⟩ sv (.slice Am msgs.length cm) (.slice At tabs.length ct) v (l0 ++ [.sta sta] ++ (msgs.take k).map .msg) xs)) (fun _ i _ => msgs.length - (intOf i).toNat)
    case atStart => exact ⟨0, _, rfl, Nat.zero_le _, Lib.hid (by rw [List.take_zero, List.map_nil, List.append_nil]; exact hst4.out)⟩
    case round =>
      clear hst4 c_w4_7
      obtain ⟨k, xs, rfl, hk, hst⟩ := hrel
      by_cases hlt : k < msgs.length
      · obtain ⟨b, off, cs, hA, hFb, hcl, hr, u, hcs, hsl⟩ := (HM.out _ hst.out.bel).at_ hlt
        obtain ⟨Au, cu, rfl, _, _⟩ := hsl.form
        subst hA hcs
        have hmem : msgs[k] ∈ msgs := List.getElem_mem hlt
        have hmo := HO.out.msgs _ hmem
        have hsn := snoc_msgs (l := l0 ++ [.sta sta]) hlt
        generalize msgs[k] = m at *
        have hq1 : m.sigs.length * 176 ≤ 140737488351232 := hmo.len
        have HQ1 := Lib.hid (fun (x : Sig) (hx : x ∈ m.sigs) => (hmo.sigs x hx).to)
        have HSL := Lib.hid (fun (o : Obj) => hsl.keep (w' := wr.alloc o) sigE_mono (fun _ h => h) (fun b hb => heap_alloc_old _ _ (Nat.lt_of_lt_of_le (HF.out b hb) (Nat.le_of_succ_le hst.out.size))))
        have HSN := Lib.hid hsn
        have c0 : wr.cell? ⟨b, off + k * 8, none⟩ = some (.int .i64 m.line) := hr 0 _ rfl
        have c1 : wr.cell? ⟨b, off + k * 8 + 1, none⟩ = some (.int .i64 m.col) := hr 1 _ rfl
        have c2 : wr.cell? ⟨b, off + k * 8 + 2, none⟩ = some (.int .u32 m.id) := hr 2 _ rfl
        have c3 : wr.cell? ⟨b, off + k * 8 + 3, none⟩ = some (.bool m.wide) := hr 3 _ rfl
        have c4 : wr.cell? ⟨b, off + k * 8 + 4, none⟩ = some (.string m.name) := hr 4 _ rfl
        have c5 : wr.cell? ⟨b, off + k * 8 + 5, none⟩ = some (.int .i64 m.size) := hr 5 _ rfl
        have c6 : wr.cell? ⟨b, off + k * 8 + 6, none⟩ = some (.string m.sender) := hr 6 _ rfl
        have c7 : wr.cell? ⟨b, off + k * 8 + 7, none⟩ = some (.slice Au m.sigs.length cu) := hr 7 _ rfl
        clear hmem hmo hsl hr hsn hcl hFb
        go_wp2_with fail
        refine (message_any m (.slice Au m.sigs.length cu) F _ (HSL.out _) (fun b hb => by have := HF.out b hb; have := hst.out.size; simp; omega) hq1 HQ1.out).mono ?_
        rintro e w5 ⟨d5, rfl, hq5, hb5⟩
        have hb6 : Below wr.heap.size wr w5 := Below.trans ((Below.refl _ _).alloc (Nat.le_refl _) _) (hb5.mono (by simp))
        have hq6 : ndQ w5 (Iv wr.heap.size w5.heap.size) d5 (.msg m) := msgO_mono _ _ _ _ _ _ (fun b hb => ⟨by have := hb.1; simp at this; omega, hb.2⟩) (fun _ _ => rfl) hq5
        have hw5 : w.heap.size + 1 ≤ w5.heap.size := Nat.le_trans hst.out.size hb6.size
        have HB6 := Lib.hid hb6; have HQ6 := Lib.hid hq6
        have hln : (l0 ++ [Nd.sta sta] ++ (msgs.take k).map Nd.msg).length ≤ 2 + k := by simp; omega
        clear hb5 hq5 hb6 hq6 c0 c1 c2 c3 c4 c5 c6 c7
        go_wp2_with (at_builtin; refine wpList_append_own_at _ rfl _ _ 34 rfl (w.heap.size + 1) 70 i0 .nilIface 1 16 Try.underlying34 hi hz0 hz1 hz2 rfl (by decide) _ (l0 ++ [Nd.sta sta] ++ (msgs.take k).map Nd.msg).length xs rfl ((own_kept hst.out.row.1 HB6.out).alloc _) ⟨w5.heap.size, 0, none⟩ 1 1 [ndV d5 (.msg m)] rfl rfl (one_new w5 _ _) (oneV rfl) (by unfold maxLen; omega) (by omega) (by simp; omega) ?_)
        intro v7 w7 ho7 hg7 _ hat7
        have hst7 := hst.out.push (x := .msg m) HB6.out HQ6.out ho7 (by simp; omega) hg7 hat7 (by simp)
        rw [HSN.out] at hst7
        have HST7 := Lib.hid hst7
        clear hst7 ho7 hg7 hat7 hln HQ6 HB6
        go_wp2
        go_roundw
        case rel => exact ⟨k + 1, _, by go_num, by omega, HST7⟩
        case measure => simp [intOf]; omega
      · obtain rfl : k = msgs.length := by omega
        have hst8 := hst.out
        rw [List.take_of_length_le (Nat.le_refl _)] at hst8
        have hst4 := Lib.hid hst8
        have hw8 : w.heap.size + 1 ≤ wr.heap.size := hst8.size
        have c_wr_8 : wr.cell? ⟨w.heap.size, 8, none⟩ = some (.slice At tabs.length ct) := hst8.box.cell 8
        clear hst8 hst hlt hk
        obtain ⟨wo, rfl⟩ : ∃ wo : World, wo = wr := ⟨_, rfl⟩
        go_wp2
        go_loopw [3, 40] (fun v i wr => ∃ (k : Nat) (xs : List Value), i = .int .i64 k ∧ k ≤ tabs.length ∧ Hid (St w wr ⟨true, ver, sta, msgs, tabs⟩ sv (.slice Am msgs.length cm) (.slice At tabs.length ct) v (l0 ++ [.sta sta] ++ msgs.map .msg ++ (tabs.take k).map .tab) xs)) (fun _ i _ => tabs.length - (intOf i).toNat)
        case atStart => exact ⟨0, _, rfl, Nat.zero_le _, Lib.hid (by rw [List.take_zero, List.map_nil, List.append_nil]; exact hst4.out)⟩
        case round =>
          clear hst4 c_wr_8
          obtain ⟨k, xs, rfl, hk, hst⟩ := hrel
          by_cases hlt : k < tabs.length
          · obtain ⟨b, off, cs, hA, hFb, hcl, hr, u, hcs, hsl⟩ := (HT.out _ hst.out.bel).at_ hlt
            obtain ⟨Au, cu, rfl, _, _⟩ := hsl.form
            subst hA hcs
            have hmem : tabs[k] ∈ tabs := List.getElem_mem hlt
            have hmo := HO.out.tabs _ hmem
            have hsn := snoc_tabs (l := l0 ++ [.sta sta] ++ msgs.map .msg) hlt
            generalize tabs[k] = m at *
            have hq1 : m.rows.length * 24 ≤ 140737488351232 := hmo.len
            have HSL := Lib.hid (fun (o : Obj) => hsl.keep (w' := wr.alloc o) rowE_mono (fun _ h => h) (fun b hb => heap_alloc_old _ _ (Nat.lt_of_lt_of_le (HF.out b hb) (Nat.le_of_succ_le hst.out.size))))
            have HSN := Lib.hid hsn
            have c0 : wr.cell? ⟨b, off + k * 6, none⟩ = some (.int .i64 m.line) := hr 0 _ rfl
            have c1 : wr.cell? ⟨b, off + k * 6 + 1, none⟩ = some (.int .i64 m.col) := hr 1 _ rfl
            have c2 : wr.cell? ⟨b, off + k * 6 + 2, none⟩ = some (.int .u32 m.id) := hr 2 _ rfl
            have c3 : wr.cell? ⟨b, off + k * 6 + 3, none⟩ = some (.bool m.wide) := hr 3 _ rfl
            have c4 : wr.cell? ⟨b, off + k * 6 + 4, none⟩ = some (.string m.signal) := hr 4 _ rfl
            have c5 : wr.cell? ⟨b, off + k * 6 + 5, none⟩ = some (.slice Au m.rows.length cu) := hr 5 _ rfl
            clear hmem hmo hsl hr hsn hcl hFb
            go_wp2_with fail
            refine (table_any m (.slice Au m.rows.length cu) F _ (HSL.out _) (fun b hb => by have := HF.out b hb; have := hst.out.size; simp; omega) hq1).mono ?_
            rintro e w5 ⟨d5, rfl, hq5, hb5⟩
            have hb6 : Below wr.heap.size wr w5 := Below.trans ((Below.refl _ _).alloc (Nat.le_refl _) _) (hb5.mono (by simp))
            have hq6 : ndQ w5 (Iv wr.heap.size w5.heap.size) d5 (.tab m) := tabO_mono _ _ _ _ _ _ (fun b hb => ⟨by have := hb.1; simp at this; omega, hb.2⟩) (fun _ _ => rfl) hq5
            have hw5 : w.heap.size + 1 ≤ w5.heap.size := Nat.le_trans hst.out.size hb6.size
            have HB6 := Lib.hid hb6; have HQ6 := Lib.hid hq6
            have hln : (l0 ++ [Nd.sta sta] ++ msgs.map Nd.msg ++ (tabs.take k).map Nd.tab).length ≤ 2 + msgs.length + k := by simp; omega
            clear hb5 hq5 hb6 hq6 c0 c1 c2 c3 c4 c5
            go_wp2_with (at_builtin; refine wpList_append_own_at _ rfl _ _ 34 rfl (w.heap.size + 1) 70 i0 .nilIface 1 16 Try.underlying34 hi hz0 hz1 hz2 rfl (by decide) _ (l0 ++ [Nd.sta sta] ++ msgs.map Nd.msg ++ (tabs.take k).map Nd.tab).length xs rfl ((own_kept hst.out.row.1 HB6.out).alloc _) ⟨w5.heap.size, 0, none⟩ 1 1 [ndV d5 (.tab m)] rfl rfl (one_new w5 _ _) (oneV rfl) (by unfold maxLen; omega) (by omega) (by simp; omega) ?_)
            intro v7 w7 ho7 hg7 _ hat7
            have hst7 := hst.out.push (x := .tab m) HB6.out HQ6.out ho7 (by simp; omega) hg7 hat7 (by simp)
            rw [HSN.out] at hst7
            have HST7 := Lib.hid hst7
            clear hst7 ho7 hg7 hat7 hln HQ6 HB6
            go_wp2
            go_roundw
            case rel => exact ⟨k + 1, _, by go_num, by omega, HST7⟩
            case measure => simp [intOf]; omega
          · obtain rfl : k = tabs.length := by omega
            have hst9 := hst.out
            rw [List.take_of_length_le (Nat.le_refl _), ← hn0.out] at hst9
            have HST9 := Lib.hid hst9
            clear hst9 hst
            go_wp2
            go_ret
            exact ⟨_, rfl, HST9.out.fin, HST9.out.bel⟩
end nodeL
end Go.Proofs.Ytdibfkcddcjiiaa
