/- busbarlaw05.told: a database's parts are told so. Condition: no list of more than 2^47 bytes. -/
import Derived.Test.YtdibfkcddcjiiaaNodeKinds
import Derived.Test.YtdibfkcddcjiiaaSameM
import Derived.Test.YtdibfkcddcjiiaaNodeFind
import Derived.Deep.RegionHeld3
namespace Go.Proofs.Ytdibfkcddcjiiaa
open Go.RowKit Go.Bus Go.Bus.cellK Go.Bus.dbK
set_option linter.unusedVariables false
set_option linter.unusedSimpArgs false
namespace nodeT
open nodeC nodeK nodeL
theorem inv_ver (x : Value) (w : World) : (callMethod (.iface 25 x) "Where" #[]).run Try.prog w = .ok (.enter 99 #[x]) w := by kernel_rfl
theorem inv_msg (x : Value) (w : World) : (callMethod (.iface 62 x) "Where" #[]).run Try.prog w = .ok (.enter 101 #[x]) w := by kernel_rfl
theorem inv_tab (x : Value) (w : World) : (callMethod (.iface 79 x) "Where" #[]).run Try.prog w = .ok (.enter 102 #[x]) w := by kernel_rfl
set_option maxRecDepth 100000 in
set_option maxHeartbeats 1000000 in
theorem where_ver (x : Ver) (w : World) : Calls Try.prog 99 #[.agg (verCells x).toArray] w fun e w' => e = .returned (.agg #[.int .i64 x.line, .int .i64 x.col]) ∧ Below w.heap.size w w' := by
  simp only [verCells]
  go_enter Try.func99, Try.ntmps99
  go_wp2
  refine bodyPost_ret (v := .agg #[.int .i64 x.line, .int .i64 x.col]) (by simp [results, Try.results99, go_sem]) rfl ?_
  exact ⟨rfl, by exact (by repeat' (first | (with_reducible assumption) | (with_reducible refine Below.setCell ?_ ?_ _) | (with_reducible refine Below.alloc ?_ ?_ _) | (with_reducible refine Below.drew ?_) | (with_reducible refine below_drewN ?_ _) | (with_reducible exact Below.refl _ _) | (show _ ≤ _; (try simp); (try omega); done) | exact Below.refl _ _ | assumption))⟩
set_option maxRecDepth 100000 in
set_option maxHeartbeats 1000000 in
theorem where_msg (x : Msg) (v : Value) (w : World) : Calls Try.prog 101 #[.agg (msgCells x v).toArray] w fun e w' => e = .returned (.agg #[.int .i64 x.line, .int .i64 x.col]) ∧ Below w.heap.size w w' := by
  simp only [msgCells]
  go_enter Try.func101, Try.ntmps101
  go_wp2
  refine bodyPost_ret (v := .agg #[.int .i64 x.line, .int .i64 x.col]) (by simp [results, Try.results101, go_sem]) rfl ?_
  exact ⟨rfl, by exact (by repeat' (first | (with_reducible assumption) | (with_reducible refine Below.setCell ?_ ?_ _) | (with_reducible refine Below.alloc ?_ ?_ _) | (with_reducible refine Below.drew ?_) | (with_reducible refine below_drewN ?_ _) | (with_reducible exact Below.refl _ _) | (show _ ≤ _; (try simp); (try omega); done) | exact Below.refl _ _ | assumption))⟩
set_option maxRecDepth 100000 in
set_option maxHeartbeats 1000000 in
theorem where_tab (x : Tab) (v : Value) (w : World) : Calls Try.prog 102 #[.agg (tabCells x v).toArray] w fun e w' => e = .returned (.agg #[.int .i64 x.line, .int .i64 x.col]) ∧ Below w.heap.size w w' := by
  simp only [tabCells]
  go_enter Try.func102, Try.ntmps102
  go_wp2
  refine bodyPost_ret (v := .agg #[.int .i64 x.line, .int .i64 x.col]) (by simp [results, Try.results102, go_sem]) rfl ?_
  exact ⟨rfl, by exact (by repeat' (first | (with_reducible assumption) | (with_reducible refine Below.setCell ?_ ?_ _) | (with_reducible refine Below.alloc ?_ ?_ _) | (with_reducible refine Below.drew ?_) | (with_reducible refine below_drewN ?_ _) | (with_reducible exact Below.refl _ _) | (show _ ≤ _; (try simp); (try omega); done) | exact Below.refl _ _ | assumption))⟩
def msgsOf : List Nd → List Msg
  | [] => []
  | .msg m :: l => m :: msgsOf l
  | .ver _ :: l => msgsOf l
  | .sta _ :: l => msgsOf l
  | .tab _ :: l => msgsOf l
def tabsOf : List Nd → List Tab
  | [] => []
  | .tab m :: l => m :: tabsOf l
  | .ver _ :: l => tabsOf l
  | .sta _ :: l => tabsOf l
  | .msg _ :: l => tabsOf l
theorem msgsOf_app (a b : List Nd) : msgsOf (a ++ b) = msgsOf a ++ msgsOf b := by
  induction a with
  | nil => rfl
  | cons x t ih => cases x <;> simp [msgsOf, ih]
theorem tabsOf_app (a b : List Nd) : tabsOf (a ++ b) = tabsOf a ++ tabsOf b := by
  induction a with
  | nil => rfl
  | cons x t ih => cases x <;> simp [tabsOf, ih]
theorem msgs_nodes (d : Db) : msgsOf (nodes d) = d.msgs := by
  have e1 : ∀ l : List Msg, msgsOf (l.map .msg) = l := by intro l; induction l with | nil => rfl | cons x t ih => rw [List.map_cons, msgsOf, ih]
  have e2 : ∀ l : List Tab, msgsOf (l.map .tab) = [] := by intro l; induction l with | nil => rfl | cons x t ih => rw [List.map_cons, msgsOf, ih]
  unfold nodes
  rw [msgsOf_app, msgsOf_app, msgsOf_app, e1, e2]
  cases d.hasV <;> simp [msgsOf]
theorem tabs_nodes (d : Db) : tabsOf (nodes d) = d.tabs := by
  have e1 : ∀ l : List Msg, tabsOf (l.map .msg) = [] := by intro l; induction l with | nil => rfl | cons x t ih => rw [List.map_cons, tabsOf, ih]
  have e2 : ∀ l : List Tab, tabsOf (l.map .tab) = l := by intro l; induction l with | nil => rfl | cons x t ih => rw [List.map_cons, tabsOf, ih]
  unfold nodes
  rw [tabsOf_app, tabsOf_app, tabsOf_app, e1, e2]
  cases d.hasV <;> simp [tabsOf]
theorem cut_at {l : List Nd} {i : Nat} {x : Nd} (h : l[i]? = some x) : l = l.take i ++ x :: l.drop (i + 1) ∧ l.take (i + 1) = l.take i ++ [x] := by
  obtain ⟨hi, he⟩ := List.getElem?_eq_some_iff.1 h
  refine ⟨?_, ?_⟩
  · rw [← he, ← List.drop_eq_getElem_cons hi, List.take_append_drop]
  · rw [List.take_succ_eq_append_getElem hi, he]
theorem msgs_at {l : List Nd} {i : Nat} {m : Msg} (h : l[i]? = some (.msg m)) : (msgsOf l)[(msgsOf (l.take i)).length]? = some m := by
  have h1 := congrArg msgsOf (cut_at h).1
  rw [msgsOf_app] at h1
  rw [h1, List.getElem?_append_right (Nat.le_refl _), Nat.sub_self]
  rfl
theorem tabs_at {l : List Nd} {i : Nat} {m : Tab} (h : l[i]? = some (.tab m)) : (tabsOf l)[(tabsOf (l.take i)).length]? = some m := by
  have h1 := congrArg tabsOf (cut_at h).1
  rw [tabsOf_app] at h1
  rw [h1, List.getElem?_append_right (Nat.le_refl _), Nat.sub_self]
  rfl
theorem node_is {d : Db} {x : Nd} (h : x ∈ nodes d) : (∀ v, x = .ver v → v = d.ver) ∧ (∀ s, x = .sta s → s = d.sta) := by
  unfold nodes at h
  rw [List.mem_append, List.mem_append, List.mem_append] at h
  rcases h with ((h | h) | h) | h
  · split at h
    · simp at h; subst h; exact ⟨fun v hv => (by cases hv; rfl), fun s hs => (by cases hs)⟩
    · cases h
  · simp at h; subst h; exact ⟨fun v hv => (by cases hv), fun s hs => (by cases hs; rfl)⟩
  · obtain ⟨m, _, rfl⟩ := List.mem_map.1 h; exact ⟨fun v hv => (by cases hv), fun s hs => (by cases hs)⟩
  · obtain ⟨m, _, rfl⟩ := List.mem_map.1 h; exact ⟨fun v hv => (by cases hv), fun s hs => (by cases hs)⟩
/-- Four boxes, one behind the other. -/
theorem four_box (w : World) (a b c d : Array Value) (s t u v : TypeId) : Has ((((w.alloc (.cells a s)).alloc (.cells b t)).alloc (.cells c u)).alloc (.cells d v)) w.heap.size s a ∧ Has ((((w.alloc (.cells a s)).alloc (.cells b t)).alloc (.cells c u)).alloc (.cells d v)) (w.heap.size + 1) t b ∧ Has ((((w.alloc (.cells a s)).alloc (.cells b t)).alloc (.cells c u)).alloc (.cells d v)) (w.heap.size + 1 + 1) u c ∧ Has ((((w.alloc (.cells a s)).alloc (.cells b t)).alloc (.cells c u)).alloc (.cells d v)) (w.heap.size + 1 + 1 + 1) v d ∧ Below w.heap.size w ((((w.alloc (.cells a s)).alloc (.cells b t)).alloc (.cells c u)).alloc (.cells d v)) := by
  have e : (((w.alloc (.cells a s)).alloc (.cells b t)).alloc (.cells c u)).heap.size = w.heap.size + 1 + 1 + 1 := by simp
  refine ⟨(((Has.new w s a).alloc _).alloc _).alloc _, ((Has.new1 w _ t b).alloc _).alloc _, (Has.new2 w _ _ u c).alloc _, ?_, ((((Below.refl _ _).alloc (Nat.le_refl _) _).alloc (by simp) _).alloc (by simp; omega) _).alloc (by simp; omega) _⟩
  have h := Has.new (((w.alloc (.cells a s)).alloc (.cells b t)).alloc (.cells c u)) v d
  rw [e] at h
  exact h
set_option maxRecDepth 100000 in
set_option maxHeartbeats 4000000 in
theorem told_any (v : Value) (d : Db) (sv mv tv : Value) (F : Foot) (w : World) (h : SlK 1 ndE w F v (nodes d)) (hs : SlK 1 strE w F sv d.sta.names) (hm : SlK 8 msgE w F mv d.msgs) (ht : SlK 6 tabE w F tv d.tabs) (hF : ∀ b, F b → b < w.heap.size) (hok : DbOk d) :
    Calls Try.prog 7 #[v, .agg (dbCells d sv mv tv).toArray] w fun e w' => e = .returned (.bool true) ∧ Below w.heap.size w w' := by
  obtain ⟨A, cap, rfl, n1, n2⟩ := h.form
  obtain ⟨Am, cm, rfl, _, m2⟩ := hm.form
  obtain ⟨At, ct, rfl, _, t2⟩ := ht.form
  unfold maxLen at n2 m2 t2
  have HK := Lib.hid (fun W => kinds_any d sv (.slice Am d.msgs.length cm) (.slice At d.tabs.length ct) W ⟨_, _, rfl⟩ ⟨_, _, rfl⟩ hok.mlen hok.tlen)
  have HH := Lib.hid h
  have HM := Lib.hid hm
  have HT := Lib.hid ht
  have HS := Lib.hid hs
  have HF := Lib.hid hF
  have hmb : d.msgs.length ≤ 3000000000000 := by have := hok.mlen; omega
  have htb : d.tabs.length ≤ 3000000000000 := by have := hok.tlen; omega
  clear h hm ht hs hF hok
  have HIS := Lib.hid (fun (i : Nat) (x : Nd) (hx : (nodes d)[i]? = some x) => node_is (List.mem_of_getElem? hx))
  have HMS := Lib.hid (fun (i : Nat) (m : Msg) (hx : (nodes d)[i]? = some (.msg m)) => by have := msgs_at hx; rwa [msgs_nodes] at this)
  have HTS := Lib.hid (fun (i : Nat) (m : Tab) (hx : (nodes d)[i]? = some (.tab m)) => by have := tabs_at hx; rwa [tabs_nodes] at this)
  have HC0 := Lib.hid (show w.alloc (.cells (dbCells d sv (.slice Am d.msgs.length cm) (.slice At d.tabs.length ct)).toArray 32) = w.alloc (.cells (dbCells d sv (.slice Am d.msgs.length cm) (.slice At d.tabs.length ct)).toArray 32) from rfl)
  have HX0 := Lib.hid (Has.new w 32 (dbCells d sv (.slice Am d.msgs.length cm) (.slice At d.tabs.length ct)).toArray)
  obtain ⟨N, hN⟩ : ∃ N, N = nodes d := ⟨_, rfl⟩
  unfold KindsP at HK
  rw [← hN] at HK HH HIS HMS HTS n1 ⊢
  clear hN
  simp only [dbCells] at HK HX0 ⊢
  go_enter Try.func7, Try.ntmps7
  go_wp2_with fail
  refine (HK.out _).mono ?_
  rintro e w1 ⟨kv, rfl, hk1, hb1⟩
  obtain ⟨Ak, ck, rfl⟩ : ∃ A c, kv = .slice A N.length c := by
    obtain ⟨A, c, hv, _, _⟩ := (Sl.of_own (f := fun x => rv x) (l := N) hk1).form
    exact ⟨A, c, hv⟩
  have HKS := Lib.hid (Sl.of_own (f := fun x => rv x) (l := N) hk1)
  have HX1 := Lib.hid (HX0.out.below hb1 (by exact HX0.out.lt))
  have HB1 : Hid (Below w.heap.size w w1) := Lib.hid (Below.trans ((Below.refl _ _).alloc (Nat.le_refl _) _) (hb1.mono (by simp)))
  have hw1 : w.heap.size < w1.heap.size := HX1.out.lt
  clear hk1 hb1 HX0 HK
  go_wp2
  go_loopw [8, 7, 6] (fun i t m wr => ∃ k : Nat, i = .int .i64 k ∧ k ≤ N.length ∧ m = .int .i64 ((msgsOf (N.take k)).length : Nat) ∧ t = .int .i64 ((tabsOf (N.take k)).length : Nat) ∧ Hid (Below w1.heap.size w1 wr)) (fun i _ _ _ => N.length - (intOf i).toNat)
  case atStart => exact ⟨0, rfl, Nat.zero_le _, by simp [msgsOf], by simp [tabsOf], Below.refl _ _⟩
  case round =>
    obtain ⟨k, rfl, hk, rfl, rfl, HB⟩ := hrel
    by_cases hlt : k < N.length
    · obtain ⟨x, hx⟩ : ∃ x, N[k]? = some x := ⟨_, List.getElem?_eq_getElem hlt⟩
      have hBw : Below w.heap.size w wr := HB1.out.trans (HB.out.mono HB1.out.size)
      have hin := HH.out.at_ (A := A) hlt
      obtain ⟨b, off, cs, rfl, hFb, hl1, hr, he⟩ := hin
      have hxe : N[k] = x := (List.getElem?_eq_some_iff.1 hx).2
      rw [hxe] at he
      obtain ⟨c, rfl, he⟩ := he
      have hbl : b < w.heap.size := HF.out b hFb
      have c0 : wr.cell? ⟨b, off + k, none⟩ = some (ndV c x) := by have := (hBw.cell (p := ⟨b, off + k * 1, none⟩) hbl).trans (hr 0 _ rfl); rwa [Nat.mul_one] at this
      obtain ⟨gk, ok, hAk, hgk, hkc⟩ : ∃ g o, Ak = some ⟨g, o, none⟩ ∧ g < w1.heap.size ∧ ∀ (i : Nat) y, N[i]? = some y → w1.cell? ⟨g, o + i, none⟩ = some (rv y) := by
        obtain ⟨A', c', e, _, _, h3⟩ := HKS.out
        obtain ⟨rfl, _, _⟩ : Ak = A' ∧ N.length = N.length ∧ ck = c' := by simpa using e
        obtain ⟨g, o, e1, e2, e3⟩ := h3 (by omega)
        exact ⟨g, o, e1, e2, e3⟩
      subst hAk
      have k0 : wr.cell? ⟨gk, ok + k, none⟩ = some (rv x) := (HB.out.cell (p := ⟨gk, ok + k, none⟩) hgk).trans (hkc k x hx)
      have hXr := HX1.out.below HB.out hw1
      have HXR := Lib.hid hXr
      have HHX := Lib.hid hx
      have HE := Lib.hid he
      have HBW := Lib.hid hBw
      have hcut := (cut_at hx).2
      have hgkr : gk < wr.heap.size := Nat.lt_of_lt_of_le hgk HB.out.size
      have hblr : b < wr.heap.size := Nat.lt_of_lt_of_le hbl hBw.size
      have hwr1 : w.heap.size < wr.heap.size := hXr.lt
      have hbl1 : b < wr.heap.size + 1 := by omega
      have hbl2 : b < wr.heap.size + 1 + 1 := by omega
      have hbl3 : b < wr.heap.size + 1 + 1 + 1 := by omega
      have hgk1 : gk < wr.heap.size + 1 := by omega
      have hgk2 : gk < wr.heap.size + 1 + 1 := by omega
      have hgk3 : gk < wr.heap.size + 1 + 1 + 1 := by omega
      clear hr hl1 hkc hx hXr he hBw hxe
      cases x with
      | ver x =>
        obtain rfl := (HIS.out k _ HHX.out).1 _ rfl
        obtain rfl : c = verCells d.ver := HE.out
        have HWH := Lib.hid (where_ver d.ver)
        have a_ver := as_ver_ver (.agg (verCells d.ver).toArray)
        have a_sta := as_ver_sta (.agg (verCells d.ver).toArray)
        have a_msg := as_ver_msg (.agg (verCells d.ver).toArray)
        have a_tab := as_ver_tab (.agg (verCells d.ver).toArray)
        have iv := inv_ver (.agg (verCells d.ver).toArray)
        have hfb := four_box wr (verCells d.ver).toArray staZ msgZ tabZ 25 28 62 79
        simp only [ndV, rv, rank, verCells, verZ, staZ, msgZ, tabZ] at c0 k0 a_ver a_sta a_msg a_tab hfb iv HWH
        have hc5 : ((((wr.alloc (.cells #[.int .i64 d.ver.line, .int .i64 d.ver.col, .string d.ver.text] 25)).alloc (.cells #[.int .i64 0, .int .i64 0, .slice none 0 0] 28)).alloc (.cells #[.int .i64 0, .int .i64 0, .int .u32 0, .bool false, .string ⟨#[]⟩, .int .i64 0, .string ⟨#[]⟩, .slice none 0 0] 62)).alloc (.cells #[.int .i64 0, .int .i64 0, .int .u32 0, .bool false, .string ⟨#[]⟩, .slice none 0 0] 79)).cell? ⟨b, off + k, none⟩ = wr.cell? ⟨b, off + k, none⟩ := hfb.2.2.2.2.cell (p := ⟨b, off + k, none⟩) hblr
        rw [c0] at hc5
        have HFB := Lib.hid hfb
        have HC5 := Lib.hid hc5
        clear HE hfb hc5
        go_wp2
        generalize ((((wr.alloc (.cells #[.int .i64 d.ver.line, .int .i64 d.ver.col, .string d.ver.text] 25)).alloc (.cells #[.int .i64 0, .int .i64 0, .slice none 0 0] 28)).alloc (.cells #[.int .i64 0, .int .i64 0, .int .u32 0, .bool false, .string ⟨#[]⟩, .int .i64 0, .string ⟨#[]⟩, .slice none 0 0] 62)).alloc (.cells #[.int .i64 0, .int .i64 0, .int .u32 0, .bool false, .string ⟨#[]⟩, .slice none 0 0] 79)) = w5 at HFB HC5 ⊢
        have hlt5 : w.heap.size < w5.heap.size := Nat.lt_of_lt_of_le hwr1 HFB.out.2.2.2.2.size
        have hb5 : b < w5.heap.size := Nat.lt_of_lt_of_le hblr HFB.out.2.2.2.2.size
        have HX5 := Lib.hid (HXR.out.below HFB.out.2.2.2.2 hwr1)
        have HB5 : Hid (Below w1.heap.size w1 w5) := Lib.hid (HB.out.trans (HFB.out.2.2.2.2.mono HB.out.size))
        clear a_ver a_sta a_msg a_tab c0 k0 hbl1 hbl2 hbl3 hgk1 hgk2 hgk3
        have CELLS : Hid (∀ W, Below w5.heap.size w5 W → W.cell? ⟨wr.heap.size, 0, none⟩ = some (.int .i64 d.ver.line) ∧ W.cell? ⟨wr.heap.size, 1, none⟩ = some (.int .i64 d.ver.col) ∧ W.cell? ⟨wr.heap.size, 2, none⟩ = some (.string d.ver.text) ∧ W.cell? ⟨w.heap.size, 1, none⟩ = some (.int .i64 d.ver.line) ∧ W.cell? ⟨w.heap.size, 2, none⟩ = some (.int .i64 d.ver.col) ∧ W.cell? ⟨w.heap.size, 3, none⟩ = some (.string d.ver.text) ∧ W.cell? ⟨b, off + k, none⟩ = some (.iface 25 (.agg #[.int .i64 d.ver.line, .int .i64 d.ver.col, .string d.ver.text]))) := fun W hW => ⟨(hW.cell (p := ⟨wr.heap.size, 0, none⟩) HFB.out.1.lt).trans ((HFB.out.1.cell 0).trans rfl), (hW.cell (p := ⟨wr.heap.size, 1, none⟩) HFB.out.1.lt).trans ((HFB.out.1.cell 1).trans rfl), (hW.cell (p := ⟨wr.heap.size, 2, none⟩) HFB.out.1.lt).trans ((HFB.out.1.cell 2).trans rfl), (hW.cell (p := ⟨w.heap.size, 1, none⟩) hlt5).trans ((HX5.out.cell 1).trans rfl), (hW.cell (p := ⟨w.heap.size, 2, none⟩) hlt5).trans ((HX5.out.cell 2).trans rfl), (hW.cell (p := ⟨w.heap.size, 3, none⟩) hlt5).trans ((HX5.out.cell 3).trans rfl), (hW.cell (p := ⟨b, off + k, none⟩) hb5).trans (HC5.out)⟩
        refine wp_region_held (S := (fun W => Below w5.heap.size w5 W)) (by kernel_rfl) ?_
        refine wpAnyH_take (i := 0) (oi := { dst := some 96, op := Op.move (Operand.tmp 10), type := 4, pos := "law.go:37", after := #[], guard := none }) (v := ?_) rfl (by kernel_rfl) (by kernel_rfl) (by kernel_rfl) (fun _ _ _ h => h) (Or.inl ⟨by rfl, ?_⟩) (by exact (Below.refl w5.heap.size w5).drew) ?_
        rotate_left; focus (intro W hW; go_simp; try with_reducible rfl)
        (try simp only [Act.put, List.setIfInBounds_toArray, List.set_cons_zero, List.set_cons_succ])
        refine wpAnyH_take (i := 1) (oi := { dst := some 97, op := Op.move (Operand.tmp 96), type := 4, pos := "law.go:37", after := #[{ on := 0, ground := Ground.data }], guard := none }) (v := ?_) rfl (by kernel_rfl) (by kernel_rfl) (by kernel_rfl) (fun _ _ _ h => h) (Or.inl ⟨by rfl, ?_⟩) (by exact (Below.refl w5.heap.size w5).drew) ?_
        rotate_left; focus (intro W hW; go_simp; try with_reducible rfl)
        (try simp only [Act.put, List.setIfInBounds_toArray, List.set_cons_zero, List.set_cons_succ])
        refine wpAnyH_take (i := 2) (oi := { dst := some 98, op := Op.load 25 (Operand.tmp 9), type := 25, pos := "law.go:37", after := #[{ on := 1, ground := Ground.guard }], guard := some (1, true) }) (v := ?_) rfl (by kernel_rfl) (by kernel_rfl) (by kernel_rfl) (fun _ _ _ h => h) (Or.inl ⟨by rfl, ?_⟩) (by exact (Below.refl w5.heap.size w5).drew) ?_
        rotate_left; focus (intro W hW; obtain ⟨x0, x1, x2, x3, x4, x5, x6⟩ := CELLS.out W hW; go_simp; try with_reducible rfl)
        (try simp only [Act.put, List.setIfInBounds_toArray, List.set_cons_zero, List.set_cons_succ])
        refine wpAnyH_take (i := 3) (oi := { dst := some 99, op := Op.fieldAddr 32 (Operand.tmp 3) 1, type := 0, pos := "law.go:37", after := #[{ on := 1, ground := Ground.guard }], guard := some (1, true) }) (v := ?_) rfl (by kernel_rfl) (by kernel_rfl) (by kernel_rfl) (fun _ _ _ h => h) (Or.inl ⟨by rfl, ?_⟩) (by exact (Below.refl w5.heap.size w5).drew) ?_
        rotate_left; focus (intro W hW; go_simp; try with_reducible rfl)
        (try simp only [Act.put, List.setIfInBounds_toArray, List.set_cons_zero, List.set_cons_succ])
        refine wpAnyH_take (i := 4) (oi := { dst := some 100, op := Op.load 25 (Operand.tmp 99), type := 25, pos := "law.go:37", after := #[{ on := 3, ground := Ground.data }, { on := 1, ground := Ground.guard }], guard := some (1, true) }) (v := ?_) rfl (by kernel_rfl) (by kernel_rfl) (by kernel_rfl) (fun _ _ _ h => h) (Or.inl ⟨by rfl, ?_⟩) (by exact (Below.refl w5.heap.size w5).drew) ?_
        rotate_left; focus (intro W hW; obtain ⟨x0, x1, x2, x3, x4, x5, x6⟩ := CELLS.out W hW; go_simp; try with_reducible rfl)
        (try simp only [Act.put, List.setIfInBounds_toArray, List.set_cons_zero, List.set_cons_succ])
        refine wpAnyH_take (i := 5) (oi := { dst := some 101, op := Op.binOp BinOp.neq 25 (Operand.tmp 98) (Operand.tmp 100) 25, type := 4, pos := "law.go:37", after := #[{ on := 2, ground := Ground.data }, { on := 4, ground := Ground.data }, { on := 1, ground := Ground.guard }], guard := some (1, true) }) (v := ?_) rfl (by kernel_rfl) (by kernel_rfl) (by kernel_rfl) (fun _ _ _ h => h) (Or.inl ⟨by rfl, ?_⟩) (by exact (Below.refl w5.heap.size w5).drew) ?_
        rotate_left; focus (intro W hW; go_simp; try with_reducible rfl)
        (try simp only [Act.put, List.setIfInBounds_toArray, List.set_cons_zero, List.set_cons_succ])
        refine wpAnyH_take (i := 6) (oi := { dst := some 102, op := Op.move (Operand.tmp 101), type := 4, pos := "law.go:37", after := #[{ on := 5, ground := Ground.data }, { on := 1, ground := Ground.chain }, { on := 1, ground := Ground.guard }], guard := some (1, true) }) (v := ?_) rfl (by kernel_rfl) (by kernel_rfl) (by kernel_rfl) (fun _ _ _ h => h) (Or.inl ⟨by rfl, ?_⟩) (by exact (Below.refl w5.heap.size w5).drew) ?_
        rotate_left; focus (intro W hW; go_simp; try with_reducible rfl)
        (try simp only [Act.put, List.setIfInBounds_toArray, List.set_cons_zero, List.set_cons_succ])
        refine wpAnyH_take (i := 7) (oi := { dst := some 103, op := Op.move (Operand.tmp 0), type := 34, pos := "law.go:37", after := #[{ on := 6, ground := Ground.guard }], guard := some (6, false) }) (v := ?_) rfl (by kernel_rfl) (by kernel_rfl) (by kernel_rfl) (fun _ _ _ h => h) (Or.inl ⟨by rfl, ?_⟩) (by exact (Below.refl w5.heap.size w5).drew) ?_
        rotate_left; focus (intro W hW; go_simp; try with_reducible rfl)
        (try simp only [Act.put, List.setIfInBounds_toArray, List.set_cons_zero, List.set_cons_succ])
        refine wpAnyH_take (i := 8) (oi := { dst := some 104, op := Op.move (Operand.tmp 8), type := 3, pos := "law.go:37", after := #[{ on := 6, ground := Ground.guard }], guard := some (6, false) }) (v := ?_) rfl (by kernel_rfl) (by kernel_rfl) (by kernel_rfl) (fun _ _ _ h => h) (Or.inl ⟨by rfl, ?_⟩) (by exact (Below.refl w5.heap.size w5).drew) ?_
        rotate_left; focus (intro W hW; go_simp; try with_reducible rfl)
        (try simp only [Act.put, List.setIfInBounds_toArray, List.set_cons_zero, List.set_cons_succ])
        refine wpAnyH_take (i := 9) (oi := { dst := some 105, op := Op.indexAddr 34 (Operand.tmp 103) (Operand.tmp 104), type := 0, pos := "law.go:37", after := #[{ on := 7, ground := Ground.data }, { on := 8, ground := Ground.data }, { on := 6, ground := Ground.guard }], guard := some (6, false) }) (v := ?_) rfl (by kernel_rfl) (by kernel_rfl) (by kernel_rfl) (fun _ _ _ h => h) (Or.inl ⟨by rfl, ?_⟩) (by exact (Below.refl w5.heap.size w5).drew) ?_
        rotate_left; focus (intro W hW; go_simp; try with_reducible rfl)
        (try simp only [Act.put, List.setIfInBounds_toArray, List.set_cons_zero, List.set_cons_succ])
        refine wpAnyH_take (i := 10) (oi := { dst := some 106, op := Op.load 70 (Operand.tmp 105), type := 70, pos := "law.go:37", after := #[{ on := 9, ground := Ground.data }, { on := 6, ground := Ground.guard }], guard := some (6, false) }) (v := ?_) rfl (by kernel_rfl) (by kernel_rfl) (by kernel_rfl) (fun _ _ _ h => h) (Or.inl ⟨by rfl, ?_⟩) (by exact (Below.refl w5.heap.size w5).drew) ?_
        rotate_left; focus (intro W hW; obtain ⟨x0, x1, x2, x3, x4, x5, x6⟩ := CELLS.out W hW; go_simp; try with_reducible rfl)
        (try simp only [Act.put, List.setIfInBounds_toArray, List.set_cons_zero, List.set_cons_succ])
        refine wpAnyH_take (i := 12) (oi := { dst := some 108, op := Op.fieldAddr 25 (Operand.tmp 9) 0, type := 0, pos := "law.go:37", after := #[{ on := 6, ground := Ground.guard }], guard := some (6, false) }) (v := ?_) rfl (by kernel_rfl) (by kernel_rfl) (by kernel_rfl) (fun _ _ _ h => h) (Or.inl ⟨by rfl, ?_⟩) (by exact (Below.refl w5.heap.size w5).drew) ?_
        rotate_left; focus (intro W hW; go_simp; try with_reducible rfl)
        (try simp only [Act.put, List.setIfInBounds_toArray, List.set_cons_zero, List.set_cons_succ])
        refine wpAnyH_take (i := 13) (oi := { dst := some 109, op := Op.load 23 (Operand.tmp 108), type := 23, pos := "law.go:37", after := #[{ on := 12, ground := Ground.data }, { on := 6, ground := Ground.guard }], guard := some (6, false) }) (v := ?_) rfl (by kernel_rfl) (by kernel_rfl) (by kernel_rfl) (fun _ _ _ h => h) (Or.inl ⟨by rfl, ?_⟩) (by exact (Below.refl w5.heap.size w5).drew) ?_
        rotate_left; focus (intro W hW; obtain ⟨x0, x1, x2, x3, x4, x5, x6⟩ := CELLS.out W hW; go_simp; try with_reducible rfl)
        (try simp only [Act.put, List.setIfInBounds_toArray, List.set_cons_zero, List.set_cons_succ])
        refine wpAnyH_ready (rs := [11]) (by kernel_rfl) (by simp) ?_
        refine AllReadyH.cons (o := { dst := some 107, op := Op.call { callee := Callee.invoke (Operand.tmp 106) "Where", args := #[], argTypes := #[] }, type := 23, pos := "law.go:37", after := #[{ on := 10, ground := Ground.data }, { on := 6, ground := Ground.chain }, { on := 6, ground := Ground.guard }], guard := some (6, false) }) rfl (fun K hK => ?_) AllReadyH.nil
        go_simp
        refine (HWH.out _).mono ?_
        rintro e w6 ⟨rfl, hbw6⟩
        have Bw6 := Lib.hid (show Below w5.heap.size w5 w6 from Below.trans (Below.refl w5.heap.size w5).drew (hbw6.mono (Below.size (Below.refl w5.heap.size w5).drew)))
        clear hbw6
        refine hK.out _ _ (by exact Bw6.out) (fun hHeld => ?_)
        clear hHeld hK K
        (try simp only [Act.put, List.setIfInBounds_toArray, List.set_cons_zero, List.set_cons_succ])
        refine wpAnyH_take (i := 14) (oi := { dst := some 110, op := Op.binOp BinOp.neq 23 (Operand.tmp 107) (Operand.tmp 109) 23, type := 4, pos := "law.go:37", after := #[{ on := 11, ground := Ground.data }, { on := 13, ground := Ground.data }, { on := 6, ground := Ground.guard }], guard := some (6, false) }) (v := ?_) rfl (by kernel_rfl) (by kernel_rfl) (by kernel_rfl) (fun _ _ _ h => h) (Or.inl ⟨by rfl, ?_⟩) (by exact Bw6.out) ?_
        rotate_left; focus (intro W hW; go_simp; try with_reducible rfl)
        (try simp only [Act.put, List.setIfInBounds_toArray, List.set_cons_zero, List.set_cons_succ])
        refine wpAnyH_take (i := 15) (oi := { dst := some 111, op := Op.pick (Operand.tmp 102) (Operand.const (Value.bool true)) (Operand.tmp 110), type := 4, pos := "law.go:37", after := #[{ on := 6, ground := Ground.data }, { on := 14, ground := Ground.data }, { on := 1, ground := Ground.guard }], guard := some (1, true) }) (v := ?_) rfl (by kernel_rfl) (by kernel_rfl) (by kernel_rfl) (fun _ _ _ h => h) (Or.inl ⟨by rfl, ?_⟩) (by exact Bw6.out) ?_
        rotate_left; focus (intro W hW; go_simp; try with_reducible rfl)
        (try simp only [Act.put, List.setIfInBounds_toArray, List.set_cons_zero, List.set_cons_succ])
        refine wpAnyH_take (i := 16) (oi := { dst := some 112, op := Op.pick (Operand.tmp 97) (Operand.tmp 111) (Operand.const (Value.bool false)), type := 4, pos := "law.go:37", after := #[{ on := 1, ground := Ground.data }, { on := 15, ground := Ground.data }], guard := none }) (v := ?_) rfl (by kernel_rfl) (by kernel_rfl) (by kernel_rfl) (fun _ _ _ h => h) (Or.inl ⟨by rfl, ?_⟩) (by exact Bw6.out) ?_
        rotate_left; focus (intro W hW; go_simp; try with_reducible rfl)
        (try simp only [Act.put, List.setIfInBounds_toArray, List.set_cons_zero, List.set_cons_succ])
        refine wpAnyH_take (i := 17) (oi := { dst := some 113, op := Op.move (Operand.tmp 112), type := 4, pos := "law.go:37", after := #[{ on := 16, ground := Ground.data }, { on := 11, ground := Ground.chain }], guard := none }) (v := ?_) rfl (by kernel_rfl) (by kernel_rfl) (by kernel_rfl) (fun _ _ _ h => h) (Or.inl ⟨by rfl, ?_⟩) (by exact Bw6.out) ?_
        rotate_left; focus (intro W hW; go_simp; try with_reducible rfl)
        (try simp only [Act.put, List.setIfInBounds_toArray, List.set_cons_zero, List.set_cons_succ])
        refine wpAnyH_take (i := 18) (oi := { dst := some 114, op := Op.move (Operand.tmp 12), type := 4, pos := "law.go:37", after := #[{ on := 17, ground := Ground.guard }], guard := some (17, false) }) (v := ?_) rfl (by kernel_rfl) (by kernel_rfl) (by kernel_rfl) (fun _ _ _ h => h) (Or.inl ⟨by rfl, ?_⟩) (by exact Bw6.out) ?_
        rotate_left; focus (intro W hW; go_simp; try with_reducible rfl)
        (try simp only [Act.put, List.setIfInBounds_toArray, List.set_cons_zero, List.set_cons_succ])
        refine wpAnyH_take (i := 19) (oi := { dst := some 115, op := Op.move (Operand.tmp 114), type := 4, pos := "law.go:37", after := #[{ on := 18, ground := Ground.data }, { on := 17, ground := Ground.chain }, { on := 17, ground := Ground.guard }], guard := some (17, false) }) (v := ?_) rfl (by kernel_rfl) (by kernel_rfl) (by kernel_rfl) (fun _ _ _ h => h) (Or.inl ⟨by rfl, ?_⟩) (by exact Bw6.out) ?_
        rotate_left; focus (intro W hW; go_simp; try with_reducible rfl)
        (try simp only [Act.put, List.setIfInBounds_toArray, List.set_cons_zero, List.set_cons_succ])
        refine wpAnyH_take (i := 20) (oi := { dst := some 116, op := Op.load 28 (Operand.tmp 11), type := 28, pos := "law.go:37", after := #[{ on := 19, ground := Ground.guard }], guard := some (19, true) }) (v := undef) rfl (by kernel_rfl) (by kernel_rfl) (by kernel_rfl) (fun _ _ _ h => h) (Or.inr ⟨by rfl, rfl⟩) (by exact Bw6.out) ?_
        (try simp only [Act.put, List.setIfInBounds_toArray, List.set_cons_zero, List.set_cons_succ])
        refine wpAnyH_take (i := 21) (oi := { dst := some 117, op := Op.fieldAddr 32 (Operand.tmp 3) 2, type := 0, pos := "law.go:37", after := #[{ on := 19, ground := Ground.guard }], guard := some (19, true) }) (v := undef) rfl (by kernel_rfl) (by kernel_rfl) (by kernel_rfl) (fun _ _ _ h => h) (Or.inr ⟨by rfl, rfl⟩) (by exact Bw6.out) ?_
        (try simp only [Act.put, List.setIfInBounds_toArray, List.set_cons_zero, List.set_cons_succ])
        refine wpAnyH_take (i := 22) (oi := { dst := some 118, op := Op.load 28 (Operand.tmp 117), type := 28, pos := "law.go:37", after := #[{ on := 21, ground := Ground.data }, { on := 19, ground := Ground.guard }], guard := some (19, true) }) (v := undef) rfl (by kernel_rfl) (by kernel_rfl) (by kernel_rfl) (fun _ _ _ h => h) (Or.inr ⟨by rfl, rfl⟩) (by exact Bw6.out) ?_
        (try simp only [Act.put, List.setIfInBounds_toArray, List.set_cons_zero, List.set_cons_succ])
        refine wpAnyH_take (i := 23) (oi := { dst := some 119, op := Op.call { callee := Callee.value (Operand.func 24), args := #[Operand.tmp 116, Operand.tmp 118], argTypes := #[28, 28] }, type := 4, pos := "law.go:37", after := #[{ on := 20, ground := Ground.data }, { on := 22, ground := Ground.data }, { on := 19, ground := Ground.chain }, { on := 19, ground := Ground.guard }], guard := some (19, true) }) (v := undef) rfl (by kernel_rfl) (by kernel_rfl) (by kernel_rfl) (fun _ _ _ h => h) (Or.inr ⟨by rfl, rfl⟩) (by exact Bw6.out) ?_
        (try simp only [Act.put, List.setIfInBounds_toArray, List.set_cons_zero, List.set_cons_succ])
        refine wpAnyH_take (i := 24) (oi := { dst := some 120, op := Op.unOp UnOp.not 4 (Operand.tmp 119), type := 4, pos := "law.go:37", after := #[{ on := 23, ground := Ground.data }, { on := 19, ground := Ground.guard }], guard := some (19, true) }) (v := undef) rfl (by kernel_rfl) (by kernel_rfl) (by kernel_rfl) (fun _ _ _ h => h) (Or.inr ⟨by rfl, rfl⟩) (by exact Bw6.out) ?_
        (try simp only [Act.put, List.setIfInBounds_toArray, List.set_cons_zero, List.set_cons_succ])
        refine wpAnyH_take (i := 25) (oi := { dst := some 121, op := Op.pick (Operand.tmp 115) (Operand.tmp 120) (Operand.const (Value.bool false)), type := 4, pos := "law.go:37", after := #[{ on := 19, ground := Ground.data }, { on := 24, ground := Ground.data }, { on := 17, ground := Ground.guard }], guard := some (17, false) }) (v := ?_) rfl (by kernel_rfl) (by kernel_rfl) (by kernel_rfl) (fun _ _ _ h => h) (Or.inl ⟨by rfl, ?_⟩) (by exact Bw6.out) ?_
        rotate_left; focus (intro W hW; go_simp; try with_reducible rfl)
        (try simp only [Act.put, List.setIfInBounds_toArray, List.set_cons_zero, List.set_cons_succ])
        refine wpAnyH_take (i := 26) (oi := { dst := some 122, op := Op.pick (Operand.tmp 113) (Operand.const (Value.bool true)) (Operand.tmp 121), type := 4, pos := "law.go:37", after := #[{ on := 17, ground := Ground.data }, { on := 25, ground := Ground.data }], guard := none }) (v := ?_) rfl (by kernel_rfl) (by kernel_rfl) (by kernel_rfl) (fun _ _ _ h => h) (Or.inl ⟨by rfl, ?_⟩) (by exact Bw6.out) ?_
        rotate_left; focus (intro W hW; go_simp; try with_reducible rfl)
        (try simp only [Act.put, List.setIfInBounds_toArray, List.set_cons_zero, List.set_cons_succ])
        refine wpAnyH_done (by kernel_rfl) ?_ _
        go_wp2
        exact ⟨⟨k + 1, by go_num, by omega, by rw [hcut, msgsOf_app]; simp [msgsOf], by rw [hcut, tabsOf_app]; simp [tabsOf], HB5.out.trans (Bw6.out.mono HB5.out.size)⟩, by simp [intOf]; omega⟩
      | sta x =>
        obtain rfl := (HIS.out k _ HHX.out).2 _ rfl
        obtain ⟨vx, rfl, hvx⟩ : staE w F c d.sta := HE.out
        obtain ⟨Av, cv, rfl, _, _⟩ := hvx.form
        have HVX := Lib.hid hvx
        clear hvx
        have a_ver := as_sta_ver (.agg (staCells d.sta (.slice Av d.sta.names.length cv)).toArray)
        have a_sta := as_sta_sta (.agg (staCells d.sta (.slice Av d.sta.names.length cv)).toArray)
        have a_msg := as_sta_msg (.agg (staCells d.sta (.slice Av d.sta.names.length cv)).toArray)
        have a_tab := as_sta_tab (.agg (staCells d.sta (.slice Av d.sta.names.length cv)).toArray)
        have hfb := four_box wr verZ (staCells d.sta (.slice Av d.sta.names.length cv)).toArray msgZ tabZ 25 28 62 79
        simp only [ndV, rv, rank, staCells, verZ, staZ, msgZ, tabZ] at c0 k0 a_ver a_sta a_msg a_tab hfb
        have hc5 : ((((wr.alloc (.cells #[.int .i64 0, .int .i64 0, .string ⟨#[]⟩] 25)).alloc (.cells #[.int .i64 d.sta.line, .int .i64 d.sta.col, .slice Av d.sta.names.length cv] 28)).alloc (.cells #[.int .i64 0, .int .i64 0, .int .u32 0, .bool false, .string ⟨#[]⟩, .int .i64 0, .string ⟨#[]⟩, .slice none 0 0] 62)).alloc (.cells #[.int .i64 0, .int .i64 0, .int .u32 0, .bool false, .string ⟨#[]⟩, .slice none 0 0] 79)).cell? ⟨b, off + k, none⟩ = wr.cell? ⟨b, off + k, none⟩ := hfb.2.2.2.2.cell (p := ⟨b, off + k, none⟩) hblr
        rw [c0] at hc5
        have HFB := Lib.hid hfb
        have HC5 := Lib.hid hc5
        clear HE hfb hc5
        go_wp2
        generalize ((((wr.alloc (.cells #[.int .i64 0, .int .i64 0, .string ⟨#[]⟩] 25)).alloc (.cells #[.int .i64 d.sta.line, .int .i64 d.sta.col, .slice Av d.sta.names.length cv] 28)).alloc (.cells #[.int .i64 0, .int .i64 0, .int .u32 0, .bool false, .string ⟨#[]⟩, .int .i64 0, .string ⟨#[]⟩, .slice none 0 0] 62)).alloc (.cells #[.int .i64 0, .int .i64 0, .int .u32 0, .bool false, .string ⟨#[]⟩, .slice none 0 0] 79)) = w5 at HFB HC5 ⊢
        have hlt5 : w.heap.size < w5.heap.size := Nat.lt_of_lt_of_le hwr1 HFB.out.2.2.2.2.size
        have hb5 : b < w5.heap.size := Nat.lt_of_lt_of_le hblr HFB.out.2.2.2.2.size
        have HX5 := Lib.hid (HXR.out.below HFB.out.2.2.2.2 hwr1)
        have HB5 : Hid (Below w1.heap.size w1 w5) := Lib.hid (HB.out.trans (HFB.out.2.2.2.2.mono HB.out.size))
        clear a_ver a_sta a_msg a_tab c0 k0 hbl1 hbl2 hbl3 hgk1 hgk2 hgk3
        have CELLS : Hid (∀ W, Below w5.heap.size w5 W → W.cell? ⟨wr.heap.size + 1, 0, none⟩ = some (.int .i64 d.sta.line) ∧ W.cell? ⟨wr.heap.size + 1, 1, none⟩ = some (.int .i64 d.sta.col) ∧ W.cell? ⟨wr.heap.size + 1, 2, none⟩ = some (.slice Av d.sta.names.length cv) ∧ W.cell? ⟨w.heap.size, 4, none⟩ = some (.int .i64 d.sta.line) ∧ W.cell? ⟨w.heap.size, 5, none⟩ = some (.int .i64 d.sta.col) ∧ W.cell? ⟨w.heap.size, 6, none⟩ = some (sv)) := fun W hW => ⟨(hW.cell (p := ⟨wr.heap.size + 1, 0, none⟩) HFB.out.2.1.lt).trans ((HFB.out.2.1.cell 0).trans rfl), (hW.cell (p := ⟨wr.heap.size + 1, 1, none⟩) HFB.out.2.1.lt).trans ((HFB.out.2.1.cell 1).trans rfl), (hW.cell (p := ⟨wr.heap.size + 1, 2, none⟩) HFB.out.2.1.lt).trans ((HFB.out.2.1.cell 2).trans rfl), (hW.cell (p := ⟨w.heap.size, 4, none⟩) hlt5).trans ((HX5.out.cell 4).trans rfl), (hW.cell (p := ⟨w.heap.size, 5, none⟩) hlt5).trans ((HX5.out.cell 5).trans rfl), (hW.cell (p := ⟨w.heap.size, 6, none⟩) hlt5).trans ((HX5.out.cell 6).trans rfl)⟩
        have HSM : Hid (∀ W, Below w5.heap.size w5 W → Calls Try.prog 24 #[.agg #[.int .i64 d.sta.line, .int .i64 d.sta.col, .slice Av d.sta.names.length cv], .agg #[.int .i64 d.sta.line, .int .i64 d.sta.col, sv]] W (sameK.Yes W)) := fun W hW => by
          have hwW : Below w.heap.size w W := (HBW.out.trans (HFB.out.2.2.2.2.mono HBW.out.size)).trans (hW.mono (Nat.le_of_lt hlt5))
          exact sameK.sameStations d.sta (staCells d.sta (.slice Av d.sta.names.length cv)) (staCells d.sta sv) F F W ⟨_, rfl, HVX.out.belowF strE_mono HF.out hwW⟩ ⟨_, rfl, HS.out.belowF strE_mono HF.out hwW⟩ (fun b hb => Nat.lt_of_lt_of_le (HF.out b hb) hwW.size) (fun b hb => Nat.lt_of_lt_of_le (HF.out b hb) hwW.size)
        refine wp_region_held (S := (fun W => Below w5.heap.size w5 W)) (by kernel_rfl) ?_
        refine wpAnyH_take (i := 0) (oi := { dst := some 96, op := Op.move (Operand.tmp 10), type := 4, pos := "law.go:37", after := #[], guard := none }) (v := ?_) rfl (by kernel_rfl) (by kernel_rfl) (by kernel_rfl) (fun _ _ _ h => h) (Or.inl ⟨by rfl, ?_⟩) (by exact (Below.refl w5.heap.size w5).drew) ?_
        rotate_left; focus (intro W hW; go_simp; try with_reducible rfl)
        (try simp only [Act.put, List.setIfInBounds_toArray, List.set_cons_zero, List.set_cons_succ])
        refine wpAnyH_take (i := 1) (oi := { dst := some 97, op := Op.move (Operand.tmp 96), type := 4, pos := "law.go:37", after := #[{ on := 0, ground := Ground.data }], guard := none }) (v := ?_) rfl (by kernel_rfl) (by kernel_rfl) (by kernel_rfl) (fun _ _ _ h => h) (Or.inl ⟨by rfl, ?_⟩) (by exact (Below.refl w5.heap.size w5).drew) ?_
        rotate_left; focus (intro W hW; go_simp; try with_reducible rfl)
        (try simp only [Act.put, List.setIfInBounds_toArray, List.set_cons_zero, List.set_cons_succ])
        refine wpAnyH_take (i := 2) (oi := { dst := some 98, op := Op.load 25 (Operand.tmp 9), type := 25, pos := "law.go:37", after := #[{ on := 1, ground := Ground.guard }], guard := some (1, true) }) (v := undef) rfl (by kernel_rfl) (by kernel_rfl) (by kernel_rfl) (fun _ _ _ h => h) (Or.inr ⟨by rfl, rfl⟩) (by exact (Below.refl w5.heap.size w5).drew) ?_
        (try simp only [Act.put, List.setIfInBounds_toArray, List.set_cons_zero, List.set_cons_succ])
        refine wpAnyH_take (i := 3) (oi := { dst := some 99, op := Op.fieldAddr 32 (Operand.tmp 3) 1, type := 0, pos := "law.go:37", after := #[{ on := 1, ground := Ground.guard }], guard := some (1, true) }) (v := undef) rfl (by kernel_rfl) (by kernel_rfl) (by kernel_rfl) (fun _ _ _ h => h) (Or.inr ⟨by rfl, rfl⟩) (by exact (Below.refl w5.heap.size w5).drew) ?_
        (try simp only [Act.put, List.setIfInBounds_toArray, List.set_cons_zero, List.set_cons_succ])
        refine wpAnyH_take (i := 4) (oi := { dst := some 100, op := Op.load 25 (Operand.tmp 99), type := 25, pos := "law.go:37", after := #[{ on := 3, ground := Ground.data }, { on := 1, ground := Ground.guard }], guard := some (1, true) }) (v := undef) rfl (by kernel_rfl) (by kernel_rfl) (by kernel_rfl) (fun _ _ _ h => h) (Or.inr ⟨by rfl, rfl⟩) (by exact (Below.refl w5.heap.size w5).drew) ?_
        (try simp only [Act.put, List.setIfInBounds_toArray, List.set_cons_zero, List.set_cons_succ])
        refine wpAnyH_take (i := 5) (oi := { dst := some 101, op := Op.binOp BinOp.neq 25 (Operand.tmp 98) (Operand.tmp 100) 25, type := 4, pos := "law.go:37", after := #[{ on := 2, ground := Ground.data }, { on := 4, ground := Ground.data }, { on := 1, ground := Ground.guard }], guard := some (1, true) }) (v := undef) rfl (by kernel_rfl) (by kernel_rfl) (by kernel_rfl) (fun _ _ _ h => h) (Or.inr ⟨by rfl, rfl⟩) (by exact (Below.refl w5.heap.size w5).drew) ?_
        (try simp only [Act.put, List.setIfInBounds_toArray, List.set_cons_zero, List.set_cons_succ])
        refine wpAnyH_take (i := 6) (oi := { dst := some 102, op := Op.move (Operand.tmp 101), type := 4, pos := "law.go:37", after := #[{ on := 5, ground := Ground.data }, { on := 1, ground := Ground.chain }, { on := 1, ground := Ground.guard }], guard := some (1, true) }) (v := undef) rfl (by kernel_rfl) (by kernel_rfl) (by kernel_rfl) (fun _ _ _ h => h) (Or.inr ⟨by rfl, rfl⟩) (by exact (Below.refl w5.heap.size w5).drew) ?_
        (try simp only [Act.put, List.setIfInBounds_toArray, List.set_cons_zero, List.set_cons_succ])
        refine wpAnyH_take (i := 7) (oi := { dst := some 103, op := Op.move (Operand.tmp 0), type := 34, pos := "law.go:37", after := #[{ on := 6, ground := Ground.guard }], guard := some (6, false) }) (v := undef) rfl (by kernel_rfl) (by kernel_rfl) (by kernel_rfl) (fun _ _ _ h => h) (Or.inr ⟨by rfl, rfl⟩) (by exact (Below.refl w5.heap.size w5).drew) ?_
        (try simp only [Act.put, List.setIfInBounds_toArray, List.set_cons_zero, List.set_cons_succ])
        refine wpAnyH_take (i := 8) (oi := { dst := some 104, op := Op.move (Operand.tmp 8), type := 3, pos := "law.go:37", after := #[{ on := 6, ground := Ground.guard }], guard := some (6, false) }) (v := undef) rfl (by kernel_rfl) (by kernel_rfl) (by kernel_rfl) (fun _ _ _ h => h) (Or.inr ⟨by rfl, rfl⟩) (by exact (Below.refl w5.heap.size w5).drew) ?_
        (try simp only [Act.put, List.setIfInBounds_toArray, List.set_cons_zero, List.set_cons_succ])
        refine wpAnyH_take (i := 9) (oi := { dst := some 105, op := Op.indexAddr 34 (Operand.tmp 103) (Operand.tmp 104), type := 0, pos := "law.go:37", after := #[{ on := 7, ground := Ground.data }, { on := 8, ground := Ground.data }, { on := 6, ground := Ground.guard }], guard := some (6, false) }) (v := undef) rfl (by kernel_rfl) (by kernel_rfl) (by kernel_rfl) (fun _ _ _ h => h) (Or.inr ⟨by rfl, rfl⟩) (by exact (Below.refl w5.heap.size w5).drew) ?_
        (try simp only [Act.put, List.setIfInBounds_toArray, List.set_cons_zero, List.set_cons_succ])
        refine wpAnyH_take (i := 10) (oi := { dst := some 106, op := Op.load 70 (Operand.tmp 105), type := 70, pos := "law.go:37", after := #[{ on := 9, ground := Ground.data }, { on := 6, ground := Ground.guard }], guard := some (6, false) }) (v := undef) rfl (by kernel_rfl) (by kernel_rfl) (by kernel_rfl) (fun _ _ _ h => h) (Or.inr ⟨by rfl, rfl⟩) (by exact (Below.refl w5.heap.size w5).drew) ?_
        (try simp only [Act.put, List.setIfInBounds_toArray, List.set_cons_zero, List.set_cons_succ])
        refine wpAnyH_take (i := 11) (oi := { dst := some 107, op := Op.call { callee := Callee.invoke (Operand.tmp 106) "Where", args := #[], argTypes := #[] }, type := 23, pos := "law.go:37", after := #[{ on := 10, ground := Ground.data }, { on := 6, ground := Ground.chain }, { on := 6, ground := Ground.guard }], guard := some (6, false) }) (v := undef) rfl (by kernel_rfl) (by kernel_rfl) (by kernel_rfl) (fun _ _ _ h => h) (Or.inr ⟨by rfl, rfl⟩) (by exact (Below.refl w5.heap.size w5).drew) ?_
        (try simp only [Act.put, List.setIfInBounds_toArray, List.set_cons_zero, List.set_cons_succ])
        refine wpAnyH_take (i := 12) (oi := { dst := some 108, op := Op.fieldAddr 25 (Operand.tmp 9) 0, type := 0, pos := "law.go:37", after := #[{ on := 6, ground := Ground.guard }], guard := some (6, false) }) (v := undef) rfl (by kernel_rfl) (by kernel_rfl) (by kernel_rfl) (fun _ _ _ h => h) (Or.inr ⟨by rfl, rfl⟩) (by exact (Below.refl w5.heap.size w5).drew) ?_
        (try simp only [Act.put, List.setIfInBounds_toArray, List.set_cons_zero, List.set_cons_succ])
        refine wpAnyH_take (i := 13) (oi := { dst := some 109, op := Op.load 23 (Operand.tmp 108), type := 23, pos := "law.go:37", after := #[{ on := 12, ground := Ground.data }, { on := 6, ground := Ground.guard }], guard := some (6, false) }) (v := undef) rfl (by kernel_rfl) (by kernel_rfl) (by kernel_rfl) (fun _ _ _ h => h) (Or.inr ⟨by rfl, rfl⟩) (by exact (Below.refl w5.heap.size w5).drew) ?_
        (try simp only [Act.put, List.setIfInBounds_toArray, List.set_cons_zero, List.set_cons_succ])
        refine wpAnyH_take (i := 14) (oi := { dst := some 110, op := Op.binOp BinOp.neq 23 (Operand.tmp 107) (Operand.tmp 109) 23, type := 4, pos := "law.go:37", after := #[{ on := 11, ground := Ground.data }, { on := 13, ground := Ground.data }, { on := 6, ground := Ground.guard }], guard := some (6, false) }) (v := undef) rfl (by kernel_rfl) (by kernel_rfl) (by kernel_rfl) (fun _ _ _ h => h) (Or.inr ⟨by rfl, rfl⟩) (by exact (Below.refl w5.heap.size w5).drew) ?_
        (try simp only [Act.put, List.setIfInBounds_toArray, List.set_cons_zero, List.set_cons_succ])
        refine wpAnyH_take (i := 15) (oi := { dst := some 111, op := Op.pick (Operand.tmp 102) (Operand.const (Value.bool true)) (Operand.tmp 110), type := 4, pos := "law.go:37", after := #[{ on := 6, ground := Ground.data }, { on := 14, ground := Ground.data }, { on := 1, ground := Ground.guard }], guard := some (1, true) }) (v := undef) rfl (by kernel_rfl) (by kernel_rfl) (by kernel_rfl) (fun _ _ _ h => h) (Or.inr ⟨by rfl, rfl⟩) (by exact (Below.refl w5.heap.size w5).drew) ?_
        (try simp only [Act.put, List.setIfInBounds_toArray, List.set_cons_zero, List.set_cons_succ])
        refine wpAnyH_take (i := 16) (oi := { dst := some 112, op := Op.pick (Operand.tmp 97) (Operand.tmp 111) (Operand.const (Value.bool false)), type := 4, pos := "law.go:37", after := #[{ on := 1, ground := Ground.data }, { on := 15, ground := Ground.data }], guard := none }) (v := ?_) rfl (by kernel_rfl) (by kernel_rfl) (by kernel_rfl) (fun _ _ _ h => h) (Or.inl ⟨by rfl, ?_⟩) (by exact (Below.refl w5.heap.size w5).drew) ?_
        rotate_left; focus (intro W hW; go_simp; try with_reducible rfl)
        (try simp only [Act.put, List.setIfInBounds_toArray, List.set_cons_zero, List.set_cons_succ])
        refine wpAnyH_take (i := 17) (oi := { dst := some 113, op := Op.move (Operand.tmp 112), type := 4, pos := "law.go:37", after := #[{ on := 16, ground := Ground.data }, { on := 11, ground := Ground.chain }], guard := none }) (v := ?_) rfl (by kernel_rfl) (by kernel_rfl) (by kernel_rfl) (fun _ _ _ h => h) (Or.inl ⟨by rfl, ?_⟩) (by exact (Below.refl w5.heap.size w5).drew) ?_
        rotate_left; focus (intro W hW; go_simp; try with_reducible rfl)
        (try simp only [Act.put, List.setIfInBounds_toArray, List.set_cons_zero, List.set_cons_succ])
        refine wpAnyH_take (i := 18) (oi := { dst := some 114, op := Op.move (Operand.tmp 12), type := 4, pos := "law.go:37", after := #[{ on := 17, ground := Ground.guard }], guard := some (17, false) }) (v := ?_) rfl (by kernel_rfl) (by kernel_rfl) (by kernel_rfl) (fun _ _ _ h => h) (Or.inl ⟨by rfl, ?_⟩) (by exact (Below.refl w5.heap.size w5).drew) ?_
        rotate_left; focus (intro W hW; go_simp; try with_reducible rfl)
        (try simp only [Act.put, List.setIfInBounds_toArray, List.set_cons_zero, List.set_cons_succ])
        refine wpAnyH_take (i := 19) (oi := { dst := some 115, op := Op.move (Operand.tmp 114), type := 4, pos := "law.go:37", after := #[{ on := 18, ground := Ground.data }, { on := 17, ground := Ground.chain }, { on := 17, ground := Ground.guard }], guard := some (17, false) }) (v := ?_) rfl (by kernel_rfl) (by kernel_rfl) (by kernel_rfl) (fun _ _ _ h => h) (Or.inl ⟨by rfl, ?_⟩) (by exact (Below.refl w5.heap.size w5).drew) ?_
        rotate_left; focus (intro W hW; go_simp; try with_reducible rfl)
        (try simp only [Act.put, List.setIfInBounds_toArray, List.set_cons_zero, List.set_cons_succ])
        refine wpAnyH_take (i := 20) (oi := { dst := some 116, op := Op.load 28 (Operand.tmp 11), type := 28, pos := "law.go:37", after := #[{ on := 19, ground := Ground.guard }], guard := some (19, true) }) (v := ?_) rfl (by kernel_rfl) (by kernel_rfl) (by kernel_rfl) (fun _ _ _ h => h) (Or.inl ⟨by rfl, ?_⟩) (by exact (Below.refl w5.heap.size w5).drew) ?_
        rotate_left; focus (intro W hW; obtain ⟨x0, x1, x2, x3, x4, x5⟩ := CELLS.out W hW; go_simp; try with_reducible rfl)
        (try simp only [Act.put, List.setIfInBounds_toArray, List.set_cons_zero, List.set_cons_succ])
        refine wpAnyH_take (i := 21) (oi := { dst := some 117, op := Op.fieldAddr 32 (Operand.tmp 3) 2, type := 0, pos := "law.go:37", after := #[{ on := 19, ground := Ground.guard }], guard := some (19, true) }) (v := ?_) rfl (by kernel_rfl) (by kernel_rfl) (by kernel_rfl) (fun _ _ _ h => h) (Or.inl ⟨by rfl, ?_⟩) (by exact (Below.refl w5.heap.size w5).drew) ?_
        rotate_left; focus (intro W hW; go_simp; try with_reducible rfl)
        (try simp only [Act.put, List.setIfInBounds_toArray, List.set_cons_zero, List.set_cons_succ])
        refine wpAnyH_take (i := 22) (oi := { dst := some 118, op := Op.load 28 (Operand.tmp 117), type := 28, pos := "law.go:37", after := #[{ on := 21, ground := Ground.data }, { on := 19, ground := Ground.guard }], guard := some (19, true) }) (v := ?_) rfl (by kernel_rfl) (by kernel_rfl) (by kernel_rfl) (fun _ _ _ h => h) (Or.inl ⟨by rfl, ?_⟩) (by exact (Below.refl w5.heap.size w5).drew) ?_
        rotate_left; focus (intro W hW; obtain ⟨x0, x1, x2, x3, x4, x5⟩ := CELLS.out W hW; go_simp; try with_reducible rfl)
        (try simp only [Act.put, List.setIfInBounds_toArray, List.set_cons_zero, List.set_cons_succ])
        refine wpAnyH_ready (rs := [23]) (by kernel_rfl) (by simp) ?_
        refine AllReadyH.cons (o := { dst := some 119, op := Op.call { callee := Callee.value (Operand.func 24), args := #[Operand.tmp 116, Operand.tmp 118], argTypes := #[28, 28] }, type := 4, pos := "law.go:37", after := #[{ on := 20, ground := Ground.data }, { on := 22, ground := Ground.data }, { on := 19, ground := Ground.chain }, { on := 19, ground := Ground.guard }], guard := some (19, true) }) rfl (fun K hK => ?_) AllReadyH.nil
        go_simp
        go_at_call 24
        refine (HSM.out _ (by exact (Below.refl w5.heap.size w5).drew)).mono ?_
        rintro e w6 ⟨rfl, hbw6⟩
        have Bw6 := Lib.hid (show Below w5.heap.size w5 w6 from Below.trans (Below.refl w5.heap.size w5).drew (hbw6.mono (Below.size (Below.refl w5.heap.size w5).drew)))
        clear hbw6
        refine hK.out _ _ (by exact Bw6.out) (fun hHeld => ?_)
        clear hHeld hK K
        (try simp only [Act.put, List.setIfInBounds_toArray, List.set_cons_zero, List.set_cons_succ])
        refine wpAnyH_take (i := 24) (oi := { dst := some 120, op := Op.unOp UnOp.not 4 (Operand.tmp 119), type := 4, pos := "law.go:37", after := #[{ on := 23, ground := Ground.data }, { on := 19, ground := Ground.guard }], guard := some (19, true) }) (v := ?_) rfl (by kernel_rfl) (by kernel_rfl) (by kernel_rfl) (fun _ _ _ h => h) (Or.inl ⟨by rfl, ?_⟩) (by exact Bw6.out) ?_
        rotate_left; focus (intro W hW; go_simp; try with_reducible rfl)
        (try simp only [Act.put, List.setIfInBounds_toArray, List.set_cons_zero, List.set_cons_succ])
        refine wpAnyH_take (i := 25) (oi := { dst := some 121, op := Op.pick (Operand.tmp 115) (Operand.tmp 120) (Operand.const (Value.bool false)), type := 4, pos := "law.go:37", after := #[{ on := 19, ground := Ground.data }, { on := 24, ground := Ground.data }, { on := 17, ground := Ground.guard }], guard := some (17, false) }) (v := ?_) rfl (by kernel_rfl) (by kernel_rfl) (by kernel_rfl) (fun _ _ _ h => h) (Or.inl ⟨by rfl, ?_⟩) (by exact Bw6.out) ?_
        rotate_left; focus (intro W hW; go_simp; try with_reducible rfl)
        (try simp only [Act.put, List.setIfInBounds_toArray, List.set_cons_zero, List.set_cons_succ])
        refine wpAnyH_take (i := 26) (oi := { dst := some 122, op := Op.pick (Operand.tmp 113) (Operand.const (Value.bool true)) (Operand.tmp 121), type := 4, pos := "law.go:37", after := #[{ on := 17, ground := Ground.data }, { on := 25, ground := Ground.data }], guard := none }) (v := ?_) rfl (by kernel_rfl) (by kernel_rfl) (by kernel_rfl) (fun _ _ _ h => h) (Or.inl ⟨by rfl, ?_⟩) (by exact Bw6.out) ?_
        rotate_left; focus (intro W hW; go_simp; try with_reducible rfl)
        (try simp only [Act.put, List.setIfInBounds_toArray, List.set_cons_zero, List.set_cons_succ])
        refine wpAnyH_done (by kernel_rfl) ?_ _
        go_wp2
        exact ⟨⟨k + 1, by go_num, by omega, by rw [hcut, msgsOf_app]; simp [msgsOf], by rw [hcut, tabsOf_app]; simp [tabsOf], HB5.out.trans (Bw6.out.mono HB5.out.size)⟩, by simp [intOf]; omega⟩
      | msg x =>
        obtain ⟨vx, rfl, hvx⟩ : msgE w F c x := HE.out
        obtain ⟨Av, cv, rfl, _, _⟩ := hvx.form
        have HVX := Lib.hid hvx
        have hmx := HMS.out k x HHX.out
        clear hvx
        have HWH := Lib.hid (where_msg x (.slice Av x.sigs.length cv))
        have a_ver := as_msg_ver (.agg (msgCells x (.slice Av x.sigs.length cv)).toArray)
        have a_sta := as_msg_sta (.agg (msgCells x (.slice Av x.sigs.length cv)).toArray)
        have a_msg := as_msg_msg (.agg (msgCells x (.slice Av x.sigs.length cv)).toArray)
        have a_tab := as_msg_tab (.agg (msgCells x (.slice Av x.sigs.length cv)).toArray)
        have iv := inv_msg (.agg (msgCells x (.slice Av x.sigs.length cv)).toArray)
        have hfb := four_box wr verZ staZ (msgCells x (.slice Av x.sigs.length cv)).toArray tabZ 25 28 62 79
        simp only [ndV, rv, rank, msgCells, verZ, staZ, msgZ, tabZ] at c0 k0 a_ver a_sta a_msg a_tab hfb iv HWH
        have hc5 : ((((wr.alloc (.cells #[.int .i64 0, .int .i64 0, .string ⟨#[]⟩] 25)).alloc (.cells #[.int .i64 0, .int .i64 0, .slice none 0 0] 28)).alloc (.cells #[.int .i64 x.line, .int .i64 x.col, .int .u32 x.id, .bool x.wide, .string x.name, .int .i64 x.size, .string x.sender, .slice Av x.sigs.length cv] 62)).alloc (.cells #[.int .i64 0, .int .i64 0, .int .u32 0, .bool false, .string ⟨#[]⟩, .slice none 0 0] 79)).cell? ⟨b, off + k, none⟩ = wr.cell? ⟨b, off + k, none⟩ := hfb.2.2.2.2.cell (p := ⟨b, off + k, none⟩) hblr
        rw [c0] at hc5
        have HFB := Lib.hid hfb
        have HC5 := Lib.hid hc5
        clear HE hfb hc5
        go_wp2
        generalize ((((wr.alloc (.cells #[.int .i64 0, .int .i64 0, .string ⟨#[]⟩] 25)).alloc (.cells #[.int .i64 0, .int .i64 0, .slice none 0 0] 28)).alloc (.cells #[.int .i64 x.line, .int .i64 x.col, .int .u32 x.id, .bool x.wide, .string x.name, .int .i64 x.size, .string x.sender, .slice Av x.sigs.length cv] 62)).alloc (.cells #[.int .i64 0, .int .i64 0, .int .u32 0, .bool false, .string ⟨#[]⟩, .slice none 0 0] 79)) = w5 at HFB HC5 ⊢
        have hlt5 : w.heap.size < w5.heap.size := Nat.lt_of_lt_of_le hwr1 HFB.out.2.2.2.2.size
        have hb5 : b < w5.heap.size := Nat.lt_of_lt_of_le hblr HFB.out.2.2.2.2.size
        have HX5 := Lib.hid (HXR.out.below HFB.out.2.2.2.2 hwr1)
        have HB5 : Hid (Below w1.heap.size w1 w5) := Lib.hid (HB.out.trans (HFB.out.2.2.2.2.mono HB.out.size))
        clear a_ver a_sta a_msg a_tab c0 k0 hbl1 hbl2 hbl3 hgk1 hgk2 hgk3
        obtain ⟨mi, hmi⟩ : ∃ mi, mi = (msgsOf (N.take k)).length := ⟨_, rfl⟩
        rw [← hmi] at hmx ⊢
        have HMI := Lib.hid hmi
        clear hmi
        have hml : mi < d.msgs.length := (List.getElem?_eq_some_iff.1 hmx).1
        obtain ⟨bm, om, cs, rfl, hFm, hlm, hrm, hem⟩ := HM.out.at_ (A := Am) hml
        have hme : d.msgs[mi] = x := (List.getElem?_eq_some_iff.1 hmx).2
        rw [hme] at hem
        obtain ⟨vd, rfl, hvd⟩ := hem
        have HVD := Lib.hid hvd
        have hbm : bm < w.heap.size := HF.out bm hFm
        have hwW5 : Below w.heap.size w w5 := HBW.out.trans (HFB.out.2.2.2.2.mono HBW.out.size)
        have HRM := Lib.hid (fun (i : Nat) (u : Value) (hj : (msgCells x vd)[i]? = some u) => (hwW5.cell (p := ⟨bm, om + mi * 8 + i, none⟩) hbm).trans (hrm i u hj))
        have hbm5 : bm < w5.heap.size := Nat.lt_of_lt_of_le hbm hwW5.size
        have HWW := Lib.hid hwW5
        clear hrm hlm hvd hme hwW5
        have CELLS : Hid (∀ W, Below w5.heap.size w5 W → W.cell? ⟨wr.heap.size + 1 + 1, 0, none⟩ = some (.int .i64 x.line) ∧ W.cell? ⟨wr.heap.size + 1 + 1, 1, none⟩ = some (.int .i64 x.col) ∧ W.cell? ⟨wr.heap.size + 1 + 1, 2, none⟩ = some (.int .u32 x.id) ∧ W.cell? ⟨wr.heap.size + 1 + 1, 3, none⟩ = some (.bool x.wide) ∧ W.cell? ⟨wr.heap.size + 1 + 1, 4, none⟩ = some (.string x.name) ∧ W.cell? ⟨wr.heap.size + 1 + 1, 5, none⟩ = some (.int .i64 x.size) ∧ W.cell? ⟨wr.heap.size + 1 + 1, 6, none⟩ = some (.string x.sender) ∧ W.cell? ⟨wr.heap.size + 1 + 1, 7, none⟩ = some (.slice Av x.sigs.length cv) ∧ W.cell? ⟨w.heap.size, 7, none⟩ = some (.slice (some ⟨bm, om, none⟩) d.msgs.length cm) ∧ W.cell? ⟨b, off + k, none⟩ = some (.iface 62 (.agg #[.int .i64 x.line, .int .i64 x.col, .int .u32 x.id, .bool x.wide, .string x.name, .int .i64 x.size, .string x.sender, .slice Av x.sigs.length cv])) ∧ W.cell? ⟨bm, om + mi * 8, none⟩ = some (.int .i64 x.line) ∧ W.cell? ⟨bm, om + mi * 8 + 1, none⟩ = some (.int .i64 x.col) ∧ W.cell? ⟨bm, om + mi * 8 + 2, none⟩ = some (.int .u32 x.id) ∧ W.cell? ⟨bm, om + mi * 8 + 3, none⟩ = some (.bool x.wide) ∧ W.cell? ⟨bm, om + mi * 8 + 4, none⟩ = some (.string x.name) ∧ W.cell? ⟨bm, om + mi * 8 + 5, none⟩ = some (.int .i64 x.size) ∧ W.cell? ⟨bm, om + mi * 8 + 6, none⟩ = some (.string x.sender) ∧ W.cell? ⟨bm, om + mi * 8 + 7, none⟩ = some (vd)) := fun W hW => ⟨(hW.cell (p := ⟨wr.heap.size + 1 + 1, 0, none⟩) HFB.out.2.2.1.lt).trans ((HFB.out.2.2.1.cell 0).trans rfl), (hW.cell (p := ⟨wr.heap.size + 1 + 1, 1, none⟩) HFB.out.2.2.1.lt).trans ((HFB.out.2.2.1.cell 1).trans rfl), (hW.cell (p := ⟨wr.heap.size + 1 + 1, 2, none⟩) HFB.out.2.2.1.lt).trans ((HFB.out.2.2.1.cell 2).trans rfl), (hW.cell (p := ⟨wr.heap.size + 1 + 1, 3, none⟩) HFB.out.2.2.1.lt).trans ((HFB.out.2.2.1.cell 3).trans rfl), (hW.cell (p := ⟨wr.heap.size + 1 + 1, 4, none⟩) HFB.out.2.2.1.lt).trans ((HFB.out.2.2.1.cell 4).trans rfl), (hW.cell (p := ⟨wr.heap.size + 1 + 1, 5, none⟩) HFB.out.2.2.1.lt).trans ((HFB.out.2.2.1.cell 5).trans rfl), (hW.cell (p := ⟨wr.heap.size + 1 + 1, 6, none⟩) HFB.out.2.2.1.lt).trans ((HFB.out.2.2.1.cell 6).trans rfl), (hW.cell (p := ⟨wr.heap.size + 1 + 1, 7, none⟩) HFB.out.2.2.1.lt).trans ((HFB.out.2.2.1.cell 7).trans rfl), (hW.cell (p := ⟨w.heap.size, 7, none⟩) hlt5).trans ((HX5.out.cell 7).trans rfl), (hW.cell (p := ⟨b, off + k, none⟩) hb5).trans (HC5.out), (hW.cell (p := ⟨bm, om + mi * 8, none⟩) hbm5).trans (HRM.out 0 _ rfl), (hW.cell (p := ⟨bm, om + mi * 8 + 1, none⟩) hbm5).trans (HRM.out 1 _ rfl), (hW.cell (p := ⟨bm, om + mi * 8 + 2, none⟩) hbm5).trans (HRM.out 2 _ rfl), (hW.cell (p := ⟨bm, om + mi * 8 + 3, none⟩) hbm5).trans (HRM.out 3 _ rfl), (hW.cell (p := ⟨bm, om + mi * 8 + 4, none⟩) hbm5).trans (HRM.out 4 _ rfl), (hW.cell (p := ⟨bm, om + mi * 8 + 5, none⟩) hbm5).trans (HRM.out 5 _ rfl), (hW.cell (p := ⟨bm, om + mi * 8 + 6, none⟩) hbm5).trans (HRM.out 6 _ rfl), (hW.cell (p := ⟨bm, om + mi * 8 + 7, none⟩) hbm5).trans (HRM.out 7 _ rfl)⟩
        have HSM : Hid (∀ W, Below w5.heap.size w5 W → Calls Try.prog 13 #[.agg #[.int .i64 x.line, .int .i64 x.col, .int .u32 x.id, .bool x.wide, .string x.name, .int .i64 x.size, .string x.sender, .slice Av x.sigs.length cv], .agg #[.int .i64 x.line, .int .i64 x.col, .int .u32 x.id, .bool x.wide, .string x.name, .int .i64 x.size, .string x.sender, vd]] W (sameK.Yes W)) := fun W hW => by
          have hwW : Below w.heap.size w W := HWW.out.trans (hW.mono (Nat.le_of_lt hlt5))
          exact sameK.sameMessage x (msgCells x (.slice Av x.sigs.length cv)) (msgCells x vd) F F W ⟨_, rfl, HVX.out.belowF sigE_mono HF.out hwW⟩ ⟨_, rfl, HVD.out.belowF sigE_mono HF.out hwW⟩ (fun b hb => Nat.lt_of_lt_of_le (HF.out b hb) hwW.size) (fun b hb => Nat.lt_of_lt_of_le (HF.out b hb) hwW.size)
        refine wp_region_held (S := (fun W => Below w5.heap.size w5 W)) (by kernel_rfl) ?_
        refine wpAnyH_take (i := 0) (oi := { dst := some 96, op := Op.move (Operand.tmp 10), type := 4, pos := "law.go:37", after := #[], guard := none }) (v := ?_) rfl (by kernel_rfl) (by kernel_rfl) (by kernel_rfl) (fun _ _ _ h => h) (Or.inl ⟨by rfl, ?_⟩) (by exact (Below.refl w5.heap.size w5).drew) ?_
        rotate_left; focus (intro W hW; go_simp; try with_reducible rfl)
        (try simp only [Act.put, List.setIfInBounds_toArray, List.set_cons_zero, List.set_cons_succ])
        refine wpAnyH_take (i := 1) (oi := { dst := some 97, op := Op.move (Operand.tmp 96), type := 4, pos := "law.go:37", after := #[{ on := 0, ground := Ground.data }], guard := none }) (v := ?_) rfl (by kernel_rfl) (by kernel_rfl) (by kernel_rfl) (fun _ _ _ h => h) (Or.inl ⟨by rfl, ?_⟩) (by exact (Below.refl w5.heap.size w5).drew) ?_
        rotate_left; focus (intro W hW; go_simp; try with_reducible rfl)
        (try simp only [Act.put, List.setIfInBounds_toArray, List.set_cons_zero, List.set_cons_succ])
        refine wpAnyH_take (i := 2) (oi := { dst := some 98, op := Op.load 25 (Operand.tmp 9), type := 25, pos := "law.go:37", after := #[{ on := 1, ground := Ground.guard }], guard := some (1, true) }) (v := undef) rfl (by kernel_rfl) (by kernel_rfl) (by kernel_rfl) (fun _ _ _ h => h) (Or.inr ⟨by rfl, rfl⟩) (by exact (Below.refl w5.heap.size w5).drew) ?_
        (try simp only [Act.put, List.setIfInBounds_toArray, List.set_cons_zero, List.set_cons_succ])
        refine wpAnyH_take (i := 3) (oi := { dst := some 99, op := Op.fieldAddr 32 (Operand.tmp 3) 1, type := 0, pos := "law.go:37", after := #[{ on := 1, ground := Ground.guard }], guard := some (1, true) }) (v := undef) rfl (by kernel_rfl) (by kernel_rfl) (by kernel_rfl) (fun _ _ _ h => h) (Or.inr ⟨by rfl, rfl⟩) (by exact (Below.refl w5.heap.size w5).drew) ?_
        (try simp only [Act.put, List.setIfInBounds_toArray, List.set_cons_zero, List.set_cons_succ])
        refine wpAnyH_take (i := 4) (oi := { dst := some 100, op := Op.load 25 (Operand.tmp 99), type := 25, pos := "law.go:37", after := #[{ on := 3, ground := Ground.data }, { on := 1, ground := Ground.guard }], guard := some (1, true) }) (v := undef) rfl (by kernel_rfl) (by kernel_rfl) (by kernel_rfl) (fun _ _ _ h => h) (Or.inr ⟨by rfl, rfl⟩) (by exact (Below.refl w5.heap.size w5).drew) ?_
        (try simp only [Act.put, List.setIfInBounds_toArray, List.set_cons_zero, List.set_cons_succ])
        refine wpAnyH_take (i := 5) (oi := { dst := some 101, op := Op.binOp BinOp.neq 25 (Operand.tmp 98) (Operand.tmp 100) 25, type := 4, pos := "law.go:37", after := #[{ on := 2, ground := Ground.data }, { on := 4, ground := Ground.data }, { on := 1, ground := Ground.guard }], guard := some (1, true) }) (v := undef) rfl (by kernel_rfl) (by kernel_rfl) (by kernel_rfl) (fun _ _ _ h => h) (Or.inr ⟨by rfl, rfl⟩) (by exact (Below.refl w5.heap.size w5).drew) ?_
        (try simp only [Act.put, List.setIfInBounds_toArray, List.set_cons_zero, List.set_cons_succ])
        refine wpAnyH_take (i := 6) (oi := { dst := some 102, op := Op.move (Operand.tmp 101), type := 4, pos := "law.go:37", after := #[{ on := 5, ground := Ground.data }, { on := 1, ground := Ground.chain }, { on := 1, ground := Ground.guard }], guard := some (1, true) }) (v := undef) rfl (by kernel_rfl) (by kernel_rfl) (by kernel_rfl) (fun _ _ _ h => h) (Or.inr ⟨by rfl, rfl⟩) (by exact (Below.refl w5.heap.size w5).drew) ?_
        (try simp only [Act.put, List.setIfInBounds_toArray, List.set_cons_zero, List.set_cons_succ])
        refine wpAnyH_take (i := 7) (oi := { dst := some 103, op := Op.move (Operand.tmp 0), type := 34, pos := "law.go:37", after := #[{ on := 6, ground := Ground.guard }], guard := some (6, false) }) (v := undef) rfl (by kernel_rfl) (by kernel_rfl) (by kernel_rfl) (fun _ _ _ h => h) (Or.inr ⟨by rfl, rfl⟩) (by exact (Below.refl w5.heap.size w5).drew) ?_
        (try simp only [Act.put, List.setIfInBounds_toArray, List.set_cons_zero, List.set_cons_succ])
        refine wpAnyH_take (i := 8) (oi := { dst := some 104, op := Op.move (Operand.tmp 8), type := 3, pos := "law.go:37", after := #[{ on := 6, ground := Ground.guard }], guard := some (6, false) }) (v := undef) rfl (by kernel_rfl) (by kernel_rfl) (by kernel_rfl) (fun _ _ _ h => h) (Or.inr ⟨by rfl, rfl⟩) (by exact (Below.refl w5.heap.size w5).drew) ?_
        (try simp only [Act.put, List.setIfInBounds_toArray, List.set_cons_zero, List.set_cons_succ])
        refine wpAnyH_take (i := 9) (oi := { dst := some 105, op := Op.indexAddr 34 (Operand.tmp 103) (Operand.tmp 104), type := 0, pos := "law.go:37", after := #[{ on := 7, ground := Ground.data }, { on := 8, ground := Ground.data }, { on := 6, ground := Ground.guard }], guard := some (6, false) }) (v := undef) rfl (by kernel_rfl) (by kernel_rfl) (by kernel_rfl) (fun _ _ _ h => h) (Or.inr ⟨by rfl, rfl⟩) (by exact (Below.refl w5.heap.size w5).drew) ?_
        (try simp only [Act.put, List.setIfInBounds_toArray, List.set_cons_zero, List.set_cons_succ])
        refine wpAnyH_take (i := 10) (oi := { dst := some 106, op := Op.load 70 (Operand.tmp 105), type := 70, pos := "law.go:37", after := #[{ on := 9, ground := Ground.data }, { on := 6, ground := Ground.guard }], guard := some (6, false) }) (v := undef) rfl (by kernel_rfl) (by kernel_rfl) (by kernel_rfl) (fun _ _ _ h => h) (Or.inr ⟨by rfl, rfl⟩) (by exact (Below.refl w5.heap.size w5).drew) ?_
        (try simp only [Act.put, List.setIfInBounds_toArray, List.set_cons_zero, List.set_cons_succ])
        refine wpAnyH_take (i := 11) (oi := { dst := some 107, op := Op.call { callee := Callee.invoke (Operand.tmp 106) "Where", args := #[], argTypes := #[] }, type := 23, pos := "law.go:37", after := #[{ on := 10, ground := Ground.data }, { on := 6, ground := Ground.chain }, { on := 6, ground := Ground.guard }], guard := some (6, false) }) (v := undef) rfl (by kernel_rfl) (by kernel_rfl) (by kernel_rfl) (fun _ _ _ h => h) (Or.inr ⟨by rfl, rfl⟩) (by exact (Below.refl w5.heap.size w5).drew) ?_
        (try simp only [Act.put, List.setIfInBounds_toArray, List.set_cons_zero, List.set_cons_succ])
        refine wpAnyH_take (i := 12) (oi := { dst := some 108, op := Op.fieldAddr 25 (Operand.tmp 9) 0, type := 0, pos := "law.go:37", after := #[{ on := 6, ground := Ground.guard }], guard := some (6, false) }) (v := undef) rfl (by kernel_rfl) (by kernel_rfl) (by kernel_rfl) (fun _ _ _ h => h) (Or.inr ⟨by rfl, rfl⟩) (by exact (Below.refl w5.heap.size w5).drew) ?_
        (try simp only [Act.put, List.setIfInBounds_toArray, List.set_cons_zero, List.set_cons_succ])
        refine wpAnyH_take (i := 13) (oi := { dst := some 109, op := Op.load 23 (Operand.tmp 108), type := 23, pos := "law.go:37", after := #[{ on := 12, ground := Ground.data }, { on := 6, ground := Ground.guard }], guard := some (6, false) }) (v := undef) rfl (by kernel_rfl) (by kernel_rfl) (by kernel_rfl) (fun _ _ _ h => h) (Or.inr ⟨by rfl, rfl⟩) (by exact (Below.refl w5.heap.size w5).drew) ?_
        (try simp only [Act.put, List.setIfInBounds_toArray, List.set_cons_zero, List.set_cons_succ])
        refine wpAnyH_take (i := 14) (oi := { dst := some 110, op := Op.binOp BinOp.neq 23 (Operand.tmp 107) (Operand.tmp 109) 23, type := 4, pos := "law.go:37", after := #[{ on := 11, ground := Ground.data }, { on := 13, ground := Ground.data }, { on := 6, ground := Ground.guard }], guard := some (6, false) }) (v := undef) rfl (by kernel_rfl) (by kernel_rfl) (by kernel_rfl) (fun _ _ _ h => h) (Or.inr ⟨by rfl, rfl⟩) (by exact (Below.refl w5.heap.size w5).drew) ?_
        (try simp only [Act.put, List.setIfInBounds_toArray, List.set_cons_zero, List.set_cons_succ])
        refine wpAnyH_take (i := 15) (oi := { dst := some 111, op := Op.pick (Operand.tmp 102) (Operand.const (Value.bool true)) (Operand.tmp 110), type := 4, pos := "law.go:37", after := #[{ on := 6, ground := Ground.data }, { on := 14, ground := Ground.data }, { on := 1, ground := Ground.guard }], guard := some (1, true) }) (v := undef) rfl (by kernel_rfl) (by kernel_rfl) (by kernel_rfl) (fun _ _ _ h => h) (Or.inr ⟨by rfl, rfl⟩) (by exact (Below.refl w5.heap.size w5).drew) ?_
        (try simp only [Act.put, List.setIfInBounds_toArray, List.set_cons_zero, List.set_cons_succ])
        refine wpAnyH_take (i := 16) (oi := { dst := some 112, op := Op.pick (Operand.tmp 97) (Operand.tmp 111) (Operand.const (Value.bool false)), type := 4, pos := "law.go:37", after := #[{ on := 1, ground := Ground.data }, { on := 15, ground := Ground.data }], guard := none }) (v := ?_) rfl (by kernel_rfl) (by kernel_rfl) (by kernel_rfl) (fun _ _ _ h => h) (Or.inl ⟨by rfl, ?_⟩) (by exact (Below.refl w5.heap.size w5).drew) ?_
        rotate_left; focus (intro W hW; go_simp; try with_reducible rfl)
        (try simp only [Act.put, List.setIfInBounds_toArray, List.set_cons_zero, List.set_cons_succ])
        refine wpAnyH_take (i := 17) (oi := { dst := some 113, op := Op.move (Operand.tmp 112), type := 4, pos := "law.go:37", after := #[{ on := 16, ground := Ground.data }, { on := 11, ground := Ground.chain }], guard := none }) (v := ?_) rfl (by kernel_rfl) (by kernel_rfl) (by kernel_rfl) (fun _ _ _ h => h) (Or.inl ⟨by rfl, ?_⟩) (by exact (Below.refl w5.heap.size w5).drew) ?_
        rotate_left; focus (intro W hW; go_simp; try with_reducible rfl)
        (try simp only [Act.put, List.setIfInBounds_toArray, List.set_cons_zero, List.set_cons_succ])
        refine wpAnyH_take (i := 18) (oi := { dst := some 114, op := Op.move (Operand.tmp 12), type := 4, pos := "law.go:37", after := #[{ on := 17, ground := Ground.guard }], guard := some (17, false) }) (v := ?_) rfl (by kernel_rfl) (by kernel_rfl) (by kernel_rfl) (fun _ _ _ h => h) (Or.inl ⟨by rfl, ?_⟩) (by exact (Below.refl w5.heap.size w5).drew) ?_
        rotate_left; focus (intro W hW; go_simp; try with_reducible rfl)
        (try simp only [Act.put, List.setIfInBounds_toArray, List.set_cons_zero, List.set_cons_succ])
        refine wpAnyH_take (i := 19) (oi := { dst := some 115, op := Op.move (Operand.tmp 114), type := 4, pos := "law.go:37", after := #[{ on := 18, ground := Ground.data }, { on := 17, ground := Ground.chain }, { on := 17, ground := Ground.guard }], guard := some (17, false) }) (v := ?_) rfl (by kernel_rfl) (by kernel_rfl) (by kernel_rfl) (fun _ _ _ h => h) (Or.inl ⟨by rfl, ?_⟩) (by exact (Below.refl w5.heap.size w5).drew) ?_
        rotate_left; focus (intro W hW; go_simp; try with_reducible rfl)
        (try simp only [Act.put, List.setIfInBounds_toArray, List.set_cons_zero, List.set_cons_succ])
        refine wpAnyH_take (i := 20) (oi := { dst := some 116, op := Op.load 28 (Operand.tmp 11), type := 28, pos := "law.go:37", after := #[{ on := 19, ground := Ground.guard }], guard := some (19, true) }) (v := undef) rfl (by kernel_rfl) (by kernel_rfl) (by kernel_rfl) (fun _ _ _ h => h) (Or.inr ⟨by rfl, rfl⟩) (by exact (Below.refl w5.heap.size w5).drew) ?_
        (try simp only [Act.put, List.setIfInBounds_toArray, List.set_cons_zero, List.set_cons_succ])
        refine wpAnyH_take (i := 21) (oi := { dst := some 117, op := Op.fieldAddr 32 (Operand.tmp 3) 2, type := 0, pos := "law.go:37", after := #[{ on := 19, ground := Ground.guard }], guard := some (19, true) }) (v := undef) rfl (by kernel_rfl) (by kernel_rfl) (by kernel_rfl) (fun _ _ _ h => h) (Or.inr ⟨by rfl, rfl⟩) (by exact (Below.refl w5.heap.size w5).drew) ?_
        (try simp only [Act.put, List.setIfInBounds_toArray, List.set_cons_zero, List.set_cons_succ])
        refine wpAnyH_take (i := 22) (oi := { dst := some 118, op := Op.load 28 (Operand.tmp 117), type := 28, pos := "law.go:37", after := #[{ on := 21, ground := Ground.data }, { on := 19, ground := Ground.guard }], guard := some (19, true) }) (v := undef) rfl (by kernel_rfl) (by kernel_rfl) (by kernel_rfl) (fun _ _ _ h => h) (Or.inr ⟨by rfl, rfl⟩) (by exact (Below.refl w5.heap.size w5).drew) ?_
        (try simp only [Act.put, List.setIfInBounds_toArray, List.set_cons_zero, List.set_cons_succ])
        refine wpAnyH_take (i := 23) (oi := { dst := some 119, op := Op.call { callee := Callee.value (Operand.func 24), args := #[Operand.tmp 116, Operand.tmp 118], argTypes := #[28, 28] }, type := 4, pos := "law.go:37", after := #[{ on := 20, ground := Ground.data }, { on := 22, ground := Ground.data }, { on := 19, ground := Ground.chain }, { on := 19, ground := Ground.guard }], guard := some (19, true) }) (v := undef) rfl (by kernel_rfl) (by kernel_rfl) (by kernel_rfl) (fun _ _ _ h => h) (Or.inr ⟨by rfl, rfl⟩) (by exact (Below.refl w5.heap.size w5).drew) ?_
        (try simp only [Act.put, List.setIfInBounds_toArray, List.set_cons_zero, List.set_cons_succ])
        refine wpAnyH_take (i := 24) (oi := { dst := some 120, op := Op.unOp UnOp.not 4 (Operand.tmp 119), type := 4, pos := "law.go:37", after := #[{ on := 23, ground := Ground.data }, { on := 19, ground := Ground.guard }], guard := some (19, true) }) (v := undef) rfl (by kernel_rfl) (by kernel_rfl) (by kernel_rfl) (fun _ _ _ h => h) (Or.inr ⟨by rfl, rfl⟩) (by exact (Below.refl w5.heap.size w5).drew) ?_
        (try simp only [Act.put, List.setIfInBounds_toArray, List.set_cons_zero, List.set_cons_succ])
        refine wpAnyH_take (i := 25) (oi := { dst := some 121, op := Op.pick (Operand.tmp 115) (Operand.tmp 120) (Operand.const (Value.bool false)), type := 4, pos := "law.go:37", after := #[{ on := 19, ground := Ground.data }, { on := 24, ground := Ground.data }, { on := 17, ground := Ground.guard }], guard := some (17, false) }) (v := ?_) rfl (by kernel_rfl) (by kernel_rfl) (by kernel_rfl) (fun _ _ _ h => h) (Or.inl ⟨by rfl, ?_⟩) (by exact (Below.refl w5.heap.size w5).drew) ?_
        rotate_left; focus (intro W hW; go_simp; try with_reducible rfl)
        (try simp only [Act.put, List.setIfInBounds_toArray, List.set_cons_zero, List.set_cons_succ])
        refine wpAnyH_take (i := 26) (oi := { dst := some 122, op := Op.pick (Operand.tmp 113) (Operand.const (Value.bool true)) (Operand.tmp 121), type := 4, pos := "law.go:37", after := #[{ on := 17, ground := Ground.data }, { on := 25, ground := Ground.data }], guard := none }) (v := ?_) rfl (by kernel_rfl) (by kernel_rfl) (by kernel_rfl) (fun _ _ _ h => h) (Or.inl ⟨by rfl, ?_⟩) (by exact (Below.refl w5.heap.size w5).drew) ?_
        rotate_left; focus (intro W hW; go_simp; try with_reducible rfl)
        (try simp only [Act.put, List.setIfInBounds_toArray, List.set_cons_zero, List.set_cons_succ])
        refine wpAnyH_done (by kernel_rfl) ?_ _
        go_wp2
        refine wp_region_held (S := (fun W => Below w5.heap.size w5 W)) (by kernel_rfl) ?_
        refine wpAnyH_take (i := 0) (oi := { dst := some 124, op := Op.load 62 (Operand.tmp 13), type := 62, pos := "law.go:41", after := #[], guard := none }) (v := ?_) rfl (by kernel_rfl) (by kernel_rfl) (by kernel_rfl) (fun _ _ _ h => h) (Or.inl ⟨by rfl, ?_⟩) (by exact (Below.refl w5.heap.size w5).drew.drew) ?_
        rotate_left; focus (intro W hW; obtain ⟨x0, x1, x2, x3, x4, x5, x6, x7, x8, x9, x10, x11, x12, x13, x14, x15, x16, x17⟩ := CELLS.out W hW; go_simp; try with_reducible rfl)
        (try simp only [Act.put, List.setIfInBounds_toArray, List.set_cons_zero, List.set_cons_succ])
        refine wpAnyH_take (i := 1) (oi := { dst := some 125, op := Op.fieldAddr 32 (Operand.tmp 3) 3, type := 0, pos := "law.go:41", after := #[], guard := none }) (v := ?_) rfl (by kernel_rfl) (by kernel_rfl) (by kernel_rfl) (fun _ _ _ h => h) (Or.inl ⟨by rfl, ?_⟩) (by exact (Below.refl w5.heap.size w5).drew.drew) ?_
        rotate_left; focus (intro W hW; go_simp; try with_reducible rfl)
        (try simp only [Act.put, List.setIfInBounds_toArray, List.set_cons_zero, List.set_cons_succ])
        refine wpAnyH_take (i := 2) (oi := { dst := some 126, op := Op.load 29 (Operand.tmp 125), type := 29, pos := "law.go:41", after := #[{ on := 1, ground := Ground.data }], guard := none }) (v := ?_) rfl (by kernel_rfl) (by kernel_rfl) (by kernel_rfl) (fun _ _ _ h => h) (Or.inl ⟨by rfl, ?_⟩) (by exact (Below.refl w5.heap.size w5).drew.drew) ?_
        rotate_left; focus (intro W hW; obtain ⟨x0, x1, x2, x3, x4, x5, x6, x7, x8, x9, x10, x11, x12, x13, x14, x15, x16, x17⟩ := CELLS.out W hW; go_simp; try with_reducible rfl)
        (try simp only [Act.put, List.setIfInBounds_toArray, List.set_cons_zero, List.set_cons_succ])
        refine wpAnyH_take (i := 3) (oi := { dst := some 127, op := Op.move (Operand.tmp 6), type := 3, pos := "law.go:41", after := #[], guard := none }) (v := ?_) rfl (by kernel_rfl) (by kernel_rfl) (by kernel_rfl) (fun _ _ _ h => h) (Or.inl ⟨by rfl, ?_⟩) (by exact (Below.refl w5.heap.size w5).drew.drew) ?_
        rotate_left; focus (intro W hW; go_simp; try with_reducible rfl)
        (try simp only [Act.put, List.setIfInBounds_toArray, List.set_cons_zero, List.set_cons_succ])
        refine wpAnyH_take (i := 4) (oi := { dst := some 128, op := Op.indexAddr 29 (Operand.tmp 126) (Operand.tmp 127), type := 0, pos := "law.go:41", after := #[{ on := 2, ground := Ground.data }, { on := 3, ground := Ground.data }], guard := none }) (v := ?_) rfl (by kernel_rfl) (by kernel_rfl) (by kernel_rfl) (fun _ _ _ h => h) (Or.inl ⟨by rfl, ?_⟩) (by exact (Below.refl w5.heap.size w5).drew.drew) ?_
        rotate_left; focus (intro W hW; go_simp; try with_reducible rfl)
        (try simp only [Act.put, List.setIfInBounds_toArray, List.set_cons_zero, List.set_cons_succ])
        refine wpAnyH_take (i := 5) (oi := { dst := some 129, op := Op.load 62 (Operand.tmp 128), type := 62, pos := "law.go:41", after := #[{ on := 4, ground := Ground.data }], guard := none }) (v := ?_) rfl (by kernel_rfl) (by kernel_rfl) (by kernel_rfl) (fun _ _ _ h => h) (Or.inl ⟨by rfl, ?_⟩) (by exact (Below.refl w5.heap.size w5).drew.drew) ?_
        rotate_left; focus (intro W hW; obtain ⟨x0, x1, x2, x3, x4, x5, x6, x7, x8, x9, x10, x11, x12, x13, x14, x15, x16, x17⟩ := CELLS.out W hW; go_simp; try with_reducible rfl)
        (try simp only [Act.put, List.setIfInBounds_toArray, List.set_cons_zero, List.set_cons_succ])
        refine wpAnyH_ready (rs := [6]) (by kernel_rfl) (by simp) ?_
        refine AllReadyH.cons (o := { dst := some 130, op := Op.call { callee := Callee.value (Operand.func 13), args := #[Operand.tmp 124, Operand.tmp 129], argTypes := #[62, 62] }, type := 4, pos := "law.go:41", after := #[{ on := 0, ground := Ground.data }, { on := 5, ground := Ground.data }], guard := none }) rfl (fun K hK => ?_) AllReadyH.nil
        go_simp
        go_at_call 13
        refine (HSM.out _ (by exact (Below.refl w5.heap.size w5).drew.drew)).mono ?_
        rintro e w6 ⟨rfl, hbw6⟩
        have Bw6 := Lib.hid (show Below w5.heap.size w5 w6 from Below.trans (Below.refl w5.heap.size w5).drew.drew (hbw6.mono (Below.size (Below.refl w5.heap.size w5).drew.drew)))
        clear hbw6
        refine hK.out _ _ (by exact Bw6.out) (fun hHeld => ?_)
        clear hHeld hK K
        (try simp only [Act.put, List.setIfInBounds_toArray, List.set_cons_zero, List.set_cons_succ])
        refine wpAnyH_take (i := 7) (oi := { dst := some 131, op := Op.unOp UnOp.not 4 (Operand.tmp 130), type := 4, pos := "law.go:41", after := #[{ on := 6, ground := Ground.data }], guard := none }) (v := ?_) rfl (by kernel_rfl) (by kernel_rfl) (by kernel_rfl) (fun _ _ _ h => h) (Or.inl ⟨by rfl, ?_⟩) (by exact Bw6.out) ?_
        rotate_left; focus (intro W hW; go_simp; try with_reducible rfl)
        (try simp only [Act.put, List.setIfInBounds_toArray, List.set_cons_zero, List.set_cons_succ])
        refine wpAnyH_take (i := 8) (oi := { dst := some 132, op := Op.move (Operand.tmp 131), type := 4, pos := "law.go:41", after := #[{ on := 7, ground := Ground.data }, { on := 6, ground := Ground.chain }], guard := none }) (v := ?_) rfl (by kernel_rfl) (by kernel_rfl) (by kernel_rfl) (fun _ _ _ h => h) (Or.inl ⟨by rfl, ?_⟩) (by exact Bw6.out) ?_
        rotate_left; focus (intro W hW; go_simp; try with_reducible rfl)
        (try simp only [Act.put, List.setIfInBounds_toArray, List.set_cons_zero, List.set_cons_succ])
        refine wpAnyH_take (i := 9) (oi := { dst := some 133, op := Op.move (Operand.tmp 0), type := 34, pos := "law.go:41", after := #[{ on := 8, ground := Ground.guard }], guard := some (8, false) }) (v := ?_) rfl (by kernel_rfl) (by kernel_rfl) (by kernel_rfl) (fun _ _ _ h => h) (Or.inl ⟨by rfl, ?_⟩) (by exact Bw6.out) ?_
        rotate_left; focus (intro W hW; go_simp; try with_reducible rfl)
        (try simp only [Act.put, List.setIfInBounds_toArray, List.set_cons_zero, List.set_cons_succ])
        refine wpAnyH_take (i := 10) (oi := { dst := some 134, op := Op.move (Operand.tmp 8), type := 3, pos := "law.go:41", after := #[{ on := 8, ground := Ground.guard }], guard := some (8, false) }) (v := ?_) rfl (by kernel_rfl) (by kernel_rfl) (by kernel_rfl) (fun _ _ _ h => h) (Or.inl ⟨by rfl, ?_⟩) (by exact Bw6.out) ?_
        rotate_left; focus (intro W hW; go_simp; try with_reducible rfl)
        (try simp only [Act.put, List.setIfInBounds_toArray, List.set_cons_zero, List.set_cons_succ])
        refine wpAnyH_take (i := 11) (oi := { dst := some 135, op := Op.indexAddr 34 (Operand.tmp 133) (Operand.tmp 134), type := 0, pos := "law.go:41", after := #[{ on := 9, ground := Ground.data }, { on := 10, ground := Ground.data }, { on := 8, ground := Ground.guard }], guard := some (8, false) }) (v := ?_) rfl (by kernel_rfl) (by kernel_rfl) (by kernel_rfl) (fun _ _ _ h => h) (Or.inl ⟨by rfl, ?_⟩) (by exact Bw6.out) ?_
        rotate_left; focus (intro W hW; go_simp; try with_reducible rfl)
        (try simp only [Act.put, List.setIfInBounds_toArray, List.set_cons_zero, List.set_cons_succ])
        refine wpAnyH_take (i := 12) (oi := { dst := some 136, op := Op.load 70 (Operand.tmp 135), type := 70, pos := "law.go:41", after := #[{ on := 11, ground := Ground.data }, { on := 8, ground := Ground.guard }], guard := some (8, false) }) (v := ?_) rfl (by kernel_rfl) (by kernel_rfl) (by kernel_rfl) (fun _ _ _ h => h) (Or.inl ⟨by rfl, ?_⟩) (by exact Bw6.out) ?_
        rotate_left; focus (intro W hW; obtain ⟨x0, x1, x2, x3, x4, x5, x6, x7, x8, x9, x10, x11, x12, x13, x14, x15, x16, x17⟩ := CELLS.out W hW; go_simp; try with_reducible rfl)
        (try simp only [Act.put, List.setIfInBounds_toArray, List.set_cons_zero, List.set_cons_succ])
        refine wpAnyH_take (i := 14) (oi := { dst := some 138, op := Op.fieldAddr 62 (Operand.tmp 13) 0, type := 0, pos := "law.go:41", after := #[{ on := 8, ground := Ground.guard }], guard := some (8, false) }) (v := ?_) rfl (by kernel_rfl) (by kernel_rfl) (by kernel_rfl) (fun _ _ _ h => h) (Or.inl ⟨by rfl, ?_⟩) (by exact Bw6.out) ?_
        rotate_left; focus (intro W hW; go_simp; try with_reducible rfl)
        (try simp only [Act.put, List.setIfInBounds_toArray, List.set_cons_zero, List.set_cons_succ])
        refine wpAnyH_take (i := 15) (oi := { dst := some 139, op := Op.load 23 (Operand.tmp 138), type := 23, pos := "law.go:41", after := #[{ on := 14, ground := Ground.data }, { on := 8, ground := Ground.guard }], guard := some (8, false) }) (v := ?_) rfl (by kernel_rfl) (by kernel_rfl) (by kernel_rfl) (fun _ _ _ h => h) (Or.inl ⟨by rfl, ?_⟩) (by exact Bw6.out) ?_
        rotate_left; focus (intro W hW; obtain ⟨x0, x1, x2, x3, x4, x5, x6, x7, x8, x9, x10, x11, x12, x13, x14, x15, x16, x17⟩ := CELLS.out W hW; go_simp; try with_reducible rfl)
        (try simp only [Act.put, List.setIfInBounds_toArray, List.set_cons_zero, List.set_cons_succ])
        refine wpAnyH_ready (rs := [13]) (by kernel_rfl) (by simp) ?_
        refine AllReadyH.cons (o := { dst := some 137, op := Op.call { callee := Callee.invoke (Operand.tmp 136) "Where", args := #[], argTypes := #[] }, type := 23, pos := "law.go:41", after := #[{ on := 12, ground := Ground.data }, { on := 8, ground := Ground.chain }, { on := 8, ground := Ground.guard }], guard := some (8, false) }) rfl (fun K hK => ?_) AllReadyH.nil
        go_simp
        refine (HWH.out _).mono ?_
        rintro e w7 ⟨rfl, hbw7⟩
        have Bw7 := Lib.hid (show Below w5.heap.size w5 w7 from Below.trans Bw6.out (hbw7.mono (Below.size Bw6.out)))
        clear hbw7
        refine hK.out _ _ (by exact Bw7.out) (fun hHeld => ?_)
        clear hHeld hK K
        (try simp only [Act.put, List.setIfInBounds_toArray, List.set_cons_zero, List.set_cons_succ])
        refine wpAnyH_take (i := 16) (oi := { dst := some 140, op := Op.binOp BinOp.neq 23 (Operand.tmp 137) (Operand.tmp 139) 23, type := 4, pos := "law.go:41", after := #[{ on := 13, ground := Ground.data }, { on := 15, ground := Ground.data }, { on := 8, ground := Ground.guard }], guard := some (8, false) }) (v := ?_) rfl (by kernel_rfl) (by kernel_rfl) (by kernel_rfl) (fun _ _ _ h => h) (Or.inl ⟨by rfl, ?_⟩) (by exact Bw7.out) ?_
        rotate_left; focus (intro W hW; go_simp; try with_reducible rfl)
        (try simp only [Act.put, List.setIfInBounds_toArray, List.set_cons_zero, List.set_cons_succ])
        refine wpAnyH_take (i := 17) (oi := { dst := some 141, op := Op.pick (Operand.tmp 132) (Operand.const (Value.bool true)) (Operand.tmp 140), type := 4, pos := "law.go:41", after := #[{ on := 8, ground := Ground.data }, { on := 16, ground := Ground.data }], guard := none }) (v := ?_) rfl (by kernel_rfl) (by kernel_rfl) (by kernel_rfl) (fun _ _ _ h => h) (Or.inl ⟨by rfl, ?_⟩) (by exact Bw7.out) ?_
        rotate_left; focus (intro W hW; go_simp; try with_reducible rfl)
        (try simp only [Act.put, List.setIfInBounds_toArray, List.set_cons_zero, List.set_cons_succ])
        refine wpAnyH_done (by kernel_rfl) ?_ _
        have hml8 : mi ≤ 3000000000000 := by have := hml; omega
        go_wp2
        exact ⟨⟨k + 1, by go_num, by omega, by rw [hcut, msgsOf_app, List.length_append, ← HMI.out]; go_num, by rw [hcut, tabsOf_app]; simp [tabsOf], HB5.out.trans (Bw7.out.mono HB5.out.size)⟩, by simp [intOf]; omega⟩
      | tab x =>
        obtain ⟨vx, rfl, hvx⟩ : tabE w F c x := HE.out
        obtain ⟨Av, cv, rfl, _, _⟩ := hvx.form
        have HVX := Lib.hid hvx
        have hmx := HTS.out k x HHX.out
        clear hvx
        have HWH := Lib.hid (where_tab x (.slice Av x.rows.length cv))
        have a_ver := as_tab_ver (.agg (tabCells x (.slice Av x.rows.length cv)).toArray)
        have a_sta := as_tab_sta (.agg (tabCells x (.slice Av x.rows.length cv)).toArray)
        have a_msg := as_tab_msg (.agg (tabCells x (.slice Av x.rows.length cv)).toArray)
        have a_tab := as_tab_tab (.agg (tabCells x (.slice Av x.rows.length cv)).toArray)
        have iv := inv_tab (.agg (tabCells x (.slice Av x.rows.length cv)).toArray)
        have hfb := four_box wr verZ staZ msgZ (tabCells x (.slice Av x.rows.length cv)).toArray 25 28 62 79
        simp only [ndV, rv, rank, tabCells, verZ, staZ, msgZ, tabZ] at c0 k0 a_ver a_sta a_msg a_tab hfb iv HWH
        have hc5 : ((((wr.alloc (.cells #[.int .i64 0, .int .i64 0, .string ⟨#[]⟩] 25)).alloc (.cells #[.int .i64 0, .int .i64 0, .slice none 0 0] 28)).alloc (.cells #[.int .i64 0, .int .i64 0, .int .u32 0, .bool false, .string ⟨#[]⟩, .int .i64 0, .string ⟨#[]⟩, .slice none 0 0] 62)).alloc (.cells #[.int .i64 x.line, .int .i64 x.col, .int .u32 x.id, .bool x.wide, .string x.signal, .slice Av x.rows.length cv] 79)).cell? ⟨b, off + k, none⟩ = wr.cell? ⟨b, off + k, none⟩ := hfb.2.2.2.2.cell (p := ⟨b, off + k, none⟩) hblr
        rw [c0] at hc5
        have HFB := Lib.hid hfb
        have HC5 := Lib.hid hc5
        clear HE hfb hc5
        go_wp2
        generalize ((((wr.alloc (.cells #[.int .i64 0, .int .i64 0, .string ⟨#[]⟩] 25)).alloc (.cells #[.int .i64 0, .int .i64 0, .slice none 0 0] 28)).alloc (.cells #[.int .i64 0, .int .i64 0, .int .u32 0, .bool false, .string ⟨#[]⟩, .int .i64 0, .string ⟨#[]⟩, .slice none 0 0] 62)).alloc (.cells #[.int .i64 x.line, .int .i64 x.col, .int .u32 x.id, .bool x.wide, .string x.signal, .slice Av x.rows.length cv] 79)) = w5 at HFB HC5 ⊢
        have hlt5 : w.heap.size < w5.heap.size := Nat.lt_of_lt_of_le hwr1 HFB.out.2.2.2.2.size
        have hb5 : b < w5.heap.size := Nat.lt_of_lt_of_le hblr HFB.out.2.2.2.2.size
        have HX5 := Lib.hid (HXR.out.below HFB.out.2.2.2.2 hwr1)
        have HB5 : Hid (Below w1.heap.size w1 w5) := Lib.hid (HB.out.trans (HFB.out.2.2.2.2.mono HB.out.size))
        clear a_ver a_sta a_msg a_tab c0 k0 hbl1 hbl2 hbl3 hgk1 hgk2 hgk3
        obtain ⟨mi, hmi⟩ : ∃ mi, mi = (tabsOf (N.take k)).length := ⟨_, rfl⟩
        rw [← hmi] at hmx ⊢
        have HMI := Lib.hid hmi
        clear hmi
        have hml : mi < d.tabs.length := (List.getElem?_eq_some_iff.1 hmx).1
        obtain ⟨bm, om, cs, rfl, hFm, hlm, hrm, hem⟩ := HT.out.at_ (A := At) hml
        have hme : d.tabs[mi] = x := (List.getElem?_eq_some_iff.1 hmx).2
        rw [hme] at hem
        obtain ⟨vd, rfl, hvd⟩ := hem
        have HVD := Lib.hid hvd
        have hbm : bm < w.heap.size := HF.out bm hFm
        have hwW5 : Below w.heap.size w w5 := HBW.out.trans (HFB.out.2.2.2.2.mono HBW.out.size)
        have HRM := Lib.hid (fun (i : Nat) (u : Value) (hj : (tabCells x vd)[i]? = some u) => (hwW5.cell (p := ⟨bm, om + mi * 6 + i, none⟩) hbm).trans (hrm i u hj))
        have hbm5 : bm < w5.heap.size := Nat.lt_of_lt_of_le hbm hwW5.size
        have HWW := Lib.hid hwW5
        clear hrm hlm hvd hme hwW5
        have CELLS : Hid (∀ W, Below w5.heap.size w5 W → W.cell? ⟨wr.heap.size + 1 + 1 + 1, 0, none⟩ = some (.int .i64 x.line) ∧ W.cell? ⟨wr.heap.size + 1 + 1 + 1, 1, none⟩ = some (.int .i64 x.col) ∧ W.cell? ⟨wr.heap.size + 1 + 1 + 1, 2, none⟩ = some (.int .u32 x.id) ∧ W.cell? ⟨wr.heap.size + 1 + 1 + 1, 3, none⟩ = some (.bool x.wide) ∧ W.cell? ⟨wr.heap.size + 1 + 1 + 1, 4, none⟩ = some (.string x.signal) ∧ W.cell? ⟨wr.heap.size + 1 + 1 + 1, 5, none⟩ = some (.slice Av x.rows.length cv) ∧ W.cell? ⟨w.heap.size, 8, none⟩ = some (.slice (some ⟨bm, om, none⟩) d.tabs.length ct) ∧ W.cell? ⟨b, off + k, none⟩ = some (.iface 79 (.agg #[.int .i64 x.line, .int .i64 x.col, .int .u32 x.id, .bool x.wide, .string x.signal, .slice Av x.rows.length cv])) ∧ W.cell? ⟨bm, om + mi * 6, none⟩ = some (.int .i64 x.line) ∧ W.cell? ⟨bm, om + mi * 6 + 1, none⟩ = some (.int .i64 x.col) ∧ W.cell? ⟨bm, om + mi * 6 + 2, none⟩ = some (.int .u32 x.id) ∧ W.cell? ⟨bm, om + mi * 6 + 3, none⟩ = some (.bool x.wide) ∧ W.cell? ⟨bm, om + mi * 6 + 4, none⟩ = some (.string x.signal) ∧ W.cell? ⟨bm, om + mi * 6 + 5, none⟩ = some (vd)) := fun W hW => ⟨(hW.cell (p := ⟨wr.heap.size + 1 + 1 + 1, 0, none⟩) HFB.out.2.2.2.1.lt).trans ((HFB.out.2.2.2.1.cell 0).trans rfl), (hW.cell (p := ⟨wr.heap.size + 1 + 1 + 1, 1, none⟩) HFB.out.2.2.2.1.lt).trans ((HFB.out.2.2.2.1.cell 1).trans rfl), (hW.cell (p := ⟨wr.heap.size + 1 + 1 + 1, 2, none⟩) HFB.out.2.2.2.1.lt).trans ((HFB.out.2.2.2.1.cell 2).trans rfl), (hW.cell (p := ⟨wr.heap.size + 1 + 1 + 1, 3, none⟩) HFB.out.2.2.2.1.lt).trans ((HFB.out.2.2.2.1.cell 3).trans rfl), (hW.cell (p := ⟨wr.heap.size + 1 + 1 + 1, 4, none⟩) HFB.out.2.2.2.1.lt).trans ((HFB.out.2.2.2.1.cell 4).trans rfl), (hW.cell (p := ⟨wr.heap.size + 1 + 1 + 1, 5, none⟩) HFB.out.2.2.2.1.lt).trans ((HFB.out.2.2.2.1.cell 5).trans rfl), (hW.cell (p := ⟨w.heap.size, 8, none⟩) hlt5).trans ((HX5.out.cell 8).trans rfl), (hW.cell (p := ⟨b, off + k, none⟩) hb5).trans (HC5.out), (hW.cell (p := ⟨bm, om + mi * 6, none⟩) hbm5).trans (HRM.out 0 _ rfl), (hW.cell (p := ⟨bm, om + mi * 6 + 1, none⟩) hbm5).trans (HRM.out 1 _ rfl), (hW.cell (p := ⟨bm, om + mi * 6 + 2, none⟩) hbm5).trans (HRM.out 2 _ rfl), (hW.cell (p := ⟨bm, om + mi * 6 + 3, none⟩) hbm5).trans (HRM.out 3 _ rfl), (hW.cell (p := ⟨bm, om + mi * 6 + 4, none⟩) hbm5).trans (HRM.out 4 _ rfl), (hW.cell (p := ⟨bm, om + mi * 6 + 5, none⟩) hbm5).trans (HRM.out 5 _ rfl)⟩
        have HSM : Hid (∀ W, Below w5.heap.size w5 W → Calls Try.prog 25 #[.agg #[.int .i64 x.line, .int .i64 x.col, .int .u32 x.id, .bool x.wide, .string x.signal, .slice Av x.rows.length cv], .agg #[.int .i64 x.line, .int .i64 x.col, .int .u32 x.id, .bool x.wide, .string x.signal, vd]] W (sameK.Yes W)) := fun W hW => by
          have hwW : Below w.heap.size w W := HWW.out.trans (hW.mono (Nat.le_of_lt hlt5))
          exact sameK.sameTable x (tabCells x (.slice Av x.rows.length cv)) (tabCells x vd) F F W ⟨_, rfl, HVX.out.belowF rowE_mono HF.out hwW⟩ ⟨_, rfl, HVD.out.belowF rowE_mono HF.out hwW⟩ (fun b hb => Nat.lt_of_lt_of_le (HF.out b hb) hwW.size) (fun b hb => Nat.lt_of_lt_of_le (HF.out b hb) hwW.size)
        refine wp_region_held (S := (fun W => Below w5.heap.size w5 W)) (by kernel_rfl) ?_
        refine wpAnyH_take (i := 0) (oi := { dst := some 96, op := Op.move (Operand.tmp 10), type := 4, pos := "law.go:37", after := #[], guard := none }) (v := ?_) rfl (by kernel_rfl) (by kernel_rfl) (by kernel_rfl) (fun _ _ _ h => h) (Or.inl ⟨by rfl, ?_⟩) (by exact (Below.refl w5.heap.size w5).drew) ?_
        rotate_left; focus (intro W hW; go_simp; try with_reducible rfl)
        (try simp only [Act.put, List.setIfInBounds_toArray, List.set_cons_zero, List.set_cons_succ])
        refine wpAnyH_take (i := 1) (oi := { dst := some 97, op := Op.move (Operand.tmp 96), type := 4, pos := "law.go:37", after := #[{ on := 0, ground := Ground.data }], guard := none }) (v := ?_) rfl (by kernel_rfl) (by kernel_rfl) (by kernel_rfl) (fun _ _ _ h => h) (Or.inl ⟨by rfl, ?_⟩) (by exact (Below.refl w5.heap.size w5).drew) ?_
        rotate_left; focus (intro W hW; go_simp; try with_reducible rfl)
        (try simp only [Act.put, List.setIfInBounds_toArray, List.set_cons_zero, List.set_cons_succ])
        refine wpAnyH_take (i := 2) (oi := { dst := some 98, op := Op.load 25 (Operand.tmp 9), type := 25, pos := "law.go:37", after := #[{ on := 1, ground := Ground.guard }], guard := some (1, true) }) (v := undef) rfl (by kernel_rfl) (by kernel_rfl) (by kernel_rfl) (fun _ _ _ h => h) (Or.inr ⟨by rfl, rfl⟩) (by exact (Below.refl w5.heap.size w5).drew) ?_
        (try simp only [Act.put, List.setIfInBounds_toArray, List.set_cons_zero, List.set_cons_succ])
        refine wpAnyH_take (i := 3) (oi := { dst := some 99, op := Op.fieldAddr 32 (Operand.tmp 3) 1, type := 0, pos := "law.go:37", after := #[{ on := 1, ground := Ground.guard }], guard := some (1, true) }) (v := undef) rfl (by kernel_rfl) (by kernel_rfl) (by kernel_rfl) (fun _ _ _ h => h) (Or.inr ⟨by rfl, rfl⟩) (by exact (Below.refl w5.heap.size w5).drew) ?_
        (try simp only [Act.put, List.setIfInBounds_toArray, List.set_cons_zero, List.set_cons_succ])
        refine wpAnyH_take (i := 4) (oi := { dst := some 100, op := Op.load 25 (Operand.tmp 99), type := 25, pos := "law.go:37", after := #[{ on := 3, ground := Ground.data }, { on := 1, ground := Ground.guard }], guard := some (1, true) }) (v := undef) rfl (by kernel_rfl) (by kernel_rfl) (by kernel_rfl) (fun _ _ _ h => h) (Or.inr ⟨by rfl, rfl⟩) (by exact (Below.refl w5.heap.size w5).drew) ?_
        (try simp only [Act.put, List.setIfInBounds_toArray, List.set_cons_zero, List.set_cons_succ])
        refine wpAnyH_take (i := 5) (oi := { dst := some 101, op := Op.binOp BinOp.neq 25 (Operand.tmp 98) (Operand.tmp 100) 25, type := 4, pos := "law.go:37", after := #[{ on := 2, ground := Ground.data }, { on := 4, ground := Ground.data }, { on := 1, ground := Ground.guard }], guard := some (1, true) }) (v := undef) rfl (by kernel_rfl) (by kernel_rfl) (by kernel_rfl) (fun _ _ _ h => h) (Or.inr ⟨by rfl, rfl⟩) (by exact (Below.refl w5.heap.size w5).drew) ?_
        (try simp only [Act.put, List.setIfInBounds_toArray, List.set_cons_zero, List.set_cons_succ])
        refine wpAnyH_take (i := 6) (oi := { dst := some 102, op := Op.move (Operand.tmp 101), type := 4, pos := "law.go:37", after := #[{ on := 5, ground := Ground.data }, { on := 1, ground := Ground.chain }, { on := 1, ground := Ground.guard }], guard := some (1, true) }) (v := undef) rfl (by kernel_rfl) (by kernel_rfl) (by kernel_rfl) (fun _ _ _ h => h) (Or.inr ⟨by rfl, rfl⟩) (by exact (Below.refl w5.heap.size w5).drew) ?_
        (try simp only [Act.put, List.setIfInBounds_toArray, List.set_cons_zero, List.set_cons_succ])
        refine wpAnyH_take (i := 7) (oi := { dst := some 103, op := Op.move (Operand.tmp 0), type := 34, pos := "law.go:37", after := #[{ on := 6, ground := Ground.guard }], guard := some (6, false) }) (v := undef) rfl (by kernel_rfl) (by kernel_rfl) (by kernel_rfl) (fun _ _ _ h => h) (Or.inr ⟨by rfl, rfl⟩) (by exact (Below.refl w5.heap.size w5).drew) ?_
        (try simp only [Act.put, List.setIfInBounds_toArray, List.set_cons_zero, List.set_cons_succ])
        refine wpAnyH_take (i := 8) (oi := { dst := some 104, op := Op.move (Operand.tmp 8), type := 3, pos := "law.go:37", after := #[{ on := 6, ground := Ground.guard }], guard := some (6, false) }) (v := undef) rfl (by kernel_rfl) (by kernel_rfl) (by kernel_rfl) (fun _ _ _ h => h) (Or.inr ⟨by rfl, rfl⟩) (by exact (Below.refl w5.heap.size w5).drew) ?_
        (try simp only [Act.put, List.setIfInBounds_toArray, List.set_cons_zero, List.set_cons_succ])
        refine wpAnyH_take (i := 9) (oi := { dst := some 105, op := Op.indexAddr 34 (Operand.tmp 103) (Operand.tmp 104), type := 0, pos := "law.go:37", after := #[{ on := 7, ground := Ground.data }, { on := 8, ground := Ground.data }, { on := 6, ground := Ground.guard }], guard := some (6, false) }) (v := undef) rfl (by kernel_rfl) (by kernel_rfl) (by kernel_rfl) (fun _ _ _ h => h) (Or.inr ⟨by rfl, rfl⟩) (by exact (Below.refl w5.heap.size w5).drew) ?_
        (try simp only [Act.put, List.setIfInBounds_toArray, List.set_cons_zero, List.set_cons_succ])
        refine wpAnyH_take (i := 10) (oi := { dst := some 106, op := Op.load 70 (Operand.tmp 105), type := 70, pos := "law.go:37", after := #[{ on := 9, ground := Ground.data }, { on := 6, ground := Ground.guard }], guard := some (6, false) }) (v := undef) rfl (by kernel_rfl) (by kernel_rfl) (by kernel_rfl) (fun _ _ _ h => h) (Or.inr ⟨by rfl, rfl⟩) (by exact (Below.refl w5.heap.size w5).drew) ?_
        (try simp only [Act.put, List.setIfInBounds_toArray, List.set_cons_zero, List.set_cons_succ])
        refine wpAnyH_take (i := 11) (oi := { dst := some 107, op := Op.call { callee := Callee.invoke (Operand.tmp 106) "Where", args := #[], argTypes := #[] }, type := 23, pos := "law.go:37", after := #[{ on := 10, ground := Ground.data }, { on := 6, ground := Ground.chain }, { on := 6, ground := Ground.guard }], guard := some (6, false) }) (v := undef) rfl (by kernel_rfl) (by kernel_rfl) (by kernel_rfl) (fun _ _ _ h => h) (Or.inr ⟨by rfl, rfl⟩) (by exact (Below.refl w5.heap.size w5).drew) ?_
        (try simp only [Act.put, List.setIfInBounds_toArray, List.set_cons_zero, List.set_cons_succ])
        refine wpAnyH_take (i := 12) (oi := { dst := some 108, op := Op.fieldAddr 25 (Operand.tmp 9) 0, type := 0, pos := "law.go:37", after := #[{ on := 6, ground := Ground.guard }], guard := some (6, false) }) (v := undef) rfl (by kernel_rfl) (by kernel_rfl) (by kernel_rfl) (fun _ _ _ h => h) (Or.inr ⟨by rfl, rfl⟩) (by exact (Below.refl w5.heap.size w5).drew) ?_
        (try simp only [Act.put, List.setIfInBounds_toArray, List.set_cons_zero, List.set_cons_succ])
        refine wpAnyH_take (i := 13) (oi := { dst := some 109, op := Op.load 23 (Operand.tmp 108), type := 23, pos := "law.go:37", after := #[{ on := 12, ground := Ground.data }, { on := 6, ground := Ground.guard }], guard := some (6, false) }) (v := undef) rfl (by kernel_rfl) (by kernel_rfl) (by kernel_rfl) (fun _ _ _ h => h) (Or.inr ⟨by rfl, rfl⟩) (by exact (Below.refl w5.heap.size w5).drew) ?_
        (try simp only [Act.put, List.setIfInBounds_toArray, List.set_cons_zero, List.set_cons_succ])
        refine wpAnyH_take (i := 14) (oi := { dst := some 110, op := Op.binOp BinOp.neq 23 (Operand.tmp 107) (Operand.tmp 109) 23, type := 4, pos := "law.go:37", after := #[{ on := 11, ground := Ground.data }, { on := 13, ground := Ground.data }, { on := 6, ground := Ground.guard }], guard := some (6, false) }) (v := undef) rfl (by kernel_rfl) (by kernel_rfl) (by kernel_rfl) (fun _ _ _ h => h) (Or.inr ⟨by rfl, rfl⟩) (by exact (Below.refl w5.heap.size w5).drew) ?_
        (try simp only [Act.put, List.setIfInBounds_toArray, List.set_cons_zero, List.set_cons_succ])
        refine wpAnyH_take (i := 15) (oi := { dst := some 111, op := Op.pick (Operand.tmp 102) (Operand.const (Value.bool true)) (Operand.tmp 110), type := 4, pos := "law.go:37", after := #[{ on := 6, ground := Ground.data }, { on := 14, ground := Ground.data }, { on := 1, ground := Ground.guard }], guard := some (1, true) }) (v := undef) rfl (by kernel_rfl) (by kernel_rfl) (by kernel_rfl) (fun _ _ _ h => h) (Or.inr ⟨by rfl, rfl⟩) (by exact (Below.refl w5.heap.size w5).drew) ?_
        (try simp only [Act.put, List.setIfInBounds_toArray, List.set_cons_zero, List.set_cons_succ])
        refine wpAnyH_take (i := 16) (oi := { dst := some 112, op := Op.pick (Operand.tmp 97) (Operand.tmp 111) (Operand.const (Value.bool false)), type := 4, pos := "law.go:37", after := #[{ on := 1, ground := Ground.data }, { on := 15, ground := Ground.data }], guard := none }) (v := ?_) rfl (by kernel_rfl) (by kernel_rfl) (by kernel_rfl) (fun _ _ _ h => h) (Or.inl ⟨by rfl, ?_⟩) (by exact (Below.refl w5.heap.size w5).drew) ?_
        rotate_left; focus (intro W hW; go_simp; try with_reducible rfl)
        (try simp only [Act.put, List.setIfInBounds_toArray, List.set_cons_zero, List.set_cons_succ])
        refine wpAnyH_take (i := 17) (oi := { dst := some 113, op := Op.move (Operand.tmp 112), type := 4, pos := "law.go:37", after := #[{ on := 16, ground := Ground.data }, { on := 11, ground := Ground.chain }], guard := none }) (v := ?_) rfl (by kernel_rfl) (by kernel_rfl) (by kernel_rfl) (fun _ _ _ h => h) (Or.inl ⟨by rfl, ?_⟩) (by exact (Below.refl w5.heap.size w5).drew) ?_
        rotate_left; focus (intro W hW; go_simp; try with_reducible rfl)
        (try simp only [Act.put, List.setIfInBounds_toArray, List.set_cons_zero, List.set_cons_succ])
        refine wpAnyH_take (i := 18) (oi := { dst := some 114, op := Op.move (Operand.tmp 12), type := 4, pos := "law.go:37", after := #[{ on := 17, ground := Ground.guard }], guard := some (17, false) }) (v := ?_) rfl (by kernel_rfl) (by kernel_rfl) (by kernel_rfl) (fun _ _ _ h => h) (Or.inl ⟨by rfl, ?_⟩) (by exact (Below.refl w5.heap.size w5).drew) ?_
        rotate_left; focus (intro W hW; go_simp; try with_reducible rfl)
        (try simp only [Act.put, List.setIfInBounds_toArray, List.set_cons_zero, List.set_cons_succ])
        refine wpAnyH_take (i := 19) (oi := { dst := some 115, op := Op.move (Operand.tmp 114), type := 4, pos := "law.go:37", after := #[{ on := 18, ground := Ground.data }, { on := 17, ground := Ground.chain }, { on := 17, ground := Ground.guard }], guard := some (17, false) }) (v := ?_) rfl (by kernel_rfl) (by kernel_rfl) (by kernel_rfl) (fun _ _ _ h => h) (Or.inl ⟨by rfl, ?_⟩) (by exact (Below.refl w5.heap.size w5).drew) ?_
        rotate_left; focus (intro W hW; go_simp; try with_reducible rfl)
        (try simp only [Act.put, List.setIfInBounds_toArray, List.set_cons_zero, List.set_cons_succ])
        refine wpAnyH_take (i := 20) (oi := { dst := some 116, op := Op.load 28 (Operand.tmp 11), type := 28, pos := "law.go:37", after := #[{ on := 19, ground := Ground.guard }], guard := some (19, true) }) (v := undef) rfl (by kernel_rfl) (by kernel_rfl) (by kernel_rfl) (fun _ _ _ h => h) (Or.inr ⟨by rfl, rfl⟩) (by exact (Below.refl w5.heap.size w5).drew) ?_
        (try simp only [Act.put, List.setIfInBounds_toArray, List.set_cons_zero, List.set_cons_succ])
        refine wpAnyH_take (i := 21) (oi := { dst := some 117, op := Op.fieldAddr 32 (Operand.tmp 3) 2, type := 0, pos := "law.go:37", after := #[{ on := 19, ground := Ground.guard }], guard := some (19, true) }) (v := undef) rfl (by kernel_rfl) (by kernel_rfl) (by kernel_rfl) (fun _ _ _ h => h) (Or.inr ⟨by rfl, rfl⟩) (by exact (Below.refl w5.heap.size w5).drew) ?_
        (try simp only [Act.put, List.setIfInBounds_toArray, List.set_cons_zero, List.set_cons_succ])
        refine wpAnyH_take (i := 22) (oi := { dst := some 118, op := Op.load 28 (Operand.tmp 117), type := 28, pos := "law.go:37", after := #[{ on := 21, ground := Ground.data }, { on := 19, ground := Ground.guard }], guard := some (19, true) }) (v := undef) rfl (by kernel_rfl) (by kernel_rfl) (by kernel_rfl) (fun _ _ _ h => h) (Or.inr ⟨by rfl, rfl⟩) (by exact (Below.refl w5.heap.size w5).drew) ?_
        (try simp only [Act.put, List.setIfInBounds_toArray, List.set_cons_zero, List.set_cons_succ])
        refine wpAnyH_take (i := 23) (oi := { dst := some 119, op := Op.call { callee := Callee.value (Operand.func 24), args := #[Operand.tmp 116, Operand.tmp 118], argTypes := #[28, 28] }, type := 4, pos := "law.go:37", after := #[{ on := 20, ground := Ground.data }, { on := 22, ground := Ground.data }, { on := 19, ground := Ground.chain }, { on := 19, ground := Ground.guard }], guard := some (19, true) }) (v := undef) rfl (by kernel_rfl) (by kernel_rfl) (by kernel_rfl) (fun _ _ _ h => h) (Or.inr ⟨by rfl, rfl⟩) (by exact (Below.refl w5.heap.size w5).drew) ?_
        (try simp only [Act.put, List.setIfInBounds_toArray, List.set_cons_zero, List.set_cons_succ])
        refine wpAnyH_take (i := 24) (oi := { dst := some 120, op := Op.unOp UnOp.not 4 (Operand.tmp 119), type := 4, pos := "law.go:37", after := #[{ on := 23, ground := Ground.data }, { on := 19, ground := Ground.guard }], guard := some (19, true) }) (v := undef) rfl (by kernel_rfl) (by kernel_rfl) (by kernel_rfl) (fun _ _ _ h => h) (Or.inr ⟨by rfl, rfl⟩) (by exact (Below.refl w5.heap.size w5).drew) ?_
        (try simp only [Act.put, List.setIfInBounds_toArray, List.set_cons_zero, List.set_cons_succ])
        refine wpAnyH_take (i := 25) (oi := { dst := some 121, op := Op.pick (Operand.tmp 115) (Operand.tmp 120) (Operand.const (Value.bool false)), type := 4, pos := "law.go:37", after := #[{ on := 19, ground := Ground.data }, { on := 24, ground := Ground.data }, { on := 17, ground := Ground.guard }], guard := some (17, false) }) (v := ?_) rfl (by kernel_rfl) (by kernel_rfl) (by kernel_rfl) (fun _ _ _ h => h) (Or.inl ⟨by rfl, ?_⟩) (by exact (Below.refl w5.heap.size w5).drew) ?_
        rotate_left; focus (intro W hW; go_simp; try with_reducible rfl)
        (try simp only [Act.put, List.setIfInBounds_toArray, List.set_cons_zero, List.set_cons_succ])
        refine wpAnyH_take (i := 26) (oi := { dst := some 122, op := Op.pick (Operand.tmp 113) (Operand.const (Value.bool true)) (Operand.tmp 121), type := 4, pos := "law.go:37", after := #[{ on := 17, ground := Ground.data }, { on := 25, ground := Ground.data }], guard := none }) (v := ?_) rfl (by kernel_rfl) (by kernel_rfl) (by kernel_rfl) (fun _ _ _ h => h) (Or.inl ⟨by rfl, ?_⟩) (by exact (Below.refl w5.heap.size w5).drew) ?_
        rotate_left; focus (intro W hW; go_simp; try with_reducible rfl)
        (try simp only [Act.put, List.setIfInBounds_toArray, List.set_cons_zero, List.set_cons_succ])
        refine wpAnyH_done (by kernel_rfl) ?_ _
        go_wp2
        refine wp_region_held (S := (fun W => Below w5.heap.size w5 W)) (by kernel_rfl) ?_
        refine wpAnyH_take (i := 0) (oi := { dst := some 145, op := Op.load 79 (Operand.tmp 15), type := 79, pos := "law.go:47", after := #[], guard := none }) (v := ?_) rfl (by kernel_rfl) (by kernel_rfl) (by kernel_rfl) (fun _ _ _ h => h) (Or.inl ⟨by rfl, ?_⟩) (by exact (Below.refl w5.heap.size w5).drew.drew) ?_
        rotate_left; focus (intro W hW; obtain ⟨x0, x1, x2, x3, x4, x5, x6, x7, x8, x9, x10, x11, x12, x13⟩ := CELLS.out W hW; go_simp; try with_reducible rfl)
        (try simp only [Act.put, List.setIfInBounds_toArray, List.set_cons_zero, List.set_cons_succ])
        refine wpAnyH_take (i := 1) (oi := { dst := some 146, op := Op.fieldAddr 32 (Operand.tmp 3) 4, type := 0, pos := "law.go:47", after := #[], guard := none }) (v := ?_) rfl (by kernel_rfl) (by kernel_rfl) (by kernel_rfl) (fun _ _ _ h => h) (Or.inl ⟨by rfl, ?_⟩) (by exact (Below.refl w5.heap.size w5).drew.drew) ?_
        rotate_left; focus (intro W hW; go_simp; try with_reducible rfl)
        (try simp only [Act.put, List.setIfInBounds_toArray, List.set_cons_zero, List.set_cons_succ])
        refine wpAnyH_take (i := 2) (oi := { dst := some 147, op := Op.load 30 (Operand.tmp 146), type := 30, pos := "law.go:47", after := #[{ on := 1, ground := Ground.data }], guard := none }) (v := ?_) rfl (by kernel_rfl) (by kernel_rfl) (by kernel_rfl) (fun _ _ _ h => h) (Or.inl ⟨by rfl, ?_⟩) (by exact (Below.refl w5.heap.size w5).drew.drew) ?_
        rotate_left; focus (intro W hW; obtain ⟨x0, x1, x2, x3, x4, x5, x6, x7, x8, x9, x10, x11, x12, x13⟩ := CELLS.out W hW; go_simp; try with_reducible rfl)
        (try simp only [Act.put, List.setIfInBounds_toArray, List.set_cons_zero, List.set_cons_succ])
        refine wpAnyH_take (i := 3) (oi := { dst := some 148, op := Op.move (Operand.tmp 7), type := 3, pos := "law.go:47", after := #[], guard := none }) (v := ?_) rfl (by kernel_rfl) (by kernel_rfl) (by kernel_rfl) (fun _ _ _ h => h) (Or.inl ⟨by rfl, ?_⟩) (by exact (Below.refl w5.heap.size w5).drew.drew) ?_
        rotate_left; focus (intro W hW; go_simp; try with_reducible rfl)
        (try simp only [Act.put, List.setIfInBounds_toArray, List.set_cons_zero, List.set_cons_succ])
        refine wpAnyH_take (i := 4) (oi := { dst := some 149, op := Op.indexAddr 30 (Operand.tmp 147) (Operand.tmp 148), type := 0, pos := "law.go:47", after := #[{ on := 2, ground := Ground.data }, { on := 3, ground := Ground.data }], guard := none }) (v := ?_) rfl (by kernel_rfl) (by kernel_rfl) (by kernel_rfl) (fun _ _ _ h => h) (Or.inl ⟨by rfl, ?_⟩) (by exact (Below.refl w5.heap.size w5).drew.drew) ?_
        rotate_left; focus (intro W hW; go_simp; try with_reducible rfl)
        (try simp only [Act.put, List.setIfInBounds_toArray, List.set_cons_zero, List.set_cons_succ])
        refine wpAnyH_take (i := 5) (oi := { dst := some 150, op := Op.load 79 (Operand.tmp 149), type := 79, pos := "law.go:47", after := #[{ on := 4, ground := Ground.data }], guard := none }) (v := ?_) rfl (by kernel_rfl) (by kernel_rfl) (by kernel_rfl) (fun _ _ _ h => h) (Or.inl ⟨by rfl, ?_⟩) (by exact (Below.refl w5.heap.size w5).drew.drew) ?_
        rotate_left; focus (intro W hW; obtain ⟨x0, x1, x2, x3, x4, x5, x6, x7, x8, x9, x10, x11, x12, x13⟩ := CELLS.out W hW; go_simp; try with_reducible rfl)
        (try simp only [Act.put, List.setIfInBounds_toArray, List.set_cons_zero, List.set_cons_succ])
        refine wpAnyH_ready (rs := [6]) (by kernel_rfl) (by simp) ?_
        refine AllReadyH.cons (o := { dst := some 151, op := Op.call { callee := Callee.value (Operand.func 25), args := #[Operand.tmp 145, Operand.tmp 150], argTypes := #[79, 79] }, type := 4, pos := "law.go:47", after := #[{ on := 0, ground := Ground.data }, { on := 5, ground := Ground.data }], guard := none }) rfl (fun K hK => ?_) AllReadyH.nil
        go_simp
        go_at_call 25
        refine (HSM.out _ (by exact (Below.refl w5.heap.size w5).drew.drew)).mono ?_
        rintro e w6 ⟨rfl, hbw6⟩
        have Bw6 := Lib.hid (show Below w5.heap.size w5 w6 from Below.trans (Below.refl w5.heap.size w5).drew.drew (hbw6.mono (Below.size (Below.refl w5.heap.size w5).drew.drew)))
        clear hbw6
        refine hK.out _ _ (by exact Bw6.out) (fun hHeld => ?_)
        clear hHeld hK K
        (try simp only [Act.put, List.setIfInBounds_toArray, List.set_cons_zero, List.set_cons_succ])
        refine wpAnyH_take (i := 7) (oi := { dst := some 152, op := Op.unOp UnOp.not 4 (Operand.tmp 151), type := 4, pos := "law.go:47", after := #[{ on := 6, ground := Ground.data }], guard := none }) (v := ?_) rfl (by kernel_rfl) (by kernel_rfl) (by kernel_rfl) (fun _ _ _ h => h) (Or.inl ⟨by rfl, ?_⟩) (by exact Bw6.out) ?_
        rotate_left; focus (intro W hW; go_simp; try with_reducible rfl)
        (try simp only [Act.put, List.setIfInBounds_toArray, List.set_cons_zero, List.set_cons_succ])
        refine wpAnyH_take (i := 8) (oi := { dst := some 153, op := Op.move (Operand.tmp 152), type := 4, pos := "law.go:47", after := #[{ on := 7, ground := Ground.data }, { on := 6, ground := Ground.chain }], guard := none }) (v := ?_) rfl (by kernel_rfl) (by kernel_rfl) (by kernel_rfl) (fun _ _ _ h => h) (Or.inl ⟨by rfl, ?_⟩) (by exact Bw6.out) ?_
        rotate_left; focus (intro W hW; go_simp; try with_reducible rfl)
        (try simp only [Act.put, List.setIfInBounds_toArray, List.set_cons_zero, List.set_cons_succ])
        refine wpAnyH_take (i := 9) (oi := { dst := some 154, op := Op.move (Operand.tmp 0), type := 34, pos := "law.go:47", after := #[{ on := 8, ground := Ground.guard }], guard := some (8, false) }) (v := ?_) rfl (by kernel_rfl) (by kernel_rfl) (by kernel_rfl) (fun _ _ _ h => h) (Or.inl ⟨by rfl, ?_⟩) (by exact Bw6.out) ?_
        rotate_left; focus (intro W hW; go_simp; try with_reducible rfl)
        (try simp only [Act.put, List.setIfInBounds_toArray, List.set_cons_zero, List.set_cons_succ])
        refine wpAnyH_take (i := 10) (oi := { dst := some 155, op := Op.move (Operand.tmp 8), type := 3, pos := "law.go:47", after := #[{ on := 8, ground := Ground.guard }], guard := some (8, false) }) (v := ?_) rfl (by kernel_rfl) (by kernel_rfl) (by kernel_rfl) (fun _ _ _ h => h) (Or.inl ⟨by rfl, ?_⟩) (by exact Bw6.out) ?_
        rotate_left; focus (intro W hW; go_simp; try with_reducible rfl)
        (try simp only [Act.put, List.setIfInBounds_toArray, List.set_cons_zero, List.set_cons_succ])
        refine wpAnyH_take (i := 11) (oi := { dst := some 156, op := Op.indexAddr 34 (Operand.tmp 154) (Operand.tmp 155), type := 0, pos := "law.go:47", after := #[{ on := 9, ground := Ground.data }, { on := 10, ground := Ground.data }, { on := 8, ground := Ground.guard }], guard := some (8, false) }) (v := ?_) rfl (by kernel_rfl) (by kernel_rfl) (by kernel_rfl) (fun _ _ _ h => h) (Or.inl ⟨by rfl, ?_⟩) (by exact Bw6.out) ?_
        rotate_left; focus (intro W hW; go_simp; try with_reducible rfl)
        (try simp only [Act.put, List.setIfInBounds_toArray, List.set_cons_zero, List.set_cons_succ])
        refine wpAnyH_take (i := 12) (oi := { dst := some 157, op := Op.load 70 (Operand.tmp 156), type := 70, pos := "law.go:47", after := #[{ on := 11, ground := Ground.data }, { on := 8, ground := Ground.guard }], guard := some (8, false) }) (v := ?_) rfl (by kernel_rfl) (by kernel_rfl) (by kernel_rfl) (fun _ _ _ h => h) (Or.inl ⟨by rfl, ?_⟩) (by exact Bw6.out) ?_
        rotate_left; focus (intro W hW; obtain ⟨x0, x1, x2, x3, x4, x5, x6, x7, x8, x9, x10, x11, x12, x13⟩ := CELLS.out W hW; go_simp; try with_reducible rfl)
        (try simp only [Act.put, List.setIfInBounds_toArray, List.set_cons_zero, List.set_cons_succ])
        refine wpAnyH_take (i := 14) (oi := { dst := some 159, op := Op.fieldAddr 79 (Operand.tmp 15) 0, type := 0, pos := "law.go:47", after := #[{ on := 8, ground := Ground.guard }], guard := some (8, false) }) (v := ?_) rfl (by kernel_rfl) (by kernel_rfl) (by kernel_rfl) (fun _ _ _ h => h) (Or.inl ⟨by rfl, ?_⟩) (by exact Bw6.out) ?_
        rotate_left; focus (intro W hW; go_simp; try with_reducible rfl)
        (try simp only [Act.put, List.setIfInBounds_toArray, List.set_cons_zero, List.set_cons_succ])
        refine wpAnyH_take (i := 15) (oi := { dst := some 160, op := Op.load 23 (Operand.tmp 159), type := 23, pos := "law.go:47", after := #[{ on := 14, ground := Ground.data }, { on := 8, ground := Ground.guard }], guard := some (8, false) }) (v := ?_) rfl (by kernel_rfl) (by kernel_rfl) (by kernel_rfl) (fun _ _ _ h => h) (Or.inl ⟨by rfl, ?_⟩) (by exact Bw6.out) ?_
        rotate_left; focus (intro W hW; obtain ⟨x0, x1, x2, x3, x4, x5, x6, x7, x8, x9, x10, x11, x12, x13⟩ := CELLS.out W hW; go_simp; try with_reducible rfl)
        (try simp only [Act.put, List.setIfInBounds_toArray, List.set_cons_zero, List.set_cons_succ])
        refine wpAnyH_ready (rs := [13]) (by kernel_rfl) (by simp) ?_
        refine AllReadyH.cons (o := { dst := some 158, op := Op.call { callee := Callee.invoke (Operand.tmp 157) "Where", args := #[], argTypes := #[] }, type := 23, pos := "law.go:47", after := #[{ on := 12, ground := Ground.data }, { on := 8, ground := Ground.chain }, { on := 8, ground := Ground.guard }], guard := some (8, false) }) rfl (fun K hK => ?_) AllReadyH.nil
        go_simp
        refine (HWH.out _).mono ?_
        rintro e w7 ⟨rfl, hbw7⟩
        have Bw7 := Lib.hid (show Below w5.heap.size w5 w7 from Below.trans Bw6.out (hbw7.mono (Below.size Bw6.out)))
        clear hbw7
        refine hK.out _ _ (by exact Bw7.out) (fun hHeld => ?_)
        clear hHeld hK K
        (try simp only [Act.put, List.setIfInBounds_toArray, List.set_cons_zero, List.set_cons_succ])
        refine wpAnyH_take (i := 16) (oi := { dst := some 161, op := Op.binOp BinOp.neq 23 (Operand.tmp 158) (Operand.tmp 160) 23, type := 4, pos := "law.go:47", after := #[{ on := 13, ground := Ground.data }, { on := 15, ground := Ground.data }, { on := 8, ground := Ground.guard }], guard := some (8, false) }) (v := ?_) rfl (by kernel_rfl) (by kernel_rfl) (by kernel_rfl) (fun _ _ _ h => h) (Or.inl ⟨by rfl, ?_⟩) (by exact Bw7.out) ?_
        rotate_left; focus (intro W hW; go_simp; try with_reducible rfl)
        (try simp only [Act.put, List.setIfInBounds_toArray, List.set_cons_zero, List.set_cons_succ])
        refine wpAnyH_take (i := 17) (oi := { dst := some 162, op := Op.pick (Operand.tmp 153) (Operand.const (Value.bool true)) (Operand.tmp 161), type := 4, pos := "law.go:47", after := #[{ on := 8, ground := Ground.data }, { on := 16, ground := Ground.data }], guard := none }) (v := ?_) rfl (by kernel_rfl) (by kernel_rfl) (by kernel_rfl) (fun _ _ _ h => h) (Or.inl ⟨by rfl, ?_⟩) (by exact Bw7.out) ?_
        rotate_left; focus (intro W hW; go_simp; try with_reducible rfl)
        (try simp only [Act.put, List.setIfInBounds_toArray, List.set_cons_zero, List.set_cons_succ])
        refine wpAnyH_done (by kernel_rfl) ?_ _
        have hml8 : mi ≤ 3000000000000 := by have := hml; omega
        go_wp2
        exact ⟨⟨k + 1, by go_num, by omega, by rw [hcut, msgsOf_app]; simp [msgsOf], by rw [hcut, tabsOf_app, List.length_append, ← HMI.out]; go_num, HB5.out.trans (Bw7.out.mono HB5.out.size)⟩, by simp [intOf]; omega⟩
    · obtain rfl : k = N.length := by omega
      go_wp2
      go_ret
      exact ⟨rfl, HB1.out.trans (HB.out.mono HB1.out.size)⟩
end nodeT
end Go.Proofs.Ytdibfkcddcjiiaa
