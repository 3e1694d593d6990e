/- node.stations, node.table, node.message: copies, their lists in new memory. Condition: no list of more than 2^47 bytes. -/
import Derived.Test.YtdibfkcddcjiiaaClone
import Derived.Test.YtdibfkcddcjiiaaMsgInv
import Derived.Test.YtdibfkcddcjiiaaRes
import Derived.Deep.RegionHeld3
import Derived.Deep.RegionWith
namespace Go.Proofs.Ytdibfkcddcjiiaa
open Go.RowKit Go.Bus Go.Bus.cellK Go.Bus.dbK
set_option linter.unusedVariables false
set_option linter.unusedSimpArgs false
namespace nodeC
def StaP (w : World) (s : Sta) (e : Ending) (w' : World) : Prop := ∃ cs, e = .returned (.agg cs.toArray) ∧ staO 9 w' (Iv w.heap.size w'.heap.size) cs s ∧ Below w.heap.size w w'
def TabP (w : World) (s : Tab) (e : Ending) (w' : World) : Prop := ∃ cs, e = .returned (.agg cs.toArray) ∧ tabO 122 w' (Iv w.heap.size w'.heap.size) cs s ∧ Below w.heap.size w w'
theorem own_slice {w : World} {base : Nat} {e : TypeId} {k n : Nat} {v : Value} {xs : List Value} (h : w.ownsRow base e k v n xs) : ∃ A c, v = .slice A n c ∧ n ≤ c ∧ c ≤ 9223372036854775807 := by
  rcases h.2 with ⟨rfl, rfl⟩ | ⟨g, cap, cur, rfl, _, _, h1, h2, _⟩
  · exact ⟨none, 0, rfl, by omega, by omega⟩
  · exact ⟨_, cap, rfl, h1, by unfold maxLen at h2; omega⟩
theorem own_fit {α : Type} {k : Nat} {R : Rel α} {w1 w2 : World} {e : TypeId} {v : Value} {l : List α} {B B0 : Nat} (hR : Mono R) (h : OwD k R w1 (Iv B w1.heap.size) B e v l) (hB : B0 ≤ B) (hk : ∀ b, B ≤ b → w2.heap[b]? = w1.heap[b]?) (hs : w1.heap.size ≤ w2.heap.size) : OwD k R w2 (Iv B0 w2.heap.size) 0 e v l := by
  obtain ⟨xs, ho, hF, rest⟩ := h
  have h1 : OwX k R w1 (Iv B w1.heap.size) 0 e v l xs := ⟨own_base ho (Nat.zero_le _), hF, rest⟩
  exact ⟨xs, h1.keep hR (fun b hb => ⟨by have := hb.1; omega, by have := hb.2; omega⟩) (fun b hb => hk b hb.1)⟩
set_option maxRecDepth 100000 in
set_option maxHeartbeats 1000000 in
theorem stations_any (s : Sta) (v : Value) (F : Foot) (w : World) (h : SlK 1 strE w F v s.names) (hF : ∀ b, F b → b < w.heap.size) (hby : s.names.length * 16 ≤ 140737488351232) :
    Calls Try.prog 20 #[.agg (staCells s v).toArray] w (StaP w s) := by
  have hv : ∀ w1 : World, Below w.heap.size w w1 → SlK 1 strE w1 F v s.names := fun w1 hb => h.belowF strE_mono hF hb
  have HV := Lib.hid hv
  clear h hv
  show Calls Try.prog 20 #[.agg #[.int .i64 s.line, .int .i64 s.col, v]] w (StaP w s)
  go_enter Try.func20, Try.ntmps20
  go_wp2_with (go_at_call 52; refine (clone_str v s.names F _ (HV.out _ (by exact (by repeat' (first | (with_reducible assumption) | (with_reducible refine Below.setCell ?_ ?_ _) | (with_reducible refine Below.alloc ?_ ?_ _) | (with_reducible refine Below.drew ?_) | (with_reducible refine below_drewN ?_ _) | (with_reducible exact Below.refl _ _) | (show _ ≤ _; (try simp); (try omega); done) | exact Below.refl _ _ | assumption)))) hby).mono ?_; rintro e w1 ⟨v', rfl, ho, hb_w1⟩; obtain ⟨A1, c1, rfl, _, _⟩ := (ho.sl strE_mono).form; have HO := Lib.hid ho; clear ho; obtain ⟨hc_w1, hf_w1⟩ := bcell hb_w1; have hz_w1 := hb_w1.size; (try simp at hz_w1); have hB_w1 : Below w.heap.size w w1 := Below.trans (by repeat' (first | (with_reducible assumption) | (with_reducible refine Below.setCell ?_ ?_ _) | (with_reducible refine Below.alloc ?_ ?_ _) | (with_reducible refine Below.drew ?_) | (with_reducible refine below_drewN ?_ _) | (with_reducible exact Below.refl _ _) | (show _ ≤ _; (try simp); (try omega); done) | exact Below.refl _ _ | assumption)) (hb_w1.mono (by (try simp); (try omega))); have z_w1_0 : w.heap.size < w1.heap.size := (by omega); have z_w1_1 : w.heap.size + 1 < w1.heap.size := (by omega); have c_w1_H_0 : w1.cell? ⟨w.heap.size, 0, none⟩ = some (.int .i64 s.line) := (by go_simp); have f_w1_H_0 : w1.frozen? ⟨w.heap.size, 0, none⟩ = false := (by go_simp); have c_w1_H_1 : w1.cell? ⟨w.heap.size, 1, none⟩ = some (.int .i64 s.col) := (by go_simp); have f_w1_H_1 : w1.frozen? ⟨w.heap.size, 1, none⟩ = false := (by go_simp); have c_w1_H_2 : w1.cell? ⟨w.heap.size, 2, none⟩ = some (v) := (by go_simp); have f_w1_H_2 : w1.frozen? ⟨w.heap.size, 2, none⟩ = false := (by go_simp); have c_w1_Hp1_0 : w1.cell? ⟨w.heap.size + 1, 0, none⟩ = some (.int .i64 0) := (by go_simp); have f_w1_Hp1_0 : w1.frozen? ⟨w.heap.size + 1, 0, none⟩ = false := (by go_simp); have c_w1_Hp1_1 : w1.cell? ⟨w.heap.size + 1, 1, none⟩ = some (.int .i64 0) := (by go_simp); have f_w1_Hp1_1 : w1.frozen? ⟨w.heap.size + 1, 1, none⟩ = false := (by go_simp); have c_w1_Hp1_2 : w1.cell? ⟨w.heap.size + 1, 2, none⟩ = some (.slice none 0 0) := (by go_simp); have f_w1_Hp1_2 : w1.frozen? ⟨w.heap.size + 1, 2, none⟩ = false := (by go_simp); have hh1 := Has.below (Has.new1 w _ _ _) hb_w1 (by simp); have HH1 := Lib.hid hh1; clear hh1 hc_w1 hf_w1; have HB1 := Lib.hid hB_w1; clear hB_w1)
  refine bodyPost_ret (v := .agg (staCells s (.slice A1 s.names.length c1)).toArray) (results_block (g := w.heap.size + 1) (T := 28) rfl rfl ((((HH1.out.far (by simp) _).set 0 _).set 1 _).set 2 _) (by rfl) Try.underlying28 rfl (by kernel_rfl)) rfl ?_
  have hB_w1 := HB1.out
  have ho : OwD 1 strE w1 (Iv (w.heap.size + 1 + 1) w1.heap.size) (w.heap.size + 1 + 1) 9 (.slice A1 s.names.length c1) s.names := by simpa using HO.out
  exact ⟨_, rfl, ⟨_, rfl, own_fit strE_mono ho (by omega) (by intro b hb; (try simp at hb); (repeat (refine (heap_setCell_other _ _ _ _ (by (try simp); omega)).trans ?_)); rfl) (by simp)⟩, (by repeat' (first | (with_reducible assumption) | (with_reducible refine Below.setCell ?_ ?_ _) | (with_reducible refine Below.alloc ?_ ?_ _) | (with_reducible refine Below.drew ?_) | (with_reducible refine below_drewN ?_ _) | (with_reducible exact Below.refl _ _) | (show _ ≤ _; (try simp); (try omega); done) | exact Below.refl _ _ | assumption))⟩
set_option maxRecDepth 100000 in
set_option maxHeartbeats 1000000 in
theorem table_any (s : Tab) (v : Value) (F : Foot) (w : World) (h : SlK 2 rowE w F v s.rows) (hF : ∀ b, F b → b < w.heap.size) (hby : s.rows.length * 24 ≤ 140737488351232) :
    Calls Try.prog 22 #[.agg (tabCells s v).toArray] w (TabP w s) := by
  have hv : ∀ w1 : World, Below w.heap.size w w1 → SlK 2 rowE w1 F v s.rows := fun w1 hb => h.belowF rowE_mono hF hb
  have HV := Lib.hid hv
  clear h hv
  show Calls Try.prog 22 #[.agg #[.int .i64 s.line, .int .i64 s.col, .int .u32 s.id, .bool s.wide, .string s.signal, v]] w (TabP w s)
  go_enter Try.func22, Try.ntmps22
  go_wp2_with (go_at_call 54; refine (clone_row v s.rows F _ (HV.out _ (by exact (by repeat' (first | (with_reducible assumption) | (with_reducible refine Below.setCell ?_ ?_ _) | (with_reducible refine Below.alloc ?_ ?_ _) | (with_reducible refine Below.drew ?_) | (with_reducible refine below_drewN ?_ _) | (with_reducible exact Below.refl _ _) | (show _ ≤ _; (try simp); (try omega); done) | exact Below.refl _ _ | assumption)))) hby).mono ?_; rintro e w1 ⟨v', rfl, ho, hb_w1⟩; obtain ⟨A1, c1, rfl, _, _⟩ := (ho.sl rowE_mono).form; have HO := Lib.hid ho; clear ho; obtain ⟨hc_w1, hf_w1⟩ := bcell hb_w1; have hz_w1 := hb_w1.size; (try simp at hz_w1); have hB_w1 : Below w.heap.size w w1 := Below.trans (by repeat' (first | (with_reducible assumption) | (with_reducible refine Below.setCell ?_ ?_ _) | (with_reducible refine Below.alloc ?_ ?_ _) | (with_reducible refine Below.drew ?_) | (with_reducible refine below_drewN ?_ _) | (with_reducible exact Below.refl _ _) | (show _ ≤ _; (try simp); (try omega); done) | exact Below.refl _ _ | assumption)) (hb_w1.mono (by (try simp); (try omega))); have z_w1_0 : w.heap.size < w1.heap.size := (by omega); have z_w1_1 : w.heap.size + 1 < w1.heap.size := (by omega); have c_w1_H_0 : w1.cell? ⟨w.heap.size, 0, none⟩ = some (.int .i64 s.line) := (by go_simp); have f_w1_H_0 : w1.frozen? ⟨w.heap.size, 0, none⟩ = false := (by go_simp); have c_w1_H_1 : w1.cell? ⟨w.heap.size, 1, none⟩ = some (.int .i64 s.col) := (by go_simp); have f_w1_H_1 : w1.frozen? ⟨w.heap.size, 1, none⟩ = false := (by go_simp); have c_w1_H_2 : w1.cell? ⟨w.heap.size, 2, none⟩ = some (.int .u32 s.id) := (by go_simp); have f_w1_H_2 : w1.frozen? ⟨w.heap.size, 2, none⟩ = false := (by go_simp); have c_w1_H_3 : w1.cell? ⟨w.heap.size, 3, none⟩ = some (.bool s.wide) := (by go_simp); have f_w1_H_3 : w1.frozen? ⟨w.heap.size, 3, none⟩ = false := (by go_simp); have c_w1_H_4 : w1.cell? ⟨w.heap.size, 4, none⟩ = some (.string s.signal) := (by go_simp); have f_w1_H_4 : w1.frozen? ⟨w.heap.size, 4, none⟩ = false := (by go_simp); have c_w1_H_5 : w1.cell? ⟨w.heap.size, 5, none⟩ = some (v) := (by go_simp); have f_w1_H_5 : w1.frozen? ⟨w.heap.size, 5, none⟩ = false := (by go_simp); have c_w1_Hp1_0 : w1.cell? ⟨w.heap.size + 1, 0, none⟩ = some (.int .i64 0) := (by go_simp); have f_w1_Hp1_0 : w1.frozen? ⟨w.heap.size + 1, 0, none⟩ = false := (by go_simp); have c_w1_Hp1_1 : w1.cell? ⟨w.heap.size + 1, 1, none⟩ = some (.int .i64 0) := (by go_simp); have f_w1_Hp1_1 : w1.frozen? ⟨w.heap.size + 1, 1, none⟩ = false := (by go_simp); have c_w1_Hp1_2 : w1.cell? ⟨w.heap.size + 1, 2, none⟩ = some (.int .u32 0) := (by go_simp); have f_w1_Hp1_2 : w1.frozen? ⟨w.heap.size + 1, 2, none⟩ = false := (by go_simp); have c_w1_Hp1_3 : w1.cell? ⟨w.heap.size + 1, 3, none⟩ = some (.bool false) := (by go_simp); have f_w1_Hp1_3 : w1.frozen? ⟨w.heap.size + 1, 3, none⟩ = false := (by go_simp); have c_w1_Hp1_4 : w1.cell? ⟨w.heap.size + 1, 4, none⟩ = some (.string ⟨#[]⟩) := (by go_simp); have f_w1_Hp1_4 : w1.frozen? ⟨w.heap.size + 1, 4, none⟩ = false := (by go_simp); have c_w1_Hp1_5 : w1.cell? ⟨w.heap.size + 1, 5, none⟩ = some (.slice none 0 0) := (by go_simp); have f_w1_Hp1_5 : w1.frozen? ⟨w.heap.size + 1, 5, none⟩ = false := (by go_simp); have hh1 := Has.below (Has.new1 w _ _ _) hb_w1 (by simp); have HH1 := Lib.hid hh1; clear hh1 hc_w1 hf_w1; have HB1 := Lib.hid hB_w1; clear hB_w1)
  refine bodyPost_ret (v := .agg (tabCells s (.slice A1 s.rows.length c1)).toArray) (results_block (g := w.heap.size + 1) (T := 79) rfl rfl (((((((HH1.out.far (by simp) _).set 0 _).set 1 _).set 2 _).set 3 _).set 4 _).set 5 _) (by rfl) Try.underlying79 rfl (by kernel_rfl)) rfl ?_
  have hB_w1 := HB1.out
  have ho : OwD 2 rowE w1 (Iv (w.heap.size + 1 + 1) w1.heap.size) (w.heap.size + 1 + 1) 122 (.slice A1 s.rows.length c1) s.rows := by simpa using HO.out
  exact ⟨_, rfl, ⟨_, rfl, own_fit rowE_mono ho (by omega) (by intro b hb; (try simp at hb); (repeat (refine (heap_setCell_other _ _ _ _ (by (try simp); omega)).trans ?_)); rfl) (by simp)⟩, (by repeat' (first | (with_reducible assumption) | (with_reducible refine Below.setCell ?_ ?_ _) | (with_reducible refine Below.alloc ?_ ?_ _) | (with_reducible refine Below.drew ?_) | (with_reducible refine below_drewN ?_ _) | (with_reducible exact Below.refl _ _) | (show _ ≤ _; (try simp); (try omega); done) | exact Below.refl _ _ | assumption))⟩
def MsgP (w : World) (s : Msg) (e : Ending) (w' : World) : Prop := ∃ cs, e = .returned (.agg cs.toArray) ∧ msgO 9 119 w' (Iv w.heap.size w'.heap.size) cs s ∧ Below w.heap.size w w'
def msgA (s : Msg) (v : Value) : Array Value := #[.int .i64 s.line, .int .i64 s.col, .int .u32 s.id, .bool s.wide, .string s.name, .int .i64 s.size, .string s.sender, v]
def msgZ : Array Value := #[.int .i64 0, .int .i64 0, .int .u32 0, .bool false, .string ⟨#[]⟩, .int .i64 0, .string ⟨#[]⟩, .slice none 0 0]
set_option maxRecDepth 100000 in
set_option maxHeartbeats 2000000 in
theorem message_any (s : Msg) (v : Value) (F : Foot) (w : World) (h : SlK 19 sigE w F v s.sigs) (hF : ∀ b, F b → b < w.heap.size) (hby : s.sigs.length * 176 ≤ 140737488351232) (hto : ∀ x ∈ s.sigs, x.to.length * 16 ≤ 140737488351232) :
    Calls Try.prog 21 #[.agg (msgCells s v).toArray] w (MsgP w s) := by
  obtain ⟨xs, hs, hx⟩ := h
  have h1 := one_all hs sigE_one hx
  have hv : ∀ w1 : World, Below w.heap.size w w1 → Src 19 w1 F v s.sigs.length xs ∧ ∀ i x, s.sigs[i]? = some x → sigE w1 F (eltOf 19 xs i) x := fun w1 hb =>
    ⟨hs.keep (fun _ h => h) fun b hf => hb.block b (hF b hf), fun i x hi => sigE_mono _ _ _ _ _ _ (fun _ h => h) (fun b hf => hb.block b (hF b hf)) (hx i x hi)⟩
  have HV := Lib.hid hv
  have H1 := Lib.hid h1
  have HT := Lib.hid hto
  have HFF := Lib.hid hF
  clear hs hx hv h1 hto hF
  show Calls Try.prog 21 #[.agg #[.int .i64 s.line, .int .i64 s.col, .int .u32 s.id, .bool s.wide, .string s.name, .int .i64 s.size, .string s.sender, v]] w (MsgP w s)
  go_enter Try.func21, Try.ntmps21
  go_wp2_with fail
  refine (cloneSig.clone_raw v s.sigs.length xs F _ (HV.out _ (by exact (by repeat' (first | (with_reducible assumption) | (with_reducible refine Below.setCell ?_ ?_ _) | (with_reducible refine Below.alloc ?_ ?_ _) | (with_reducible refine Below.drew ?_) | (with_reducible refine below_drewN ?_ _) | (with_reducible exact Below.refl _ _) | (show _ ≤ _; (try simp); (try omega); done) | exact Below.refl _ _ | assumption)))).1 H1.out (by omega)).mono ?_
  rintro e w1 ⟨v', rfl, ho, hb_w1⟩
  obtain ⟨A1, c1, rfl, hn1, hn2⟩ := own_slice ho
  have HO := Lib.hid ho; clear ho
  obtain ⟨hc_w1, hf_w1⟩ := bcell hb_w1; have hz_w1 := hb_w1.size; (try simp at hz_w1); have hB_w1 : Below w.heap.size w w1 := Below.trans (by repeat' (first | (with_reducible assumption) | (with_reducible refine Below.setCell ?_ ?_ _) | (with_reducible refine Below.alloc ?_ ?_ _) | (with_reducible refine Below.drew ?_) | (with_reducible refine below_drewN ?_ _) | (with_reducible exact Below.refl _ _) | (show _ ≤ _; (try simp); (try omega); done) | exact Below.refl _ _ | assumption)) (hb_w1.mono (by (try simp); (try omega))); have z_w1_0 : w.heap.size < w1.heap.size := (by omega); have z_w1_1 : w.heap.size + 1 < w1.heap.size := (by omega)
  have hh0 : Has w1 w.heap.size 62 (msgA s v) := Has.below (by exact (Has.new w _ (msgA s v)).alloc _) hb_w1 (by simp; omega)
  have hh1 : Has w1 (w.heap.size + 1) 62 msgZ := Has.below (by exact Has.new1 w _ _ msgZ) hb_w1 (by simp)
  have HH0 := Lib.hid hh0; have HH1 := Lib.hid hh1
  have c_w1_H_7 : w1.cell? ⟨w.heap.size, 7, none⟩ = some (v) := (by go_simp); have f_w1_H_7 : w1.frozen? ⟨w.heap.size, 7, none⟩ = false := (by go_simp)
  clear hh0 hh1 hc_w1 hf_w1; have HB1 := Lib.hid hB_w1; clear hB_w1
  have hown : w1.ownsRow (w.heap.size + 1 + 1) 119 19 (.slice A1 s.sigs.length c1) s.sigs.length xs := by simpa using HO.out
  have HI0 := Lib.hid (MsgInv.start (S := 9) (p := ⟨w.heap.size, 7, none⟩) (u := .slice A1 s.sigs.length c1) hown (HV.out _ HB1.out).2 HFF.out (Nat.le_refl _) (by simp; omega) hz_w1)
  clear hown HO HV H1
  have hbn : Below w.heap.size w (w1.setCell ⟨w.heap.size, 7, none⟩ (.slice A1 s.sigs.length c1)) := HB1.out.setCell (by simp) _
  have HBN := Lib.hid hbn; clear hbn
  have HA0 := Lib.hid (HH0.out.set 7 (.slice A1 s.sigs.length c1))
  have HA1 := Lib.hid (HH1.out.far (p := ⟨w.heap.size, 7, none⟩) (by simp) (.slice A1 s.sigs.length c1))
  clear hb_w1 HH0 HH1 HB1
  go_wp2
  go_loopw [11] (fun i wr => ∃ (k : Nat) (xs : List Value) (Fs : Nat → Foot), i = .int .i64 k ∧ k ≤ s.sigs.length ∧ Hid (MsgInv 9 119 wr F (w.heap.size + 1 + 1) w1.heap.size (.slice A1 s.sigs.length c1) s.sigs k xs Fs) ∧ Hid (Has wr w.heap.size 62 (msgA s (.slice A1 s.sigs.length c1))) ∧ Hid (Has wr (w.heap.size + 1) 62 msgZ) ∧ Hid (Below w.heap.size w wr) ∧ w1.heap.size ≤ wr.heap.size) (fun i _ => s.sigs.length - (intOf i).toNat)
  case atStart => exact ⟨0, xs, _, rfl, Nat.zero_le _, HI0, HA0, HA1, HBN, by simp⟩
  case round =>
    clear HI0 HA0 HA1 HBN xs c_w1_H_7 f_w1_H_7
    obtain ⟨k, xs, Fs, rfl, hk, HI, HA, HZ, HB, hsz⟩ := hrel
    by_cases hlt : k < s.sigs.length
    · obtain ⟨g, u, rfl, _, _, _, hcell, hfro, hsl, hBg, hgH, hu⟩ := HI.out.at_ hlt
      have hto := HT.out _ (List.getElem_mem hlt)
      have c7 : wr.cell? ⟨w.heap.size, 7, none⟩ = some (.slice (some ⟨g, 0, none⟩) s.sigs.length c1) := HA.out.cell 7
      have HSL := Lib.hid hsl; have HU := Lib.hid hu
      clear hsl hu
      have hb1 : (0 : Int) ≤ (k : Int) := Int.natCast_nonneg _
      have hb2 : (k : Int) < (s.sigs.length : Int) := by omega
      go_wp2_with fail
      go_region_law (first | (go_simp; go_at_call 52; refine (clone_str u s.sigs[k].to F _ (by exact HSL.out) hto).mono ?_; rintro e w2 ⟨v2, rfl, ho2, hb2⟩; obtain ⟨A2, c2, rfl, _, _⟩ := (ho2.sl strE_mono).form; have HO2 := Lib.hid ho2; clear ho2; have d7 : w2.cell? ⟨w.heap.size, 7, none⟩ = some (.slice (some ⟨g, 0, none⟩) s.sigs.length c1) := (hb2.cell (p := ⟨w.heap.size, 7, none⟩) (by show w.heap.size < wr.heap.size; omega)).trans c7; have d8 : w2.cell? ⟨g, k * 19 + 18, none⟩ = some u := (hb2.cell (p := ⟨g, k * 19 + 18, none⟩) (by show g < wr.heap.size; omega)).trans hcell; have d9 : w2.frozen? ⟨g, k * 19 + 18, none⟩ = false := (hb2.frozen (p := ⟨g, k * 19 + 18, none⟩) (by show g < wr.heap.size; omega)).trans hfro; have HB2 := Lib.hid hb2; clear hb2))
      all_goals
        have hB2 : Below wr.heap.size wr w2 := ⟨HB2.out.os, HB2.out.tape, HB2.out.output, HB2.out.size, HB2.out.block⟩
        have HI2 := Lib.hid (HI.out.step hlt rfl HU.out hB2 (by exact HO2.out))
        have HA2 := Lib.hid ((HA.out.below hB2 (by omega)).far (p := ⟨g, k * 19 + 18, none⟩) (by simp; omega) (.slice A2 s.sigs[k].to.length c2))
        have HZ2 := Lib.hid ((HZ.out.below hB2 (by omega)).far (p := ⟨g, k * 19 + 18, none⟩) (by simp; omega) (.slice A2 s.sigs[k].to.length c2))
        have HB3 := Lib.hid ((HB.out.trans (hB2.mono (by omega))).setCell (p := ⟨g, k * 19 + 18, none⟩) (by simp; omega) (.slice A2 s.sigs[k].to.length c2))
        have hs3 : w1.heap.size ≤ w2.heap.size := by have := hB2.size; omega
        clear hB2 d7 d8 d9
        go_wp2
        go_roundw
        case rel => exact ⟨k + 1, _, _, by go_num, by omega, HI2, HA2, HZ2, HB3, by simp; omega⟩
        case measure => simp [intOf]; omega
    · obtain rfl : k = s.sigs.length := by omega
      have c_wr_H_0 : wr.cell? ⟨w.heap.size, 0, none⟩ = some (.int .i64 s.line) := HA.out.cell 0; have f_wr_H_0 : wr.frozen? ⟨w.heap.size, 0, none⟩ = false := HA.out.frozen 0; have c_wr_H_1 : wr.cell? ⟨w.heap.size, 1, none⟩ = some (.int .i64 s.col) := HA.out.cell 1; have f_wr_H_1 : wr.frozen? ⟨w.heap.size, 1, none⟩ = false := HA.out.frozen 1; have c_wr_H_2 : wr.cell? ⟨w.heap.size, 2, none⟩ = some (.int .u32 s.id) := HA.out.cell 2; have f_wr_H_2 : wr.frozen? ⟨w.heap.size, 2, none⟩ = false := HA.out.frozen 2; have c_wr_H_3 : wr.cell? ⟨w.heap.size, 3, none⟩ = some (.bool s.wide) := HA.out.cell 3; have f_wr_H_3 : wr.frozen? ⟨w.heap.size, 3, none⟩ = false := HA.out.frozen 3; have c_wr_H_4 : wr.cell? ⟨w.heap.size, 4, none⟩ = some (.string s.name) := HA.out.cell 4; have f_wr_H_4 : wr.frozen? ⟨w.heap.size, 4, none⟩ = false := HA.out.frozen 4; have c_wr_H_5 : wr.cell? ⟨w.heap.size, 5, none⟩ = some (.int .i64 s.size) := HA.out.cell 5; have f_wr_H_5 : wr.frozen? ⟨w.heap.size, 5, none⟩ = false := HA.out.frozen 5; have c_wr_H_6 : wr.cell? ⟨w.heap.size, 6, none⟩ = some (.string s.sender) := HA.out.cell 6; have f_wr_H_6 : wr.frozen? ⟨w.heap.size, 6, none⟩ = false := HA.out.frozen 6; have c_wr_H_7 : wr.cell? ⟨w.heap.size, 7, none⟩ = some (.slice A1 s.sigs.length c1) := HA.out.cell 7; have f_wr_H_7 : wr.frozen? ⟨w.heap.size, 7, none⟩ = false := HA.out.frozen 7
      have c_wr_Hp1_0 : wr.cell? ⟨w.heap.size + 1, 0, none⟩ = some (.int .i64 0) := HZ.out.cell 0; have f_wr_Hp1_0 : wr.frozen? ⟨w.heap.size + 1, 0, none⟩ = false := HZ.out.frozen 0; have c_wr_Hp1_1 : wr.cell? ⟨w.heap.size + 1, 1, none⟩ = some (.int .i64 0) := HZ.out.cell 1; have f_wr_Hp1_1 : wr.frozen? ⟨w.heap.size + 1, 1, none⟩ = false := HZ.out.frozen 1; have c_wr_Hp1_2 : wr.cell? ⟨w.heap.size + 1, 2, none⟩ = some (.int .u32 0) := HZ.out.cell 2; have f_wr_Hp1_2 : wr.frozen? ⟨w.heap.size + 1, 2, none⟩ = false := HZ.out.frozen 2; have c_wr_Hp1_3 : wr.cell? ⟨w.heap.size + 1, 3, none⟩ = some (.bool false) := HZ.out.cell 3; have f_wr_Hp1_3 : wr.frozen? ⟨w.heap.size + 1, 3, none⟩ = false := HZ.out.frozen 3; have c_wr_Hp1_4 : wr.cell? ⟨w.heap.size + 1, 4, none⟩ = some (.string ⟨#[]⟩) := HZ.out.cell 4; have f_wr_Hp1_4 : wr.frozen? ⟨w.heap.size + 1, 4, none⟩ = false := HZ.out.frozen 4; have c_wr_Hp1_5 : wr.cell? ⟨w.heap.size + 1, 5, none⟩ = some (.int .i64 0) := HZ.out.cell 5; have f_wr_Hp1_5 : wr.frozen? ⟨w.heap.size + 1, 5, none⟩ = false := HZ.out.frozen 5; have c_wr_Hp1_6 : wr.cell? ⟨w.heap.size + 1, 6, none⟩ = some (.string ⟨#[]⟩) := HZ.out.cell 6; have f_wr_Hp1_6 : wr.frozen? ⟨w.heap.size + 1, 6, none⟩ = false := HZ.out.frozen 6; have c_wr_Hp1_7 : wr.cell? ⟨w.heap.size + 1, 7, none⟩ = some (.slice none 0 0) := HZ.out.cell 7; have f_wr_Hp1_7 : wr.frozen? ⟨w.heap.size + 1, 7, none⟩ = false := HZ.out.frozen 7
      go_wp2
      refine bodyPost_ret (v := .agg (msgCells s (.slice A1 s.sigs.length c1)).toArray) (results_block (g := w.heap.size + 1) (T := 62) rfl rfl ((((((((HZ.out.set 0 _).set 1 _).set 2 _).set 3 _).set 4 _).set 5 _).set 6 _).set 7 _) (by rfl) Try.underlying62 rfl (by kernel_rfl)) rfl ?_
      have hB := HB.out
      exact ⟨_, rfl, ⟨_, rfl, HI.out.end_ (by simp) (by omega) (by intro b hb; (try simp at hb); (repeat (refine (heap_setCell_other _ _ _ _ (by (try simp); omega)).trans ?_)); rfl)⟩, (by repeat' (first | (with_reducible assumption) | (with_reducible refine Below.setCell ?_ ?_ _) | (with_reducible refine Below.alloc ?_ ?_ _) | (with_reducible refine Below.drew ?_) | (with_reducible refine below_drewN ?_ _) | (with_reducible exact Below.refl _ _) | (show _ ≤ _; (try simp); (try omega); done) | exact Below.refl _ _ | assumption))⟩
end nodeC
end Go.Proofs.Ytdibfkcddcjiiaa
