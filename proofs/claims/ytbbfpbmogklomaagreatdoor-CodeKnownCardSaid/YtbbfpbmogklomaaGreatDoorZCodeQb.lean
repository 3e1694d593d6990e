/- busbarref12.bytes: the bytes of a right instruction. Condition: it is right. -/
import Derived.Test.YtbbfpbmogklomaaGreatDoorZCodeQf
import Derived.Test.YtbbfpbmogklomaaGreatDoorZCodeQs
import Derived.Test.YtbbfpbmogklomaaGreatDoorZKn
namespace Go.Proofs.YtbbfpbmogklomaaGreatDoor
open Go.RowKit Go.Bus Go.Bus.cellK Go.Bus.codeK
set_option linter.unusedVariables false
set_option linter.unusedSimpArgs false
namespace codeW
theorem rsev_int (v : Int) (m : Nat) (hv : v = m) (hm : m < 18446744073709551616) (w : World) : Calls Tryz.prog 109 #[.int .u64 v] w fun e w' => ∃ g c, e = .returned (.slice (some ⟨g, 0, none⟩) (sev m).length c) ∧ w'.ownsRow w.heap.size 5 1 (.slice (some ⟨g, 0, none⟩) (sev m).length c) (sev m).length ((sev m).map byteV) ∧ Below w.heap.size w w' := by
  subst hv
  refine (rsev_any m hm w).mono ?_
  rintro e w' ⟨v, rfl, ho, hb⟩
  obtain ⟨g, c, rfl, _, _⟩ := own_form ho (by have := sev_pos m; omega)
  exact ⟨g, c, rfl, ho, hb⟩
theorem enc_take (op : Int) (fs : List Fk) (x : Ins) {k : Nat} (h : k < fs.length) : op :: (fs.take (k + 1)).flatMap (wrF · x) = (op :: (fs.take k).flatMap (wrF · x)) ++ wrF fs[k] x := by
  rw [List.take_succ_eq_append_getElem h, List.flatMap_append]; simp
set_option maxRecDepth 100000 in
set_option maxHeartbeats 4000000 in
theorem rbytes_any {x : Ins} (hx : x.Ok) (hr : rightB x = true) (w : World) : Calls Tryz.prog 69 #[.agg (insC x).toArray] w fun e w' => ∃ v, e = .returned v ∧ w'.ownsRow w.heap.size 5 1 v (encI x).length ((encI x).map byteV) ∧ Below w.heap.size w w' := by
  obtain ⟨i0, hi, hz0, hz1, hz2⟩ := info_parts Tryz.infoB
  obtain ⟨fs0, hfs0, hok0, _⟩ := right_some hr
  cases hl : lettersOf x.op with
  | none => rw [letters_none hl] at hfs0; cases hfs0
  | some ls =>
  have hfs := letters_fields hl
  rw [hfs] at hfs0
  obtain rfl := Option.some.inj hfs0
  have hlen : ls.length ≤ 4 := by have := fields_len hfs; simpa using this
  obtain ⟨E, hE⟩ : ∃ E, E = encI x := ⟨_, rfl⟩
  rw [← hE]
  have HE : Hid (E = x.op :: (ls.map Le.fk).flatMap (wrF · x)) := Lib.hid (by rw [hE]; unfold encI bodyI; rw [hfs]; rfl)
  have hop : 0 ≤ x.op ∧ x.op < 20 := by obtain ⟨k, hk, hk2, _⟩ := fields_cases hfs; omega
  have HOK := Lib.hid hok0
  have HIM := Lib.hid hx.imm
  have HLEN : Hid (∀ k, (x.op :: ((ls.map Le.fk).take k).flatMap (wrF · x)).length ≤ 41) := Lib.hid (fun k => by
    have h1 := flat_len x hx ((ls.map Le.fk).take k) (fun f hf => hok0 f (List.mem_of_mem_take hf))
    rw [List.length_cons]
    have h2 : ((ls.map Le.fk).take k).length ≤ 4 := by rw [List.length_take, List.length_map]; omega
    omega)
  have hf : fldTxt x.op = textOf ls := by unfold fldTxt; rw [hl]
  have HF := Lib.hid (fun (W : World) => rfields_any x.op W)
  rw [hf] at HF
  have hsz := textOf_size ls
  have HGET := Lib.hid (textOf_get ls)
  obtain ⟨S, hS⟩ : ∃ S, S = textOf ls := ⟨_, rfl⟩
  rw [← hS] at HF hsz HGET
  have HSZ := Lib.hid hsz
  obtain ⟨op, a, b, n, imm⟩ := x
  obtain ⟨hop0, hop1⟩ := hop
  simp only at hop0 hop1
  have hwo : IntKind.u8.wrap op = op := by rw [IntKind.wrap_u8]; omega
  have HWO := Lib.hid hwo
  clear hwo hl hf hx hr hfs hfs0 hsz hS hE hok0
  obtain ⟨fs, hfs⟩ : ∃ fs, fs = ls.map Le.fk := ⟨_, rfl⟩
  rw [← hfs] at HE HOK HLEN
  have HFE := Lib.hid hfs
  have hfl : fs.length = ls.length := by rw [hfs]; simp
  have HFL := Lib.hid hfl
  clear hfs hfl
  unfold insC
  go_enter Tryz.func69, Tryz.ntmps69
  go_wp2_with (go_at_call 65; refine (HF.out _).mono ?_; rintro e w1 ⟨rfl, hb⟩; have hx1 := ((Has.new w 25 #[.int .i64 op, .int .i64 a, .int .i64 b, .int .i64 n, .int .u64 imm]).alloc (.cells #[.int .u8 op] 5)).below hb (by simp; omega); have zx : w.heap.size < w1.heap.size := hx1.lt; have ho1 : w1.ownsRow w.heap.size 5 1 (.slice (some ⟨w.heap.size + 1, 0, none⟩) 1 1) 1 [.int .u8 op] := (by have h9 := own_kept (own_of_has (base := w.heap.size) (size := 1) (n := 1) (cs := [.int .u8 op]) (Has.new1 w (.cells #[.int .i64 op, .int .i64 a, .int .i64 b, .int .i64 n, .int .u64 imm] 25) 5 #[.int .u8 op]) rfl (by omega) (by simp [maxLen])) hb; exact h9); have HX1 := Lib.hid hx1; have HO1 := Lib.hid ho1; have HB1 : Hid (Below w.heap.size w w1) := Lib.hid ((((Below.refl _ _).alloc (Nat.le_refl _) _).alloc (by simp) _).trans (hb.mono (by simp; omega))); clear hb hx1 ho1)
  go_loopw [3, 5] (fun l i wr => ∃ (k m : Nat), k ≤ ls.length ∧ i = .int .i64 k ∧ m ≤ 41 ∧ Hid (m = (op :: (fs.take k).flatMap (wrF · ⟨op, a, b, n, imm⟩)).length) ∧ Hid (wr.ownsRow w.heap.size 5 1 l m ((op :: (fs.take k).flatMap (wrF · ⟨op, a, b, n, imm⟩)).map byteV)) ∧ Hid (Has wr w.heap.size 25 #[.int .i64 op, .int .i64 a, .int .i64 b, .int .i64 n, .int .u64 imm]) ∧ Hid (Below w.heap.size w wr)) (fun _ i _ => ls.length - (intOf i).toNat)
  case atStart => exact ⟨0, 1, Nat.zero_le _, rfl, by omega, Lib.hid (by simp), Lib.hid (by have := HO1.out; simpa [byteV] using this), HX1, HB1⟩
  case round =>
    obtain ⟨k, m, hk, rfl, hm, HM, HO, HX, HB⟩ := hrel
    clear HX1 HO1 HB1
    have g0 : wr.cell? ⟨w.heap.size, 0, none⟩ = some (.int .i64 op) := HX.out.cell 0
    have g1 : wr.cell? ⟨w.heap.size, 1, none⟩ = some (.int .i64 a) := HX.out.cell 1
    have g2 : wr.cell? ⟨w.heap.size, 2, none⟩ = some (.int .i64 b) := HX.out.cell 2
    have g3 : wr.cell? ⟨w.heap.size, 3, none⟩ = some (.int .i64 n) := HX.out.cell 3
    have g4 : wr.cell? ⟨w.heap.size, 4, none⟩ = some (.int .u64 imm) := HX.out.cell 4
    have zX : w.heap.size < wr.heap.size := HX.out.lt
    by_cases hlt : k < ls.length
    · have hltS : k < S.size := by rw [HSZ.out]; exact hlt
      have hltF : k < fs.length := by rw [HFL.out]; exact hlt
      have hget := HGET.out k hltS hlt
      have hfk : fs[k] = (ls[k]).fk := by simp only [HFE.out, List.getElem_map]
      have HTK : Hid (op :: (fs.take (k + 1)).flatMap (wrF · ⟨op, a, b, n, imm⟩) = (op :: (fs.take k).flatMap (wrF · ⟨op, a, b, n, imm⟩)) ++ wrF (ls[k]).fk ⟨op, a, b, n, imm⟩) := Lib.hid (by rw [enc_take op fs _ hltF, hfk])
      have HLK := Lib.hid (HLEN.out (k + 1))
      have hok := HOK.out fs[k] (List.getElem_mem hltF)
      rw [hfk] at hok
      generalize hT0 : (op :: (fs.take k).flatMap (wrF · ⟨op, a, b, n, imm⟩)) = T0 at *
      generalize hT1 : (op :: (fs.take (k + 1)).flatMap (wrF · ⟨op, a, b, n, imm⟩)) = T1 at *
      have HT1 := Lib.hid hT1
      clear hT0 hT1
      cases hle : ls[k] <;> rw [hle] at HTK hok hget <;> clear hle hfk
      case a =>
        have hcc : ((S[k]'hltS).toNat : Int) = 97 := by rw [hget]; rfl
        clear hget
        have hbd : 0 ≤ a ∧ a ≤ 255 := by
          have h9 : (decide (_ ≤ a) && decide (a ≤ _)) = true := hok
          simp at h9; omega
        obtain ⟨hbd0, hbd1⟩ := hbd
        clear hok
        go_wp2_with (at_builtin; refine wpList_append_own _ rfl _ _ 28 (by rfl) w.heap.size 5 i0 (.int .u8 0) 1 1 Tryz.underlying28 hi hz0 hz1 hz2 (by rfl) (by decide) _ m (T0.map byteV) (by rfl) (by exact HO.out.alloc _) ⟨wr.heap.size, 0, none⟩ 1 1 [.int .u8 (a)] (by rfl) (by rfl) (by exact one_new _ _ _) (by intro u hu; simp at hu; subst hu; rfl) (by unfold maxLen; omega) (by omega) (by simp; omega) ?_; intro v1 w1 ho1 hg1 _; have HO1 := Lib.hid ho1; have HB1 : Hid (Below w.heap.size w w1) := Lib.hid (Below.grown (HB.out.alloc (by omega) _) hg1 (by simp; omega) fun r hr => (HO.out.lt r hr).1); have HX1 := Lib.hid ((HX.out.alloc _).grown hg1 (fun e => own_has_ne HO.out HX.out (by decide) e.symm)); clear ho1 hg1)
        go_roundw
        case rel => exact ⟨k + 1, m + 1, by omega, by go_num, by have h1 := HLK.out; have h2 := congrArg List.length HTK.out; rw [List.length_append, ← HM.out, show (wrF (Le.a).fk ⟨op, a, b, n, imm⟩).length = 1 from rfl] at h2; omega, Lib.hid (by rw [HT1.out, HTK.out, List.length_append, ← HM.out]; rfl), Lib.hid (by rw [HT1.out, HTK.out, List.map_append]; exact HO1.out), HX1, HB1⟩
        case measure => simp [intOf]; omega
      case b =>
        have hcc : ((S[k]'hltS).toNat : Int) = 98 := by rw [hget]; rfl
        clear hget
        have hbd : 0 ≤ b ∧ b ≤ 255 := by
          have h9 : (decide (_ ≤ b) && decide (b ≤ _)) = true := hok
          simp at h9; omega
        obtain ⟨hbd0, hbd1⟩ := hbd
        clear hok
        go_wp2_with (at_builtin; refine wpList_append_own _ rfl _ _ 28 (by rfl) w.heap.size 5 i0 (.int .u8 0) 1 1 Tryz.underlying28 hi hz0 hz1 hz2 (by rfl) (by decide) _ m (T0.map byteV) (by rfl) (by exact HO.out.alloc _) ⟨wr.heap.size, 0, none⟩ 1 1 [.int .u8 (b)] (by rfl) (by rfl) (by exact one_new _ _ _) (by intro u hu; simp at hu; subst hu; rfl) (by unfold maxLen; omega) (by omega) (by simp; omega) ?_; intro v1 w1 ho1 hg1 _; have HO1 := Lib.hid ho1; have HB1 : Hid (Below w.heap.size w w1) := Lib.hid (Below.grown (HB.out.alloc (by omega) _) hg1 (by simp; omega) fun r hr => (HO.out.lt r hr).1); have HX1 := Lib.hid ((HX.out.alloc _).grown hg1 (fun e => own_has_ne HO.out HX.out (by decide) e.symm)); clear ho1 hg1)
        go_roundw
        case rel => exact ⟨k + 1, m + 1, by omega, by go_num, by have h1 := HLK.out; have h2 := congrArg List.length HTK.out; rw [List.length_append, ← HM.out, show (wrF (Le.b).fk ⟨op, a, b, n, imm⟩).length = 1 from rfl] at h2; omega, Lib.hid (by rw [HT1.out, HTK.out, List.length_append, ← HM.out]; rfl), Lib.hid (by rw [HT1.out, HTK.out, List.map_append]; exact HO1.out), HX1, HB1⟩
        case measure => simp [intOf]; omega
      case k =>
        have hcc : ((S[k]'hltS).toNat : Int) = 107 := by rw [hget]; rfl
        clear hget
        have hbd : 0 ≤ b ∧ b ≤ 255 := by
          have h9 : (decide (_ ≤ b) && decide (b ≤ _)) = true := hok
          simp at h9; omega
        obtain ⟨hbd0, hbd1⟩ := hbd
        clear hok
        go_wp2_with (at_builtin; refine wpList_append_own _ rfl _ _ 28 (by rfl) w.heap.size 5 i0 (.int .u8 0) 1 1 Tryz.underlying28 hi hz0 hz1 hz2 (by rfl) (by decide) _ m (T0.map byteV) (by rfl) (by exact HO.out.alloc _) ⟨wr.heap.size, 0, none⟩ 1 1 [.int .u8 (b)] (by rfl) (by rfl) (by exact one_new _ _ _) (by intro u hu; simp at hu; subst hu; rfl) (by unfold maxLen; omega) (by omega) (by simp; omega) ?_; intro v1 w1 ho1 hg1 _; have HO1 := Lib.hid ho1; have HB1 : Hid (Below w.heap.size w w1) := Lib.hid (Below.grown (HB.out.alloc (by omega) _) hg1 (by simp; omega) fun r hr => (HO.out.lt r hr).1); have HX1 := Lib.hid ((HX.out.alloc _).grown hg1 (fun e => own_has_ne HO.out HX.out (by decide) e.symm)); clear ho1 hg1)
        go_roundw
        case rel => exact ⟨k + 1, m + 1, by omega, by go_num, by have h1 := HLK.out; have h2 := congrArg List.length HTK.out; rw [List.length_append, ← HM.out, show (wrF (Le.k).fk ⟨op, a, b, n, imm⟩).length = 1 from rfl] at h2; omega, Lib.hid (by rw [HT1.out, HTK.out, List.length_append, ← HM.out]; rfl), Lib.hid (by rw [HT1.out, HTK.out, List.map_append]; exact HO1.out), HX1, HB1⟩
        case measure => simp [intOf]; omega
      case n =>
        have hcc : ((S[k]'hltS).toNat : Int) = 110 := by rw [hget]; rfl
        clear hget
        have hbd : 0 ≤ n ∧ n ≤ 255 := by
          have h9 : (decide (1 ≤ n) && decide (n ≤ 8) && decide (b + n ≤ 8)) = true := hok
          simp at h9; omega
        obtain ⟨hbd0, hbd1⟩ := hbd
        clear hok
        go_wp2_with (at_builtin; refine wpList_append_own _ rfl _ _ 28 (by rfl) w.heap.size 5 i0 (.int .u8 0) 1 1 Tryz.underlying28 hi hz0 hz1 hz2 (by rfl) (by decide) _ m (T0.map byteV) (by rfl) (by exact HO.out.alloc _) ⟨wr.heap.size, 0, none⟩ 1 1 [.int .u8 (n)] (by rfl) (by rfl) (by exact one_new _ _ _) (by intro u hu; simp at hu; subst hu; rfl) (by unfold maxLen; omega) (by omega) (by simp; omega) ?_; intro v1 w1 ho1 hg1 _; have HO1 := Lib.hid ho1; have HB1 : Hid (Below w.heap.size w w1) := Lib.hid (Below.grown (HB.out.alloc (by omega) _) hg1 (by simp; omega) fun r hr => (HO.out.lt r hr).1); have HX1 := Lib.hid ((HX.out.alloc _).grown hg1 (fun e => own_has_ne HO.out HX.out (by decide) e.symm)); clear ho1 hg1)
        go_roundw
        case rel => exact ⟨k + 1, m + 1, by omega, by go_num, by have h1 := HLK.out; have h2 := congrArg List.length HTK.out; rw [List.length_append, ← HM.out, show (wrF (Le.n).fk ⟨op, a, b, n, imm⟩).length = 1 from rfl] at h2; omega, Lib.hid (by rw [HT1.out, HTK.out, List.length_append, ← HM.out]; rfl), Lib.hid (by rw [HT1.out, HTK.out, List.map_append]; exact HO1.out), HX1, HB1⟩
        case measure => simp [intOf]; omega
      case s =>
        have hcc : ((S[k]'hltS).toNat : Int) = 115 := by rw [hget]; rfl
        clear hget
        have hbd : 0 ≤ b ∧ b ≤ 255 := by
          have h9 : (decide (_ ≤ b) && decide (b ≤ _)) = true := hok
          simp at h9; omega
        obtain ⟨hbd0, hbd1⟩ := hbd
        clear hok
        go_wp2_with (at_builtin; refine wpList_append_own _ rfl _ _ 28 (by rfl) w.heap.size 5 i0 (.int .u8 0) 1 1 Tryz.underlying28 hi hz0 hz1 hz2 (by rfl) (by decide) _ m (T0.map byteV) (by rfl) (by exact HO.out.alloc _) ⟨wr.heap.size, 0, none⟩ 1 1 [.int .u8 (b)] (by rfl) (by rfl) (by exact one_new _ _ _) (by intro u hu; simp at hu; subst hu; rfl) (by unfold maxLen; omega) (by omega) (by simp; omega) ?_; intro v1 w1 ho1 hg1 _; have HO1 := Lib.hid ho1; have HB1 : Hid (Below w.heap.size w w1) := Lib.hid (Below.grown (HB.out.alloc (by omega) _) hg1 (by simp; omega) fun r hr => (HO.out.lt r hr).1); have HX1 := Lib.hid ((HX.out.alloc _).grown hg1 (fun e => own_has_ne HO.out HX.out (by decide) e.symm)); clear ho1 hg1)
        go_roundw
        case rel => exact ⟨k + 1, m + 1, by omega, by go_num, by have h1 := HLK.out; have h2 := congrArg List.length HTK.out; rw [List.length_append, ← HM.out, show (wrF (Le.s).fk ⟨op, a, b, n, imm⟩).length = 1 from rfl] at h2; omega, Lib.hid (by rw [HT1.out, HTK.out, List.length_append, ← HM.out]; rfl), Lib.hid (by rw [HT1.out, HTK.out, List.map_append]; exact HO1.out), HX1, HB1⟩
        case measure => simp [intOf]; omega
      case h =>
        have hcc : ((S[k]'hltS).toNat : Int) = 104 := by rw [hget]; rfl
        clear hget
        have hbd : 0 ≤ n ∧ n ≤ 255 := by
          have h9 : (decide (_ ≤ n) && decide (n ≤ _)) = true := hok
          simp at h9; omega
        obtain ⟨hbd0, hbd1⟩ := hbd
        clear hok
        go_wp2_with (at_builtin; refine wpList_append_own _ rfl _ _ 28 (by rfl) w.heap.size 5 i0 (.int .u8 0) 1 1 Tryz.underlying28 hi hz0 hz1 hz2 (by rfl) (by decide) _ m (T0.map byteV) (by rfl) (by exact HO.out.alloc _) ⟨wr.heap.size, 0, none⟩ 1 1 [.int .u8 (n)] (by rfl) (by rfl) (by exact one_new _ _ _) (by intro u hu; simp at hu; subst hu; rfl) (by unfold maxLen; omega) (by omega) (by simp; omega) ?_; intro v1 w1 ho1 hg1 _; have HO1 := Lib.hid ho1; have HB1 : Hid (Below w.heap.size w w1) := Lib.hid (Below.grown (HB.out.alloc (by omega) _) hg1 (by simp; omega) fun r hr => (HO.out.lt r hr).1); have HX1 := Lib.hid ((HX.out.alloc _).grown hg1 (fun e => own_has_ne HO.out HX.out (by decide) e.symm)); clear ho1 hg1)
        go_roundw
        case rel => exact ⟨k + 1, m + 1, by omega, by go_num, by have h1 := HLK.out; have h2 := congrArg List.length HTK.out; rw [List.length_append, ← HM.out, show (wrF (Le.h).fk ⟨op, a, b, n, imm⟩).length = 1 from rfl] at h2; omega, Lib.hid (by rw [HT1.out, HTK.out, List.length_append, ← HM.out]; rfl), Lib.hid (by rw [HT1.out, HTK.out, List.map_append]; exact HO1.out), HX1, HB1⟩
        case measure => simp [intOf]; omega
      case w =>
        have hcc : ((S[k]'hltS).toNat : Int) = 119 := by rw [hget]; rfl
        clear hget
        have hbd : 0 ≤ n ∧ n ≤ 255 := by
          have h9 : (decide (_ ≤ n) && decide (n ≤ _)) = true := hok
          simp at h9; omega
        obtain ⟨hbd0, hbd1⟩ := hbd
        clear hok
        go_wp2_with (at_builtin; refine wpList_append_own _ rfl _ _ 28 (by rfl) w.heap.size 5 i0 (.int .u8 0) 1 1 Tryz.underlying28 hi hz0 hz1 hz2 (by rfl) (by decide) _ m (T0.map byteV) (by rfl) (by exact HO.out.alloc _) ⟨wr.heap.size, 0, none⟩ 1 1 [.int .u8 (n)] (by rfl) (by rfl) (by exact one_new _ _ _) (by intro u hu; simp at hu; subst hu; rfl) (by unfold maxLen; omega) (by omega) (by simp; omega) ?_; intro v1 w1 ho1 hg1 _; have HO1 := Lib.hid ho1; have HB1 : Hid (Below w.heap.size w w1) := Lib.hid (Below.grown (HB.out.alloc (by omega) _) hg1 (by simp; omega) fun r hr => (HO.out.lt r hr).1); have HX1 := Lib.hid ((HX.out.alloc _).grown hg1 (fun e => own_has_ne HO.out HX.out (by decide) e.symm)); clear ho1 hg1)
        go_roundw
        case rel => exact ⟨k + 1, m + 1, by omega, by go_num, by have h1 := HLK.out; have h2 := congrArg List.length HTK.out; rw [List.length_append, ← HM.out, show (wrF (Le.w).fk ⟨op, a, b, n, imm⟩).length = 1 from rfl] at h2; omega, Lib.hid (by rw [HT1.out, HTK.out, List.length_append, ← HM.out]; rfl), Lib.hid (by rw [HT1.out, HTK.out, List.map_append]; exact HO1.out), HX1, HB1⟩
        case measure => simp [intOf]; omega
      case j =>
        have hcc : ((S[k]'hltS).toNat : Int) = 106 := by rw [hget]; rfl
        clear hget
        obtain ⟨q, hq⟩ : ∃ q : Nat, q = n.toNat := ⟨_, rfl⟩
        have hbd : 0 ≤ n ∧ n ≤ 16384 := by
          have h9 : (decide (0 ≤ n) && decide (n ≤ 16384)) = true := hok
          simp at h9; omega
        have hq1 : n = (q : Int) := by omega
        have HQ := Lib.hid hq1
        have hq2 : q < 18446744073709551616 := by omega
        have HQW : Hid (wrF .skip ⟨op, a, b, n, imm⟩ = sev q) := Lib.hid (by simp only [wrF]; rw [hq])
        have hsp : 1 ≤ (sev q).length := sev_pos q
        have hsl : m + (sev q).length ≤ 41 := by have h1 := HLK.out; have h2 := congrArg List.length HTK.out; rw [List.length_append, ← HM.out] at h2; have h3 := congrArg List.length HQW.out; simp only [Le.fk] at h2; omega
        clear hq hok
        have HSV := Lib.hid (fun (v : Int) (hv : v = (q : Int)) (W : World) => rsev_int v q hv hq2 W)
        clear hq1 hbd
        go_wp2_with (first | (go_at_call 109; refine (HSV.out _ (by have := HQ.out; first | exact this | (rw [IntKind.wrap_u64]; omega)) _).mono ?_; rintro e w2 ⟨g2', c2, rfl, ho2, hb2⟩; have HS2 := Lib.hid ho2; have HO2 := Lib.hid (own_kept HO.out hb2); have HX2 := Lib.hid (HX.out.below hb2 HX.out.lt); have HB2 := Lib.hid (HB.out.trans (hb2.mono (Nat.le_of_lt zX))); have zX2 : w.heap.size < w2.heap.size := HX2.out.lt; clear ho2 hb2) | (at_builtin; refine wpList_append_own _ rfl _ _ 28 (by rfl) w.heap.size 5 i0 (.int .u8 0) 1 1 Tryz.underlying28 hi hz0 hz1 hz2 (by rfl) (by decide) _ m (T0.map byteV) (by rfl) (by exact HO2.out) ⟨g2', 0, none⟩ (sev q).length _ ((sev q).map byteV) (by rfl) (by simp) (by exact HS2.out.cells rfl) (by intro u hu; obtain ⟨z, _, rfl⟩ := List.mem_map.1 hu; rfl) (by unfold maxLen; omega) (by omega) (Nat.le_of_lt zX2) ?_; intro v1 w1 ho1 hg1 _; have HO1 := Lib.hid ho1; have HB1 : Hid (Below w.heap.size w w1) := Lib.hid (Below.grown HB2.out hg1 (Nat.le_of_lt zX2) fun r hr => (HO2.out.lt r hr).1); have HX1 := Lib.hid (HX2.out.grown hg1 (fun e => own_has_ne HO2.out HX2.out (by decide) e.symm)); clear ho1 hg1))
        go_roundw
        case rel => exact ⟨k + 1, m + (sev q).length, by omega, by go_num, hsl, Lib.hid (by rw [HT1.out, HTK.out, List.length_append, ← HM.out]; simp only [Le.fk]; rw [HQW.out]), Lib.hid (by rw [HT1.out, HTK.out, List.map_append]; simp only [Le.fk]; rw [HQW.out]; exact HO1.out), HX1, HB1⟩
        case measure => simp [intOf]; omega
      case i =>
        have hcc : ((S[k]'hltS).toNat : Int) = 105 := by rw [hget]; rfl
        clear hget
        obtain ⟨q, hq⟩ : ∃ q : Nat, q = imm.toNat := ⟨_, rfl⟩
        have hbd := HIM.out
        have hq1 : imm = (q : Int) := by omega
        have HQ := Lib.hid hq1
        have hq2 : q < 18446744073709551616 := by omega
        have HQW : Hid (wrF .number ⟨op, a, b, n, imm⟩ = sev q) := Lib.hid (by simp only [wrF]; rw [hq])
        have hsp : 1 ≤ (sev q).length := sev_pos q
        have hsl : m + (sev q).length ≤ 41 := by have h1 := HLK.out; have h2 := congrArg List.length HTK.out; rw [List.length_append, ← HM.out] at h2; have h3 := congrArg List.length HQW.out; simp only [Le.fk] at h2; omega
        clear hq hok
        have HSV := Lib.hid (fun (v : Int) (hv : v = (q : Int)) (W : World) => rsev_int v q hv hq2 W)
        clear hq1 hbd
        go_wp2_with (first | (go_at_call 109; refine (HSV.out _ (by have := HQ.out; first | exact this | (rw [IntKind.wrap_u64]; omega)) _).mono ?_; rintro e w2 ⟨g2', c2, rfl, ho2, hb2⟩; have HS2 := Lib.hid ho2; have HO2 := Lib.hid (own_kept HO.out hb2); have HX2 := Lib.hid (HX.out.below hb2 HX.out.lt); have HB2 := Lib.hid (HB.out.trans (hb2.mono (Nat.le_of_lt zX))); have zX2 : w.heap.size < w2.heap.size := HX2.out.lt; clear ho2 hb2) | (at_builtin; refine wpList_append_own _ rfl _ _ 28 (by rfl) w.heap.size 5 i0 (.int .u8 0) 1 1 Tryz.underlying28 hi hz0 hz1 hz2 (by rfl) (by decide) _ m (T0.map byteV) (by rfl) (by exact HO2.out) ⟨g2', 0, none⟩ (sev q).length _ ((sev q).map byteV) (by rfl) (by simp) (by exact HS2.out.cells rfl) (by intro u hu; obtain ⟨z, _, rfl⟩ := List.mem_map.1 hu; rfl) (by unfold maxLen; omega) (by omega) (Nat.le_of_lt zX2) ?_; intro v1 w1 ho1 hg1 _; have HO1 := Lib.hid ho1; have HB1 : Hid (Below w.heap.size w w1) := Lib.hid (Below.grown HB2.out hg1 (Nat.le_of_lt zX2) fun r hr => (HO2.out.lt r hr).1); have HX1 := Lib.hid (HX2.out.grown hg1 (fun e => own_has_ne HO2.out HX2.out (by decide) e.symm)); clear ho1 hg1))
        go_roundw
        case rel => exact ⟨k + 1, m + (sev q).length, by omega, by go_num, hsl, Lib.hid (by rw [HT1.out, HTK.out, List.length_append, ← HM.out]; simp only [Le.fk]; rw [HQW.out]), Lib.hid (by rw [HT1.out, HTK.out, List.map_append]; simp only [Le.fk]; rw [HQW.out]; exact HO1.out), HX1, HB1⟩
        case measure => simp [intOf]; omega
      case g =>
        have hcc : ((S[k]'hltS).toNat : Int) = 103 := by rw [hget]; rfl
        clear hget
        obtain ⟨q, hq⟩ : ∃ q : Nat, q = imm.toNat := ⟨_, rfl⟩
        have hbd := HIM.out
        have hq1 : imm = (q : Int) := by omega
        have HQ := Lib.hid hq1
        have hq2 : q < 18446744073709551616 := by omega
        have HQW : Hid (wrF .sign ⟨op, a, b, n, imm⟩ = sev q) := Lib.hid (by simp only [wrF]; rw [hq])
        have hsp : 1 ≤ (sev q).length := sev_pos q
        have hsl : m + (sev q).length ≤ 41 := by have h1 := HLK.out; have h2 := congrArg List.length HTK.out; rw [List.length_append, ← HM.out] at h2; have h3 := congrArg List.length HQW.out; simp only [Le.fk] at h2; omega
        clear hq hok
        have HSV := Lib.hid (fun (v : Int) (hv : v = (q : Int)) (W : World) => rsev_int v q hv hq2 W)
        clear hq1 hbd
        go_wp2_with (first | (go_at_call 109; refine (HSV.out _ (by have := HQ.out; first | exact this | (rw [IntKind.wrap_u64]; omega)) _).mono ?_; rintro e w2 ⟨g2', c2, rfl, ho2, hb2⟩; have HS2 := Lib.hid ho2; have HO2 := Lib.hid (own_kept HO.out hb2); have HX2 := Lib.hid (HX.out.below hb2 HX.out.lt); have HB2 := Lib.hid (HB.out.trans (hb2.mono (Nat.le_of_lt zX))); have zX2 : w.heap.size < w2.heap.size := HX2.out.lt; clear ho2 hb2) | (at_builtin; refine wpList_append_own _ rfl _ _ 28 (by rfl) w.heap.size 5 i0 (.int .u8 0) 1 1 Tryz.underlying28 hi hz0 hz1 hz2 (by rfl) (by decide) _ m (T0.map byteV) (by rfl) (by exact HO2.out) ⟨g2', 0, none⟩ (sev q).length _ ((sev q).map byteV) (by rfl) (by simp) (by exact HS2.out.cells rfl) (by intro u hu; obtain ⟨z, _, rfl⟩ := List.mem_map.1 hu; rfl) (by unfold maxLen; omega) (by omega) (Nat.le_of_lt zX2) ?_; intro v1 w1 ho1 hg1 _; have HO1 := Lib.hid ho1; have HB1 : Hid (Below w.heap.size w w1) := Lib.hid (Below.grown HB2.out hg1 (Nat.le_of_lt zX2) fun r hr => (HO2.out.lt r hr).1); have HX1 := Lib.hid (HX2.out.grown hg1 (fun e => own_has_ne HO2.out HX2.out (by decide) e.symm)); clear ho1 hg1))
        go_roundw
        case rel => exact ⟨k + 1, m + (sev q).length, by omega, by go_num, hsl, Lib.hid (by rw [HT1.out, HTK.out, List.length_append, ← HM.out]; simp only [Le.fk]; rw [HQW.out]), Lib.hid (by rw [HT1.out, HTK.out, List.map_append]; simp only [Le.fk]; rw [HQW.out]; exact HO1.out), HX1, HB1⟩
        case measure => simp [intOf]; omega
    · obtain rfl : k = ls.length := by omega
      have hft : fs.take ls.length = fs := List.take_of_length_le (by rw [HFL.out]; exact Nat.le_refl _)
      rw [hft] at HM HO
      have hdec : decide ((ls.length : Int) < (S.size : Int)) = false := by rw [HSZ.out]; simp
      have hdec2 : decide (ls.length < S.size) = false := by rw [HSZ.out]; simp
      have hdec3 : S.size ≤ ls.length := by rw [HSZ.out]; exact Nat.le_refl _
      clear hft
      go_wp2
      go_ret
      exact ⟨_, rfl, by rw [HE.out, ← HM.out]; exact HO.out, HB.out⟩
end codeW
end Go.Proofs.YtbbfpbmogklomaaGreatDoor
