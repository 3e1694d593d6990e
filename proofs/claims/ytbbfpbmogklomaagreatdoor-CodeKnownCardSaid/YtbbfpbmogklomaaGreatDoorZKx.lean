/- Texts of this claim, one behind the other. No condition but those that each states. -/
import Derived.Test.YtbbfpbmogklomaaGreatDoorZKd
import Derived.Test.YtbbfpbmogklomaaGreatDoorZCodeRv
import Derived.Test.YtbbfpbmogklomaaGreatDoorZK0

namespace Go.Bus.codeK
open Go.Bus.hexK Go.Lib
set_option linter.unusedVariables false
theorem dgv_hexd {d : Nat} (h : d < 16) : dgv (hexd d).toNat = d := by
  have key : ∀ d : Fin 16, dgv (hexd d.val).toNat = d.val := by decide
  exact key ⟨d, h⟩
theorem valG_append (b : Nat) : ∀ (A B : List UInt8) (v : Nat), valG b (A ++ B) v = valG b B (valG b A v)
  | [], _, _ => rfl
  | c :: A, B, v => by
    rw [List.cons_append]
    show valG b (A ++ B) _ = valG b B (valG b A _)
    exact valG_append b A B _
theorem valG_digs {b : Nat} (h2 : 2 ≤ b) (h16 : b ≤ 16) (n : Nat) (hn : n < 18446744073709551616) : valG b (digsB b n) 0 = n := by
  induction n using Nat.strongRecOn with
  | ind n ih =>
    by_cases h : n < b
    · rw [digsB_lt h]
      show (b * 0 + dgv (hexd n).toNat) % 18446744073709551616 = n
      rw [dgv_hexd (by omega)]
      omega
    · rw [digsB_ge h h2, valG_append, ih (n / b) (Nat.div_lt_self (by omega) (by omega)) (Nat.lt_of_le_of_lt (Nat.div_le_self n b) hn)]
      show (b * (n / b) + dgv (hexd (n % b)).toNat) % 18446744073709551616 = n
      rw [dgv_hexd (by have := Nat.mod_lt n (show 0 < b by omega); omega), Nat.div_add_mod, Nat.mod_eq_of_lt hn]
theorem valG_lt (b : Nat) (S : List UInt8) : ∀ v, v < 18446744073709551616 → valG b S v < 18446744073709551616 := by
  induction S with
  | nil => intro v h; exact h
  | cons c r ih => intro v _; exact ih _ (Nat.mod_lt _ (by decide))
/-- What a word says at most, put into an instruction. -/
def setD (l : Le) (W : List UInt8) (y : Ins) : Ins :=
  match l with
  | .a => y.put .A (IntKind.i64.wrap (valG 10 (W.drop 1) 0 : Nat))
  | .b => y.put .B (IntKind.i64.wrap (valG 10 (W.drop 1) 0 : Nat))
  | .k => y.put .B (IntKind.i64.wrap (valG 10 W 0 : Nat))
  | .s => y.put .B (IntKind.i64.wrap (valG 10 W 0 : Nat))
  | .i => y.put .I (valG 16 (W.drop 2) 0 : Nat)
  | .g => if W = signedT then y.put .I 1 else y
  | .n => y.put .N (IntKind.i64.wrap (valG 10 W 0 : Nat))
  | .h => y.put .N (IntKind.i64.wrap (valG 10 W 0 : Nat))
  | .w => y.put .N (IntKind.i64.wrap (valG 10 W 0 : Nat))
  | .j => y.put .N (IntKind.i64.wrap (valG 10 W 0 : Nat))
theorem setD_op (l : Le) (W : List UInt8) (y : Ins) : (setD l W y).op = y.op := by
  cases l <;> simp only [setD] <;> (try split) <;> rfl
theorem setD_ok (l : Le) (W : List UInt8) {y : Ins} (hy : y.Ok) : (setD l W y).Ok := by
  obtain ⟨h1, h2, h3, h4, h5⟩ := hy
  have hw : ∀ v : Int, -9223372036854775808 ≤ IntKind.i64.wrap v ∧ IntKind.i64.wrap v ≤ 9223372036854775807 := fun v => by
    rw [IntKind.wrap_i64]; omega
  have hi := valG_lt 16 (W.drop 2) 0 (by decide)
  cases l <;> simp only [setD, Ins.put]
  case g => split <;> first | exact ⟨h1, h2, h3, h4, h5⟩ | exact ⟨h1, h2, h3, h4, by show (0 : Int) ≤ 1 ∧ (1 : Int) < 18446744073709551616; decide⟩
  case i => exact ⟨h1, h2, h3, h4, by show (0 : Int) ≤ ((valG 16 (W.drop 2) 0 : Nat) : Int) ∧ ((valG 16 (W.drop 2) 0 : Nat) : Int) < 18446744073709551616; omega⟩
  all_goals first
    | exact ⟨h1, hw _, h3, h4, h5⟩
    | exact ⟨h1, h2, hw _, h4, h5⟩
    | exact ⟨h1, h2, h3, hw _, h5⟩
/-- The words one after the other. -/
def setsD : List Le → List (List UInt8) → Ins → Ins
  | l :: ls, W :: Ws, y => setsD ls Ws (setD l W y)
  | [], _, y => y
  | _ :: _, [], y => y
theorem setsD_nil (Ws : List (List UInt8)) (y : Ins) : setsD [] Ws y = y := by cases Ws <;> rfl
theorem setsD_out (ls : List Le) (y : Ins) : setsD ls [] y = y := by cases ls <;> rfl
theorem setsD_drop {ls : List Le} {Ws : List (List UInt8)} {j : Nat} (y : Ins) (h1 : j < ls.length) (h2 : j < Ws.length) : setsD (ls.drop j) (Ws.drop j) y = setsD (ls.drop (j + 1)) (Ws.drop (j + 1)) (setD ls[j] Ws[j] y) := by
  rw [List.drop_eq_getElem_cons h1, List.drop_eq_getElem_cons h2]; rfl
theorem setsD_op : ∀ (ls : List Le) (Ws : List (List UInt8)) (y : Ins), (setsD ls Ws y).op = y.op
  | [], Ws, y => by rw [setsD_nil]
  | l :: ls, [], y => rfl
  | l :: ls, W :: Ws, y => by
    show (setsD ls Ws (setD l W y)).op = y.op
    rw [setsD_op ls Ws, setD_op]
theorem setsD_ok : ∀ (ls : List Le) (Ws : List (List UInt8)) {y : Ins}, y.Ok → (setsD ls Ws y).Ok
  | [], Ws, y, h => by rw [setsD_nil]; exact h
  | l :: ls, [], y, h => h
  | l :: ls, W :: Ws, y, h => setsD_ok ls Ws (setD_ok l W h)
theorem zero_k {k : Nat} (hk : k < 20) : (zero (k : Int)).Ok := ⟨⟨by show -9223372036854775808 ≤ (k : Int); omega, by show (k : Int) ≤ 9223372036854775807; omega⟩, by simp [zero], by simp [zero], by simp [zero], by simp [zero]⟩
theorem wrap_pos {x : Int} (h : 0 ≤ x ∧ x ≤ 9223372036854775807) (b : Nat) (hb : b = 10) : IntKind.i64.wrap (valG b (digsB b x.toNat) 0 : Nat) = x := by
  subst hb
  rw [valG_digs (by decide) (by decide) _ (by omega), IntKind.wrap_i64]
  omega
/-- Of a right field's word just the field. -/
theorem setD_word {l : Le} {x y : Ins} (hx : x.Ok) (ho : okF l.fk x = true) (hg : l = .g → y.imm = 0) : setD l (wordL l x) y = y.put l.fk.wh (x.at_ l.fk.wh) := by
  have ha := hx.a
  have hb := hx.b
  have hn := hx.n
  have hi := hx.imm
  cases l with
  | a =>
    have h0 : 0 ≤ x.a := lo_of ho
    show y.put .A (IntKind.i64.wrap (valG 10 (digsB 10 x.a.toNat) 0 : Nat)) = y.put .A x.a
    rw [wrap_pos ⟨h0, ha.2⟩ 10 rfl]
  | b =>
    have h0 : 0 ≤ x.b := lo_of ho
    show y.put .B (IntKind.i64.wrap (valG 10 (digsB 10 x.b.toNat) 0 : Nat)) = y.put .B x.b
    rw [wrap_pos ⟨h0, hb.2⟩ 10 rfl]
  | k =>
    have h0 : 0 ≤ x.b := lo_of ho
    show y.put .B (IntKind.i64.wrap (valG 10 (digsB 10 x.b.toNat) 0 : Nat)) = y.put .B x.b
    rw [wrap_pos ⟨h0, hb.2⟩ 10 rfl]
  | s =>
    have h0 : 0 ≤ x.b := lo_of ho
    show y.put .B (IntKind.i64.wrap (valG 10 (digsB 10 x.b.toNat) 0 : Nat)) = y.put .B x.b
    rw [wrap_pos ⟨h0, hb.2⟩ 10 rfl]
  | h =>
    have h0 : 0 ≤ x.n := lo_of ho
    show y.put .N (IntKind.i64.wrap (valG 10 (digsB 10 x.n.toNat) 0 : Nat)) = y.put .N x.n
    rw [wrap_pos ⟨h0, hn.2⟩ 10 rfl]
  | w =>
    have h0 : 1 ≤ x.n := lo_of ho
    show y.put .N (IntKind.i64.wrap (valG 10 (digsB 10 x.n.toNat) 0 : Nat)) = y.put .N x.n
    rw [wrap_pos ⟨by omega, hn.2⟩ 10 rfl]
  | n =>
    have h0 : 1 ≤ x.n := lo_of3 ho
    show y.put .N (IntKind.i64.wrap (valG 10 (digsB 10 x.n.toNat) 0 : Nat)) = y.put .N x.n
    rw [wrap_pos ⟨by omega, hn.2⟩ 10 rfl]
  | j =>
    have h0 : 0 ≤ x.n := lo_of ho
    show y.put .N (IntKind.i64.wrap (valG 10 (digsB 10 x.n.toNat) 0 : Nat)) = y.put .N x.n
    rw [wrap_pos ⟨h0, hn.2⟩ 10 rfl]
  | i =>
    show y.put .I (valG 16 (digsB 16 x.imm.toNat) 0 : Nat) = y.put .I x.imm
    rw [valG_digs (by decide) (by decide) _ (by omega), show ((x.imm.toNat : Nat) : Int) = x.imm from by omega]
  | g =>
    have h1 : x.imm ≤ 1 := of_decide_eq_true ho
    show (if (if x.imm = 1 then signedT else unsignedT) = signedT then y.put .I 1 else y) = y.put .I x.imm
    by_cases h : x.imm = 1
    · rw [if_pos h, if_pos rfl, h]
    · have h0 : x.imm = 0 := by omega
      rw [if_neg h, if_neg (by decide), h0]
      have := hg rfl
      obtain ⟨op, a, b, n, imm⟩ := y
      simp only at this
      subst this
      rfl
theorem letters_sign : ∀ q : Fin 20, ∀ ls, lettersN q.val = some ls → ls.Nodup ∧ (.g ∈ ls → .i ∉ ls) := by
  intro q ls h
  have key : ∀ q : Fin 20, ((lettersN q.val).map fun ls => decide (ls.Nodup ∧ (.g ∈ ls → .i ∉ ls))) = some true := by decide
  have := key q
  rw [h] at this
  exact of_decide_eq_true (Option.some.inj this)
theorem setsD_words {x : Ins} (hx : x.Ok) : ∀ (ls : List Le) (y : Ins), (∀ l ∈ ls, okF l.fk x = true) → ls.Nodup → (.g ∈ ls → .i ∉ ls) → (.g ∈ ls → y.imm = 0) → setsD ls (ls.map (wordL · x)) y = setAll (ls.map Le.fk) x y
  | [], y, _, _, _, _ => rfl
  | l :: ls, y, ho, hd, hi, hg => by
    have h1 := setD_word (l := l) (y := y) hx (ho l (List.mem_cons_self ..)) (fun e => hg (by rw [e]; exact List.mem_cons_self ..))
    show setsD ls (ls.map (wordL · x)) (setD l (wordL l x) y) = setAll (ls.map Le.fk) x (y.put l.fk.wh (x.at_ l.fk.wh))
    rw [h1]
    have hd' := List.nodup_cons.1 hd
    refine setsD_words hx ls _ (fun q hq => ho q (List.mem_cons_of_mem _ hq)) hd'.2 (fun h e => hi (List.mem_cons_of_mem _ h) (List.mem_cons_of_mem _ e)) (fun h => ?_)
    have h0 := hg (List.mem_cons_of_mem _ h)
    have hl1 : l ≠ .g := fun e => hd'.1 (e ▸ h)
    have hl2 : l ≠ .i := fun e => hi (List.mem_cons_of_mem _ h) (by rw [e]; exact List.mem_cons_self ..)
    cases l <;> first | exact absurd rfl hl1 | exact absurd rfl hl2 | exact h0
/-- The words of a right instruction's line; what they come to. -/
theorem line_sets {x : Ins} {ls : List Le} (hx : x.Ok) (hl : lettersOf x.op = some ls) (hr : rightB x = true) : cutW (lineI x) = nameN x.op.toNat :: ls.map (wordL · x) ∧ setsD ls (ls.map (wordL · x)) (zero x.op) = x := by
  obtain ⟨fs, h1, h2, h3⟩ := right_some hr
  have hfs := h1
  rw [letters_fields hl] at h1
  obtain rfl := Option.some.inj h1
  obtain ⟨k, hk, hk20, hlk⟩ := letters_cases hl
  have hw : ∀ l ∈ ls, wordL l x = txtF l.fk x := fun l h => word_txt (h2 l.fk (List.mem_map.2 ⟨l, h, rfl⟩))
  constructor
  · rw [← line_words hl hr, ← cutW_split _ _ (Nat.le_refl _)]
    have e : lineL ls x = (ls.map (wordL · x)).flatMap (32 :: ·) := by unfold lineL; rw [List.flatMap_map]
    rw [e]
    refine split_join _ _ (name_noBlank (by omega)) ?_
    intro t ht
    obtain ⟨l, hl1, rfl⟩ := List.mem_map.1 ht
    rw [hw l hl1]
    exact txt_noBlank (fields_noBlank hfs _ (List.mem_map.2 ⟨l, hl1, rfl⟩))
  · have hs := letters_sign ⟨k, hk20⟩ ls hlk
    rw [setsD_words hx ls _ (fun l h => h2 l.fk (List.mem_map.2 ⟨l, h, rfl⟩)) hs.1 hs.2 (fun _ => rfl)]
    exact h3
end Go.Bus.codeK

namespace Go.Proofs.YtbbfpbmogklomaaGreatDoor
open Go.RowKit Go.Bus Go.Bus.cellK Go.Bus.codeK
set_option linter.unusedVariables false
set_option linter.unusedSimpArgs false
namespace codeW
abbrev strV (t : List UInt8) : Value := .string ⟨t.toArray⟩
theorem infoTx : (Tryz.prog.info? 9).map (fun i => (i.zero, i.size, i.bytes)) = some (some (.string ByteArray.empty), 1, 16) := by kernel_rfl
theorem extract_mid (S : List UInt8) (f i : Nat) : (⟨S.toArray⟩ : ByteArray).extract f i = ⟨((S.drop f).take (i - f)).toArray⟩ := by
  apply ByteArray.ext
  simp
theorem mid_snoc (S : List UInt8) {f i : Nat} (hf : f ≤ i) (hi : i < S.length) : (S.drop f).take (i + 1 - f) = (S.drop f).take (i - f) ++ [S[i]] := by
  rw [show i + 1 - f = (i - f) + 1 from by omega, List.take_succ_eq_append_getElem (by rw [List.length_drop]; omega), List.getElem_drop]
  congr 2
  simp only [show f + (i - f) = i from by omega]
def RowW (w : World) (B : Nat) (v : Value) (l : List (List UInt8)) : Prop := w.ownsRow B 9 1 v l.length (l.map strV)
set_option maxRecDepth 100000 in
set_option maxHeartbeats 2000000 in
theorem words_any (S : List UInt8) (hl : S.length ≤ 4194304) (w : World) : Calls Tryz.prog 76 #[.string ⟨S.toArray⟩] w fun e w' => ∃ v, e = .returned v ∧ RowW w' w.heap.size v (cutW S) ∧ Below w.heap.size w w' := by
  obtain ⟨i0, hi, hz0, hz1, hz2⟩ := info_parts infoTx
  go_enter Tryz.func76, Tryz.ntmps76
  go_wp2
  go_loopw [3, 4, 5] (fun row fr iv wr => ∃ (f i : Nat) (L : List (List UInt8)), fr = .int .i64 (f : Nat) ∧ iv = .int .i64 (i : Nat) ∧ f ≤ i ∧ i ≤ S.length + 1 ∧ L.length ≤ i ∧ Hid (RowW wr w.heap.size row L) ∧ Hid (Below w.heap.size w wr) ∧ Hid ((i ≤ S.length → L ++ glue ((S.drop f).take (i - f)) (cutW (S.drop i)) = cutW S) ∧ (i = S.length + 1 → L = cutW S))) (fun _ _ iv _ => S.length + 1 - (intOf iv).toNat)
  case atStart => exact ⟨0, 0, [], rfl, rfl, Nat.le_refl _, by omega, Nat.zero_le _, Lib.hid (World.ownsRow_nil _ _ _ _), Lib.hid (Below.refl _ _), Lib.hid ⟨fun _ => by simpa using glue_nil S, fun h => absurd h (by omega)⟩⟩
  case round =>
    obtain ⟨f, i, L, rfl, rfl, hfi, hil, hLi, HO, HB, HE⟩ := hrel
    by_cases hin : i ≤ S.length
    · have HE1 := Lib.hid (HE.out.1 hin)
      clear HE
      have d0 : decide ((i : Int) ≤ (S.length : Int)) = true := by simp; omega
      have hsl : ∀ W, (Instr.slice 9 (.string ⟨S.toArray⟩) (some (.int .i64 (f : Nat))) (some (.int .i64 (i : Nat))) none).run Tryz.prog W = .ok (.string ⟨((S.drop f).take (i - f)).toArray⟩) W := fun W => by
        rw [run_slice_string_if W _ _ _ _ _ _ Tryz.underlying9, if_pos ⟨by omega, by show (i : Int) ≤ (S.length : Int); omega⟩, if_pos ⟨by omega, by omega⟩]
        rw [show ((f : Int)).toNat = f from by omega, show ((i : Int)).toNat = i from by omega, extract_mid]
      have HX := HO.out
      unfold RowW at HX
      obtain ⟨P, hP⟩ : ∃ P, P = (S.drop f).take (i - f) := ⟨_, rfl⟩
      rw [← hP] at HE1 hsl
      have HP := Lib.hid hP
      clear hP
      by_cases hlt : i < S.length
      · obtain ⟨c, hcE⟩ : ∃ c : Nat, ((S[i]'hlt).toNat : Int) = c := ⟨_, rfl⟩
        have hcE2 : (((⟨S.toArray⟩ : ByteArray)[i]'(by show i < S.toArray.size; simpa using hlt)).toNat : Int) = c := hcE
        have e0 : ((i : Int) == (S.length : Int)) = false := by simp; omega
        by_cases h32 : c = 32
        · have hS : S[i]'hlt = 32 := UInt8.toNat_inj.1 (by show (S[i]'hlt).toNat = 32; omega)
          have HN : Hid ((L ++ [P]) ++ glue [] (cutW (S.drop (i + 1))) = cutW S) := Lib.hid (by
            rw [← HE1.out, List.drop_eq_getElem_cons hlt, hS, glue_blank, glue_nil, List.append_assoc]; rfl)
          obtain rfl : c = 32 := h32
          clear hS
          go_wp2_with (at_builtin; refine wpList_append_own _ rfl _ _ 27 rfl w.heap.size 9 i0 (.string ByteArray.empty) 1 16 Tryz.underlying27 hi hz0 hz1 hz2 rfl (by decide) _ _ _ rfl (HX.alloc _) ⟨wr.heap.size, 0, none⟩ 1 1 [.string ⟨P.toArray⟩] rfl rfl ?c1 ?c2 ?c3 ?c4 ?c5 ?_)
          case c1 => exact one_new wr _ _
          case c2 => intro u hu; simp at hu; subst hu; rfl
          case c3 => unfold maxLen; omega
          case c4 => omega
          case c5 => have := HB.out.size; simp; omega
          intro v' w1 hown' hgrow _
          have hr := Round.step HB.out HX hown' hgrow (hB := HB.out.size) (hxs := (show L.map strV ++ [strV P] = (L ++ [P]).map strV by rw [List.map_append]; rfl))
          clear hown' hgrow
          obtain ⟨hown1, hbel1⟩ := hr
          have HO1 : Hid (RowW w1 w.heap.size v' (L ++ [P])) := Lib.hid (by unfold RowW; rw [List.length_append]; exact hown1)
          have HB1 := Lib.hid hbel1
          clear hown1 hbel1 HX
          go_wp2
          go_roundw
          case rel => exact ⟨i + 1, i + 1, L ++ [P], by go_num, by go_num, Nat.le_refl _, by omega, by rw [List.length_append]; simp; omega, HO1, HB1, Lib.hid ⟨fun _ => by rw [Nat.sub_self, List.take_zero]; exact HN.out, fun h => absurd h (by omega)⟩⟩
          case measure => simp [intOf]; omega
        · have hS : S[i]'hlt ≠ 32 := fun e => h32 (by rw [e] at hcE; exact (Int.ofNat.inj hcE).symm)
          have HN : Hid (L ++ glue ((S.drop f).take (i + 1 - f)) (cutW (S.drop (i + 1))) = cutW S) := Lib.hid (by
            rw [← HE1.out, List.drop_eq_getElem_cons hlt, glue_other _ _ hS, HP.out, mid_snoc S hfi hlt])
          have e1 : ((c : Int) == 32) = false := by simp; omega
          clear hS HX
          go_wp2
          go_roundw
          case rel => exact ⟨f, i + 1, L, rfl, by go_num, by omega, by omega, by omega, HO, HB, Lib.hid ⟨fun _ => HN.out, fun h => absurd h (by omega)⟩⟩
          case measure => simp [intOf]; omega
      · obtain rfl : i = S.length := by omega
        have e0 : ((S.length : Int) == (S.length : Int)) = true := by simp
        have HN : Hid (L ++ [P] = cutW S) := Lib.hid (by
          rw [← HE1.out, List.drop_length]; simp [cutW, glue])
        go_wp2_with (at_builtin; refine wpList_append_own _ rfl _ _ 27 rfl w.heap.size 9 i0 (.string ByteArray.empty) 1 16 Tryz.underlying27 hi hz0 hz1 hz2 rfl (by decide) _ _ _ rfl (HX.alloc _) ⟨wr.heap.size, 0, none⟩ 1 1 [.string ⟨P.toArray⟩] rfl rfl ?d1 ?d2 ?d3 ?d4 ?d5 ?_)
        case d1 => exact one_new wr _ _
        case d2 => intro u hu; simp at hu; subst hu; rfl
        case d3 => unfold maxLen; omega
        case d4 => omega
        case d5 => have := HB.out.size; simp; omega
        intro v' w1 hown' hgrow _
        have hr := Round.step HB.out HX hown' hgrow (hB := HB.out.size) (hxs := (show L.map strV ++ [strV P] = (L ++ [P]).map strV by rw [List.map_append]; rfl))
        clear hown' hgrow
        obtain ⟨hown1, hbel1⟩ := hr
        have HO1 : Hid (RowW w1 w.heap.size v' (L ++ [P])) := Lib.hid (by unfold RowW; rw [List.length_append]; exact hown1)
        have HB1 := Lib.hid hbel1
        clear hown1 hbel1 HX
        go_wp2
        go_roundw
        case rel => exact ⟨S.length + 1, S.length + 1, L ++ [P], by go_num, by go_num, Nat.le_refl _, Nat.le_refl _, by rw [List.length_append]; simp; omega, HO1, HB1, Lib.hid ⟨fun h => absurd h (by omega), fun _ => HN.out⟩⟩
        case measure => simp [intOf]
    · obtain rfl : i = S.length + 1 := by omega
      have HE1 := Lib.hid (HE.out.2 rfl)
      clear HE
      have d0 : decide ((((S.length + 1 : Nat)) : Int) ≤ (S.length : Int)) = false := by simp; omega
      have d1 : decide ((S.length : Int) + 1 ≤ (S.length : Int)) = false := by simp; omega
      go_wp2
      go_ret
      exact ⟨_, rfl, by rw [← HE1.out]; exact HO.out, HB.out⟩
end codeW
end Go.Proofs.YtbbfpbmogklomaaGreatDoor

namespace Go.Proofs.YtbbfpbmogklomaaGreatDoor
open Go.RowKit Go.Bus Go.Bus.cellK Go.Bus.codeK
set_option linter.unusedVariables false
set_option linter.unusedSimpArgs false
namespace codeW
set_option maxRecDepth 100000 in
set_option maxHeartbeats 1000000 in
theorem rset_a (W : List UInt8) (hW : W.length ≤ 4194304) (op a b n imm : Int) (w : World) : Calls Tryz.prog 77 #[.agg #[.int .i64 op, .int .i64 a, .int .i64 b, .int .i64 n, .int .u64 imm], .int .u8 97, .string ⟨W.toArray⟩] w fun e w' => e = .returned (.agg (insC (setD .a W ⟨op, a, b, n, imm⟩)).toArray) ∧ Below w.heap.size w w' := by
  obtain ⟨V, hV⟩ : ∃ V : Nat, V = valG 10 (W.drop 1) 0 := ⟨_, rfl⟩
  have HE : Hid ((insC (setD .a W ⟨op, a, b, n, imm⟩)).toArray = #[.int .i64 op, .int .i64 (wrap64 (V : Nat)), .int .i64 b, .int .i64 n, .int .u64 imm]) := Lib.hid (by simp only [setD, Ins.put, insC]; rw [← hV]; rw [IntWalk.i64_left])
  have hV64 : V < 18446744073709551616 := by rw [hV]; exact valG_lt _ _ 0 (by decide)
  have HTL : Hid (∀ U, Calls Tryz.prog 112 #[.string ⟨W.toArray⟩, .int .i64 1] U fun e w' => e = .returned (.string ⟨(W.drop 1).toArray⟩) ∧ U = w') := Lib.hid (fun U => tail_any 1 W hW (by decide) U)
  have HVL : Hid (∀ U, Calls Tryz.prog 111 #[.string ⟨(W.drop 1).toArray⟩, .int .u64 10] U fun e w' => e = .returned (.int .u64 (V : Nat)) ∧ U = w') := Lib.hid (fun U => by rw [hV]; exact value_any 10 (by decide) _ (by rw [List.length_drop]; omega) U)
  rw [HE.out]
  clear hV HE
  obtain ⟨T, hT⟩ : ∃ T : ByteArray, T = ⟨(W.drop 1).toArray⟩ := ⟨_, rfl⟩
  rw [← hT] at HTL HVL
  clear hT
  go_enter Tryz.func77, Tryz.ntmps77
  go_wp2_with (first
    | (go_at_call 112; refine (HTL.out _).mono ?_; rintro e w1 ⟨rfl, rfl⟩)
    | (go_at_call 111; refine (HVL.out _).mono ?_; rintro e w1 ⟨rfl, rfl⟩))
  refine bodyPost_ret (results_block (g := w.heap.size + 1) (T := 25) rfl rfl (by exact Has.new1 w _ _ _) rfl Tryz.underlying25 rfl (by kernel_rfl)) rfl ?_
  exact ⟨rfl, (by repeat' (first | (with_reducible assumption) | (with_reducible refine Below.setCell ?_ ?_ _) | (with_reducible refine Below.alloc ?_ ?_ _) | (with_reducible refine Below.drew ?_) | (with_reducible refine below_drewN ?_ _) | (with_reducible exact Below.refl _ _) | (show _ ≤ _; (try simp); (try omega); done) | exact Below.refl _ _ | assumption))⟩
set_option maxRecDepth 100000 in
set_option maxHeartbeats 1000000 in
theorem rset_b (W : List UInt8) (hW : W.length ≤ 4194304) (op a b n imm : Int) (w : World) : Calls Tryz.prog 77 #[.agg #[.int .i64 op, .int .i64 a, .int .i64 b, .int .i64 n, .int .u64 imm], .int .u8 98, .string ⟨W.toArray⟩] w fun e w' => e = .returned (.agg (insC (setD .b W ⟨op, a, b, n, imm⟩)).toArray) ∧ Below w.heap.size w w' := by
  obtain ⟨V, hV⟩ : ∃ V : Nat, V = valG 10 (W.drop 1) 0 := ⟨_, rfl⟩
  have HE : Hid ((insC (setD .b W ⟨op, a, b, n, imm⟩)).toArray = #[.int .i64 op, .int .i64 a, .int .i64 (wrap64 (V : Nat)), .int .i64 n, .int .u64 imm]) := Lib.hid (by simp only [setD, Ins.put, insC]; rw [← hV]; rw [IntWalk.i64_left])
  have hV64 : V < 18446744073709551616 := by rw [hV]; exact valG_lt _ _ 0 (by decide)
  have HTL : Hid (∀ U, Calls Tryz.prog 112 #[.string ⟨W.toArray⟩, .int .i64 1] U fun e w' => e = .returned (.string ⟨(W.drop 1).toArray⟩) ∧ U = w') := Lib.hid (fun U => tail_any 1 W hW (by decide) U)
  have HVL : Hid (∀ U, Calls Tryz.prog 111 #[.string ⟨(W.drop 1).toArray⟩, .int .u64 10] U fun e w' => e = .returned (.int .u64 (V : Nat)) ∧ U = w') := Lib.hid (fun U => by rw [hV]; exact value_any 10 (by decide) _ (by rw [List.length_drop]; omega) U)
  rw [HE.out]
  clear hV HE
  obtain ⟨T, hT⟩ : ∃ T : ByteArray, T = ⟨(W.drop 1).toArray⟩ := ⟨_, rfl⟩
  rw [← hT] at HTL HVL
  clear hT
  go_enter Tryz.func77, Tryz.ntmps77
  go_wp2_with (first
    | (go_at_call 112; refine (HTL.out _).mono ?_; rintro e w1 ⟨rfl, rfl⟩)
    | (go_at_call 111; refine (HVL.out _).mono ?_; rintro e w1 ⟨rfl, rfl⟩))
  refine bodyPost_ret (results_block (g := w.heap.size + 1) (T := 25) rfl rfl (by exact Has.new1 w _ _ _) rfl Tryz.underlying25 rfl (by kernel_rfl)) rfl ?_
  exact ⟨rfl, (by repeat' (first | (with_reducible assumption) | (with_reducible refine Below.setCell ?_ ?_ _) | (with_reducible refine Below.alloc ?_ ?_ _) | (with_reducible refine Below.drew ?_) | (with_reducible refine below_drewN ?_ _) | (with_reducible exact Below.refl _ _) | (show _ ≤ _; (try simp); (try omega); done) | exact Below.refl _ _ | assumption))⟩
set_option maxRecDepth 100000 in
set_option maxHeartbeats 1000000 in
theorem rset_k (W : List UInt8) (hW : W.length ≤ 4194304) (op a b n imm : Int) (w : World) : Calls Tryz.prog 77 #[.agg #[.int .i64 op, .int .i64 a, .int .i64 b, .int .i64 n, .int .u64 imm], .int .u8 107, .string ⟨W.toArray⟩] w fun e w' => e = .returned (.agg (insC (setD .k W ⟨op, a, b, n, imm⟩)).toArray) ∧ Below w.heap.size w w' := by
  obtain ⟨V, hV⟩ : ∃ V : Nat, V = valG 10 W 0 := ⟨_, rfl⟩
  have HE : Hid ((insC (setD .k W ⟨op, a, b, n, imm⟩)).toArray = #[.int .i64 op, .int .i64 a, .int .i64 (wrap64 (V : Nat)), .int .i64 n, .int .u64 imm]) := Lib.hid (by simp only [setD, Ins.put, insC]; rw [← hV]; rw [IntWalk.i64_left])
  have hV64 : V < 18446744073709551616 := by rw [hV]; exact valG_lt _ _ 0 (by decide)
  have HVL : Hid (∀ U, Calls Tryz.prog 111 #[.string ⟨W.toArray⟩, .int .u64 10] U fun e w' => e = .returned (.int .u64 (V : Nat)) ∧ U = w') := Lib.hid (fun U => by rw [hV]; exact value_any 10 (by decide) _ (hW) U)
  rw [HE.out]
  clear hV HE
  go_enter Tryz.func77, Tryz.ntmps77
  go_wp2_with (first
    | (go_at_call 111; refine (HVL.out _).mono ?_; rintro e w1 ⟨rfl, rfl⟩))
  refine bodyPost_ret (results_block (g := w.heap.size + 1) (T := 25) rfl rfl (by exact Has.new1 w _ _ _) rfl Tryz.underlying25 rfl (by kernel_rfl)) rfl ?_
  exact ⟨rfl, (by repeat' (first | (with_reducible assumption) | (with_reducible refine Below.setCell ?_ ?_ _) | (with_reducible refine Below.alloc ?_ ?_ _) | (with_reducible refine Below.drew ?_) | (with_reducible refine below_drewN ?_ _) | (with_reducible exact Below.refl _ _) | (show _ ≤ _; (try simp); (try omega); done) | exact Below.refl _ _ | assumption))⟩
set_option maxRecDepth 100000 in
set_option maxHeartbeats 1000000 in
theorem rset_s (W : List UInt8) (hW : W.length ≤ 4194304) (op a b n imm : Int) (w : World) : Calls Tryz.prog 77 #[.agg #[.int .i64 op, .int .i64 a, .int .i64 b, .int .i64 n, .int .u64 imm], .int .u8 115, .string ⟨W.toArray⟩] w fun e w' => e = .returned (.agg (insC (setD .s W ⟨op, a, b, n, imm⟩)).toArray) ∧ Below w.heap.size w w' := by
  obtain ⟨V, hV⟩ : ∃ V : Nat, V = valG 10 W 0 := ⟨_, rfl⟩
  have HE : Hid ((insC (setD .s W ⟨op, a, b, n, imm⟩)).toArray = #[.int .i64 op, .int .i64 a, .int .i64 (wrap64 (V : Nat)), .int .i64 n, .int .u64 imm]) := Lib.hid (by simp only [setD, Ins.put, insC]; rw [← hV]; rw [IntWalk.i64_left])
  have hV64 : V < 18446744073709551616 := by rw [hV]; exact valG_lt _ _ 0 (by decide)
  have HVL : Hid (∀ U, Calls Tryz.prog 111 #[.string ⟨W.toArray⟩, .int .u64 10] U fun e w' => e = .returned (.int .u64 (V : Nat)) ∧ U = w') := Lib.hid (fun U => by rw [hV]; exact value_any 10 (by decide) _ (hW) U)
  rw [HE.out]
  clear hV HE
  go_enter Tryz.func77, Tryz.ntmps77
  go_wp2_with (first
    | (go_at_call 111; refine (HVL.out _).mono ?_; rintro e w1 ⟨rfl, rfl⟩))
  refine bodyPost_ret (results_block (g := w.heap.size + 1) (T := 25) rfl rfl (by exact Has.new1 w _ _ _) rfl Tryz.underlying25 rfl (by kernel_rfl)) rfl ?_
  exact ⟨rfl, (by repeat' (first | (with_reducible assumption) | (with_reducible refine Below.setCell ?_ ?_ _) | (with_reducible refine Below.alloc ?_ ?_ _) | (with_reducible refine Below.drew ?_) | (with_reducible refine below_drewN ?_ _) | (with_reducible exact Below.refl _ _) | (show _ ≤ _; (try simp); (try omega); done) | exact Below.refl _ _ | assumption))⟩
set_option maxRecDepth 100000 in
set_option maxHeartbeats 1000000 in
theorem rset_i (W : List UInt8) (hW : W.length ≤ 4194304) (op a b n imm : Int) (w : World) : Calls Tryz.prog 77 #[.agg #[.int .i64 op, .int .i64 a, .int .i64 b, .int .i64 n, .int .u64 imm], .int .u8 105, .string ⟨W.toArray⟩] w fun e w' => e = .returned (.agg (insC (setD .i W ⟨op, a, b, n, imm⟩)).toArray) ∧ Below w.heap.size w w' := by
  obtain ⟨V, hV⟩ : ∃ V : Nat, V = valG 16 (W.drop 2) 0 := ⟨_, rfl⟩
  have HE : Hid ((insC (setD .i W ⟨op, a, b, n, imm⟩)).toArray = #[.int .i64 op, .int .i64 a, .int .i64 b, .int .i64 n, .int .u64 ((V : Nat))]) := Lib.hid (by simp only [setD, Ins.put, insC]; rw [← hV])
  have hV64 : V < 18446744073709551616 := by rw [hV]; exact valG_lt _ _ 0 (by decide)
  have HTL : Hid (∀ U, Calls Tryz.prog 112 #[.string ⟨W.toArray⟩, .int .i64 2] U fun e w' => e = .returned (.string ⟨(W.drop 2).toArray⟩) ∧ U = w') := Lib.hid (fun U => tail_any 2 W hW (by decide) U)
  have HVL : Hid (∀ U, Calls Tryz.prog 111 #[.string ⟨(W.drop 2).toArray⟩, .int .u64 16] U fun e w' => e = .returned (.int .u64 (V : Nat)) ∧ U = w') := Lib.hid (fun U => by rw [hV]; exact value_any 16 (by decide) _ (by rw [List.length_drop]; omega) U)
  rw [HE.out]
  clear hV HE
  obtain ⟨T, hT⟩ : ∃ T : ByteArray, T = ⟨(W.drop 2).toArray⟩ := ⟨_, rfl⟩
  rw [← hT] at HTL HVL
  clear hT
  go_enter Tryz.func77, Tryz.ntmps77
  go_wp2_with (first
    | (go_at_call 112; refine (HTL.out _).mono ?_; rintro e w1 ⟨rfl, rfl⟩)
    | (go_at_call 111; refine (HVL.out _).mono ?_; rintro e w1 ⟨rfl, rfl⟩))
  refine bodyPost_ret (results_block (g := w.heap.size + 1) (T := 25) rfl rfl (by exact Has.new1 w _ _ _) rfl Tryz.underlying25 rfl (by kernel_rfl)) rfl ?_
  exact ⟨rfl, (by repeat' (first | (with_reducible assumption) | (with_reducible refine Below.setCell ?_ ?_ _) | (with_reducible refine Below.alloc ?_ ?_ _) | (with_reducible refine Below.drew ?_) | (with_reducible refine below_drewN ?_ _) | (with_reducible exact Below.refl _ _) | (show _ ≤ _; (try simp); (try omega); done) | exact Below.refl _ _ | assumption))⟩
set_option maxRecDepth 100000 in
set_option maxHeartbeats 1000000 in
theorem rset_n (W : List UInt8) (hW : W.length ≤ 4194304) (op a b n imm : Int) (w : World) : Calls Tryz.prog 77 #[.agg #[.int .i64 op, .int .i64 a, .int .i64 b, .int .i64 n, .int .u64 imm], .int .u8 110, .string ⟨W.toArray⟩] w fun e w' => e = .returned (.agg (insC (setD .n W ⟨op, a, b, n, imm⟩)).toArray) ∧ Below w.heap.size w w' := by
  obtain ⟨V, hV⟩ : ∃ V : Nat, V = valG 10 W 0 := ⟨_, rfl⟩
  have HE : Hid ((insC (setD .n W ⟨op, a, b, n, imm⟩)).toArray = #[.int .i64 op, .int .i64 a, .int .i64 b, .int .i64 (wrap64 (V : Nat)), .int .u64 imm]) := Lib.hid (by simp only [setD, Ins.put, insC]; rw [← hV]; rw [IntWalk.i64_left])
  have hV64 : V < 18446744073709551616 := by rw [hV]; exact valG_lt _ _ 0 (by decide)
  have HVL : Hid (∀ U, Calls Tryz.prog 111 #[.string ⟨W.toArray⟩, .int .u64 10] U fun e w' => e = .returned (.int .u64 (V : Nat)) ∧ U = w') := Lib.hid (fun U => by rw [hV]; exact value_any 10 (by decide) _ (hW) U)
  rw [HE.out]
  clear hV HE
  go_enter Tryz.func77, Tryz.ntmps77
  go_wp2_with (first
    | (go_at_call 111; refine (HVL.out _).mono ?_; rintro e w1 ⟨rfl, rfl⟩))
  refine bodyPost_ret (results_block (g := w.heap.size + 1) (T := 25) rfl rfl (by exact Has.new1 w _ _ _) rfl Tryz.underlying25 rfl (by kernel_rfl)) rfl ?_
  exact ⟨rfl, (by repeat' (first | (with_reducible assumption) | (with_reducible refine Below.setCell ?_ ?_ _) | (with_reducible refine Below.alloc ?_ ?_ _) | (with_reducible refine Below.drew ?_) | (with_reducible refine below_drewN ?_ _) | (with_reducible exact Below.refl _ _) | (show _ ≤ _; (try simp); (try omega); done) | exact Below.refl _ _ | assumption))⟩
set_option maxRecDepth 100000 in
set_option maxHeartbeats 1000000 in
theorem rset_h (W : List UInt8) (hW : W.length ≤ 4194304) (op a b n imm : Int) (w : World) : Calls Tryz.prog 77 #[.agg #[.int .i64 op, .int .i64 a, .int .i64 b, .int .i64 n, .int .u64 imm], .int .u8 104, .string ⟨W.toArray⟩] w fun e w' => e = .returned (.agg (insC (setD .h W ⟨op, a, b, n, imm⟩)).toArray) ∧ Below w.heap.size w w' := by
  obtain ⟨V, hV⟩ : ∃ V : Nat, V = valG 10 W 0 := ⟨_, rfl⟩
  have HE : Hid ((insC (setD .h W ⟨op, a, b, n, imm⟩)).toArray = #[.int .i64 op, .int .i64 a, .int .i64 b, .int .i64 (wrap64 (V : Nat)), .int .u64 imm]) := Lib.hid (by simp only [setD, Ins.put, insC]; rw [← hV]; rw [IntWalk.i64_left])
  have hV64 : V < 18446744073709551616 := by rw [hV]; exact valG_lt _ _ 0 (by decide)
  have HVL : Hid (∀ U, Calls Tryz.prog 111 #[.string ⟨W.toArray⟩, .int .u64 10] U fun e w' => e = .returned (.int .u64 (V : Nat)) ∧ U = w') := Lib.hid (fun U => by rw [hV]; exact value_any 10 (by decide) _ (hW) U)
  rw [HE.out]
  clear hV HE
  go_enter Tryz.func77, Tryz.ntmps77
  go_wp2_with (first
    | (go_at_call 111; refine (HVL.out _).mono ?_; rintro e w1 ⟨rfl, rfl⟩))
  refine bodyPost_ret (results_block (g := w.heap.size + 1) (T := 25) rfl rfl (by exact Has.new1 w _ _ _) rfl Tryz.underlying25 rfl (by kernel_rfl)) rfl ?_
  exact ⟨rfl, (by repeat' (first | (with_reducible assumption) | (with_reducible refine Below.setCell ?_ ?_ _) | (with_reducible refine Below.alloc ?_ ?_ _) | (with_reducible refine Below.drew ?_) | (with_reducible refine below_drewN ?_ _) | (with_reducible exact Below.refl _ _) | (show _ ≤ _; (try simp); (try omega); done) | exact Below.refl _ _ | assumption))⟩
set_option maxRecDepth 100000 in
set_option maxHeartbeats 1000000 in
theorem rset_w (W : List UInt8) (hW : W.length ≤ 4194304) (op a b n imm : Int) (w : World) : Calls Tryz.prog 77 #[.agg #[.int .i64 op, .int .i64 a, .int .i64 b, .int .i64 n, .int .u64 imm], .int .u8 119, .string ⟨W.toArray⟩] w fun e w' => e = .returned (.agg (insC (setD .w W ⟨op, a, b, n, imm⟩)).toArray) ∧ Below w.heap.size w w' := by
  obtain ⟨V, hV⟩ : ∃ V : Nat, V = valG 10 W 0 := ⟨_, rfl⟩
  have HE : Hid ((insC (setD .w W ⟨op, a, b, n, imm⟩)).toArray = #[.int .i64 op, .int .i64 a, .int .i64 b, .int .i64 (wrap64 (V : Nat)), .int .u64 imm]) := Lib.hid (by simp only [setD, Ins.put, insC]; rw [← hV]; rw [IntWalk.i64_left])
  have hV64 : V < 18446744073709551616 := by rw [hV]; exact valG_lt _ _ 0 (by decide)
  have HVL : Hid (∀ U, Calls Tryz.prog 111 #[.string ⟨W.toArray⟩, .int .u64 10] U fun e w' => e = .returned (.int .u64 (V : Nat)) ∧ U = w') := Lib.hid (fun U => by rw [hV]; exact value_any 10 (by decide) _ (hW) U)
  rw [HE.out]
  clear hV HE
  go_enter Tryz.func77, Tryz.ntmps77
  go_wp2_with (first
    | (go_at_call 111; refine (HVL.out _).mono ?_; rintro e w1 ⟨rfl, rfl⟩))
  refine bodyPost_ret (results_block (g := w.heap.size + 1) (T := 25) rfl rfl (by exact Has.new1 w _ _ _) rfl Tryz.underlying25 rfl (by kernel_rfl)) rfl ?_
  exact ⟨rfl, (by repeat' (first | (with_reducible assumption) | (with_reducible refine Below.setCell ?_ ?_ _) | (with_reducible refine Below.alloc ?_ ?_ _) | (with_reducible refine Below.drew ?_) | (with_reducible refine below_drewN ?_ _) | (with_reducible exact Below.refl _ _) | (show _ ≤ _; (try simp); (try omega); done) | exact Below.refl _ _ | assumption))⟩
set_option maxRecDepth 100000 in
set_option maxHeartbeats 1000000 in
theorem rset_j (W : List UInt8) (hW : W.length ≤ 4194304) (op a b n imm : Int) (w : World) : Calls Tryz.prog 77 #[.agg #[.int .i64 op, .int .i64 a, .int .i64 b, .int .i64 n, .int .u64 imm], .int .u8 106, .string ⟨W.toArray⟩] w fun e w' => e = .returned (.agg (insC (setD .j W ⟨op, a, b, n, imm⟩)).toArray) ∧ Below w.heap.size w w' := by
  obtain ⟨V, hV⟩ : ∃ V : Nat, V = valG 10 W 0 := ⟨_, rfl⟩
  have HE : Hid ((insC (setD .j W ⟨op, a, b, n, imm⟩)).toArray = #[.int .i64 op, .int .i64 a, .int .i64 b, .int .i64 (wrap64 (V : Nat)), .int .u64 imm]) := Lib.hid (by simp only [setD, Ins.put, insC]; rw [← hV]; rw [IntWalk.i64_left])
  have hV64 : V < 18446744073709551616 := by rw [hV]; exact valG_lt _ _ 0 (by decide)
  have HVL : Hid (∀ U, Calls Tryz.prog 111 #[.string ⟨W.toArray⟩, .int .u64 10] U fun e w' => e = .returned (.int .u64 (V : Nat)) ∧ U = w') := Lib.hid (fun U => by rw [hV]; exact value_any 10 (by decide) _ (hW) U)
  rw [HE.out]
  clear hV HE
  go_enter Tryz.func77, Tryz.ntmps77
  go_wp2_with (first
    | (go_at_call 111; refine (HVL.out _).mono ?_; rintro e w1 ⟨rfl, rfl⟩))
  refine bodyPost_ret (results_block (g := w.heap.size + 1) (T := 25) rfl rfl (by exact Has.new1 w _ _ _) rfl Tryz.underlying25 rfl (by kernel_rfl)) rfl ?_
  exact ⟨rfl, (by repeat' (first | (with_reducible assumption) | (with_reducible refine Below.setCell ?_ ?_ _) | (with_reducible refine Below.alloc ?_ ?_ _) | (with_reducible refine Below.drew ?_) | (with_reducible refine below_drewN ?_ _) | (with_reducible exact Below.refl _ _) | (show _ ≤ _; (try simp); (try omega); done) | exact Below.refl _ _ | assumption))⟩
set_option maxRecDepth 100000 in
set_option maxHeartbeats 1000000 in
theorem rset_g (W : List UInt8) (hW : W.length ≤ 4194304) (op a b n imm : Int) (w : World) : Calls Tryz.prog 77 #[.agg #[.int .i64 op, .int .i64 a, .int .i64 b, .int .i64 n, .int .u64 imm], .int .u8 103, .string ⟨W.toArray⟩] w fun e w' => e = .returned (.agg (insC (setD .g W ⟨op, a, b, n, imm⟩)).toArray) ∧ Below w.heap.size w w' := by
  by_cases hs : W = signedT
  · have HE : Hid ((insC (setD .g W ⟨op, a, b, n, imm⟩)).toArray = #[.int .i64 op, .int .i64 a, .int .i64 b, .int .i64 n, .int .u64 1]) := Lib.hid (by simp only [setD]; rw [if_pos hs]; rfl)
    rw [HE.out]
    subst hs
    unfold signedT
    clear HE hW
    go_enter Tryz.func77, Tryz.ntmps77
    go_wp2
    refine bodyPost_ret (results_block (g := w.heap.size + 1) (T := 25) rfl rfl (by exact Has.new1 w _ _ _) rfl Tryz.underlying25 rfl (by kernel_rfl)) rfl ?_
    exact ⟨rfl, (by repeat' (first | (with_reducible assumption) | (with_reducible refine Below.setCell ?_ ?_ _) | (with_reducible refine Below.alloc ?_ ?_ _) | (with_reducible refine Below.drew ?_) | (with_reducible refine below_drewN ?_ _) | (with_reducible exact Below.refl _ _) | (show _ ≤ _; (try simp); (try omega); done) | exact Below.refl _ _ | assumption))⟩
  · have HE : Hid ((insC (setD .g W ⟨op, a, b, n, imm⟩)).toArray = #[.int .i64 op, .int .i64 a, .int .i64 b, .int .i64 n, .int .u64 imm]) := Lib.hid (by simp only [setD]; rw [if_neg hs]; rfl)
    rw [HE.out]
    have h1 : ((⟨W.toArray⟩ : ByteArray).toList == [115, 105, 103, 110, 101, 100]) = false := by
      rw [ByteArray.toList_mk]
      simpa [signedT] using hs
    have h2 : (W == [115, 105, 103, 110, 101, 100]) = false := by simpa [signedT] using hs
    clear HE hs
    go_enter Tryz.func77, Tryz.ntmps77
    go_wp2
    refine bodyPost_ret (results_block (g := w.heap.size + 1) (T := 25) rfl rfl (by exact Has.new1 w _ _ _) rfl Tryz.underlying25 rfl (by kernel_rfl)) rfl ?_
    exact ⟨rfl, (by repeat' (first | (with_reducible assumption) | (with_reducible refine Below.setCell ?_ ?_ _) | (with_reducible refine Below.alloc ?_ ?_ _) | (with_reducible refine Below.drew ?_) | (with_reducible refine below_drewN ?_ _) | (with_reducible exact Below.refl _ _) | (show _ ≤ _; (try simp); (try omega); done) | exact Below.refl _ _ | assumption))⟩
theorem rset_any (l : Le) (W : List UInt8) (hW : W.length ≤ 4194304) (y : Ins) (w : World) : Calls Tryz.prog 77 #[.agg #[.int .i64 y.op, .int .i64 y.a, .int .i64 y.b, .int .i64 y.n, .int .u64 y.imm], .int .u8 (l.c.toNat : Nat), .string ⟨W.toArray⟩] w fun e w' => e = .returned (.agg (insC (setD l W y)).toArray) ∧ Below w.heap.size w w' := by
  obtain ⟨op, a, b, n, imm⟩ := y
  cases l with
  | a => exact rset_a W hW op a b n imm w
  | b => exact rset_b W hW op a b n imm w
  | k => exact rset_k W hW op a b n imm w
  | s => exact rset_s W hW op a b n imm w
  | i => exact rset_i W hW op a b n imm w
  | n => exact rset_n W hW op a b n imm w
  | h => exact rset_h W hW op a b n imm w
  | w => exact rset_w W hW op a b n imm w
  | j => exact rset_j W hW op a b n imm w
  | g => exact rset_g W hW op a b n imm w
end codeW
end Go.Proofs.YtbbfpbmogklomaaGreatDoor

namespace Go.Bus.codeK
set_option linter.unusedVariables false
/-- The last operation of the first n whose name it is; -1: none. -/
def opA (a : List UInt8) : Nat → Int
  | 0 => -1
  | i + 1 => if nameN i = a then (i : Nat) else opA a i
theorem opA_no {a : List UInt8} : ∀ n, (∀ k, k < n → a ≠ nameN k) → opA a n = -1
  | 0, _ => rfl
  | n + 1, h => by
    rw [opA, if_neg (fun e => h n (Nat.lt_succ_self n) e.symm)]
    exact opA_no n fun k hk => h k (Nat.lt_succ_of_lt hk)
theorem opA_name {k : Nat} (hk : k < 20) : ∀ n, n ≤ 20 → opA (nameN k) n = if k < n then (k : Int) else -1
  | 0, _ => by rw [if_neg (Nat.not_lt_zero k)]; rfl
  | n + 1, h => by
    rw [opA, opA_name hk n (by omega)]
    by_cases e : nameN n = nameN k
    · obtain rfl := name_inj (by omega) hk e
      rw [if_pos rfl, if_pos (Nat.lt_succ_self n)]
    · rw [if_neg e]
      have hne : n ≠ k := fun h => e (by rw [h])
      by_cases h1 : k < n
      · rw [if_pos h1, if_pos (by omega)]
      · rw [if_neg h1, if_neg (by omega)]
end Go.Bus.codeK
namespace Go.Proofs.YtbbfpbmogklomaaGreatDoor
open Go.RowKit Go.Bus Go.Bus.cellK Go.Bus.codeK
set_option linter.unusedVariables false
set_option linter.unusedSimpArgs false
namespace codeW
def RPar (S a : List UInt8) (l : List (List UInt8)) (w : World) (e : Ending) (w' : World) : Prop := Below w.heap.size w w' ∧
  (((∀ k, k < 20 → a ≠ nameN k) ∧ e = .returned (.tuple #[.agg #[.int .i64 0, .int .i64 0, .int .i64 0, .int .i64 0, .int .u64 0], .int .i64 20])) ∨
   ∃ (k : Nat) (ls : List Le), k < 20 ∧ a = nameN k ∧ lettersOf (k : Int) = some ls ∧
    ((rightB (setsD ls l (zero k)) = true ∧ lineI (setsD ls l (zero k)) = S ∧ e = .returned (.tuple #[.agg (insC (setsD ls l (zero k))).toArray, .int .i64 0])) ∨
     (¬ (rightB (setsD ls l (zero k)) = true ∧ lineI (setsD ls l (zero k)) = S) ∧ e = .returned (.tuple #[.agg #[.int .i64 0, .int .i64 0, .int .i64 0, .int .i64 0, .int .u64 0], .int .i64 4]))))
theorem words_gen {S a : List UInt8} {l : List (List UInt8)} (hc : cutW S = a :: l) (hl : S.length ≤ 2097152) (W : World) : Calls Tryz.prog 76 #[.string ⟨S.toArray⟩] W fun e w' => ∃ g cap : Nat, e = .returned (.slice (some ⟨g, 0, none⟩) (l.length + 1) cap) ∧ l.length + 1 ≤ cap ∧ g < w'.heap.size ∧ w'.cell? ⟨g, 0, none⟩ = some (.string ⟨a.toArray⟩) ∧ (∀ j (h : j < l.length), w'.cell? ⟨g, j + 1, none⟩ = some (.string ⟨l[j].toArray⟩)) ∧ Below W.heap.size W w' := by
  refine (words_any S (by omega) W).mono ?_
  rintro e w' ⟨v, rfl, hown, hb⟩
  unfold RowW at hown
  rw [hc] at hown
  obtain ⟨g, cap, rfl, hcap, _⟩ := own_form hown (by simp)
  have hs := Sl.of_own hown
  have key : ∀ k (h : k < (a :: l).length), g < w'.heap.size ∧ w'.cell? ⟨g, k, none⟩ = some (strV (a :: l)[k]) := by
    intro k h
    obtain ⟨b, off, he, hb', hc'⟩ := hs.at_ h
    obtain ⟨rfl, rfl⟩ : g = b ∧ 0 = off := by injection he with he; injection he with h1 h2; exact ⟨h1, h2⟩
    rw [Nat.zero_add] at hc'
    exact ⟨hb', hc'⟩
  exact ⟨g, cap, rfl, hcap, (key 0 (by simp)).1, (key 0 (by simp)).2, fun j h => (key (j + 1) (by simp; omega)).2, hb⟩
set_option maxRecDepth 100000 in
set_option maxHeartbeats 4000000 in
theorem rparse_any {S a : List UInt8} {l : List (List UInt8)} (hsp : Lib.splitK [32] 0 (Lib.count S [32]) S = a :: l) (hl : S.length ≤ 2097152) (w : World) : Calls Tryz.prog 43 #[.string ⟨S.toArray⟩] w (RPar S a l w) := by
  have hc : cutW S = a :: l := by rw [← cutW_split _ _ (Nat.le_refl _)]; exact hsp
  obtain ⟨a', l', hsp', _, _, hll, hlen⟩ := split_any _ S (Nat.le_refl _)
  rw [hsp] at hsp'
  obtain ⟨rfl, rfl⟩ := List.cons.inj hsp'
  have HLL : Hid (∀ x ∈ l, x.length ≤ 2097152) := Lib.hid (fun x hx => Nat.le_trans (hll x hx) hl)
  have HWD := Lib.hid (fun (W : World) => words_gen hc hl W)
  have hlen2 : l.length ≤ 2097152 := Nat.le_trans hlen hl
  obtain ⟨SB, hSB⟩ : ∃ SB : ByteArray, SB = ⟨S.toArray⟩ := ⟨_, rfl⟩
  have HSB := Lib.hid hSB
  rw [← hSB] at HWD ⊢
  obtain ⟨T0, hT0⟩ : ∃ T0 : ByteArray, T0 = ⟨a.toArray⟩ := ⟨_, rfl⟩
  have HT0 := Lib.hid hT0
  rw [← hT0] at HWD
  clear hl hSB hsp hsp' hll hlen hc hT0
  go_enter Tryz.func43, Tryz.ntmps43
  go_wp2_with (go_at_call 76; refine (HWD.out _).mono ?_; rintro e w1 ⟨g, cap, rfl, hcap, hg, hc0, hcj, hb⟩; have hr1 : Has w1 w.heap.size 25 #[.int .i64 0, .int .i64 0, .int .i64 0, .int .i64 0, .int .u64 0] := (Has.new w _ _).below hb (by simp); have HR1 := Lib.hid hr1; have HC0 := Lib.hid hc0; have HCJ := Lib.hid hcj; have HB1 : Hid (Below w.heap.size w w1) := Lib.hid (((Below.refl _ _).alloc (Nat.le_refl _) _).trans (hb.mono (by simp))); clear hb hr1 hc0 hcj)
  have hzw : w.heap.size < w1.heap.size := HR1.out.lt
  have hd0 : decide ((0 : Nat) < l.length + 1) = true := by simp
  go_loopw [5, 6] (fun opv iv wr => ∃ i : Nat, i ≤ 20 ∧ iv = .int .i64 (i : Nat) ∧ opv = .int .i64 (opA a i) ∧ Hid (Below w1.heap.size w1 wr)) (fun _ iv _ => 20 - (intOf iv).toNat)
  case atStart => exact ⟨0, Nat.zero_le _, rfl, rfl, Lib.hid (Below.refl _ _)⟩
  case round =>
    obtain ⟨i, hi, rfl, rfl, HBr⟩ := hrel
    have hz1 : w1.heap.size ≤ wr.heap.size := HBr.out.size
    have hgr : g < wr.heap.size := by omega
    have zwr : w.heap.size < wr.heap.size := by omega
    by_cases hi20n : i < 20
    · have hi20 : (i : Int) < 20 := by omega
      have j0 : wr.cell? ⟨g, 0, none⟩ = some (.string T0) := (HBr.out.cell (p := ⟨g, 0, none⟩) hg).trans HC0.out
      obtain ⟨N, hN⟩ : ∃ N : ByteArray, N = ⟨(nameN i).toArray⟩ := ⟨_, rfl⟩
      have HNM : Hid (∀ W, Calls Tryz.prog 64 #[.int .i64 (i : Nat)] W fun e w' => e = .returned (.string N) ∧ Below W.heap.size W w') := Lib.hid (fun W => by rw [hN]; exact rname_any i hi20n W)
      by_cases hna : nameN i = a
      · have hee : (N.toList == T0.toList) = true := by rw [hN, HT0.out, hna]; simp
        have HOP : Hid (opA a (i + 1) = (i : Nat)) := Lib.hid (by rw [opA, if_pos hna])
        clear hN hna
        go_wp2_with fail
        go_region_law (go_simp; go_at_call 64; refine (HNM.out _).mono ?_; rintro e w6 ⟨rfl, hb6⟩; have hB6 : Below wr.heap.size wr w6 := Below.trans (by repeat' (first | (with_reducible assumption) | (with_reducible refine Below.setCell ?_ ?_ _) | (with_reducible refine Below.alloc ?_ ?_ _) | (with_reducible refine Below.drew ?_) | (with_reducible refine below_drewN ?_ _) | (with_reducible exact Below.refl _ _) | (show _ ≤ _; (try simp); (try omega); done) | exact Below.refl _ _ | assumption)) (hb6.mono (by (try simp); (try omega))); have c6 : w6.cell? ⟨g, 0, none⟩ = some (.string T0) := (hB6.cell (p := ⟨g, 0, none⟩) hgr).trans j0; have HB6 := Lib.hid (HBr.out.trans (hB6.mono hz1)); clear hb6 hB6)
        all_goals
          go_wp2
          go_roundw
        all_goals first
          | exact ⟨i + 1, by omega, by go_num, by rw [HOP.out], HB6⟩
          | (simp [intOf]; omega)
      · have hee : (N.toList == T0.toList) = false := by
          rw [beq_eq_false_iff_ne]; intro e
          rw [hN, HT0.out, ByteArray.toList_mk, ByteArray.toList_mk] at e
          exact hna e
        have HOP : Hid (opA a (i + 1) = opA a i) := Lib.hid (by rw [opA, if_neg hna])
        clear hN hna
        go_wp2_with fail
        go_region_law (go_simp; go_at_call 64; refine (HNM.out _).mono ?_; rintro e w6 ⟨rfl, hb6⟩; have hB6 : Below wr.heap.size wr w6 := Below.trans (by repeat' (first | (with_reducible assumption) | (with_reducible refine Below.setCell ?_ ?_ _) | (with_reducible refine Below.alloc ?_ ?_ _) | (with_reducible refine Below.drew ?_) | (with_reducible refine below_drewN ?_ _) | (with_reducible exact Below.refl _ _) | (show _ ≤ _; (try simp); (try omega); done) | exact Below.refl _ _ | assumption)) (hb6.mono (by (try simp); (try omega))); have c6 : w6.cell? ⟨g, 0, none⟩ = some (.string T0) := (hB6.cell (p := ⟨g, 0, none⟩) hgr).trans j0; have HB6 := Lib.hid (HBr.out.trans (hB6.mono hz1)); clear hb6 hB6)
        all_goals
          go_wp2
          go_roundw
        all_goals first
          | exact ⟨i + 1, by omega, by go_num, by rw [HOP.out], HB6⟩
          | (simp [intOf]; omega)
    · obtain rfl : i = 20 := by omega
      have HRr : Hid (Has wr w.heap.size 25 #[.int .i64 0, .int .i64 0, .int .i64 0, .int .i64 0, .int .u64 0]) := Lib.hid (HR1.out.below HBr.out hzw)
      have HBw : Hid (Below w.heap.size w wr) := Lib.hid (HB1.out.trans (HBr.out.mono (by omega)))
      by_cases hno : ∀ k, k < 20 → a ≠ nameN k
      · have HNO := Lib.hid hno
        rw [opA_no 20 hno]
        clear hno
        have r0 : wr.cell? ⟨w.heap.size, 0, none⟩ = some (.int .i64 0) := HRr.out.cell 0
        have f0 : wr.frozen? ⟨w.heap.size, 0, none⟩ = false := HRr.out.frozen 0
        have r1 : wr.cell? ⟨w.heap.size, 1, none⟩ = some (.int .i64 0) := HRr.out.cell 1
        have f1 : wr.frozen? ⟨w.heap.size, 1, none⟩ = false := HRr.out.frozen 1
        have r2 : wr.cell? ⟨w.heap.size, 2, none⟩ = some (.int .i64 0) := HRr.out.cell 2
        have f2 : wr.frozen? ⟨w.heap.size, 2, none⟩ = false := HRr.out.frozen 2
        have r3 : wr.cell? ⟨w.heap.size, 3, none⟩ = some (.int .i64 0) := HRr.out.cell 3
        have f3 : wr.frozen? ⟨w.heap.size, 3, none⟩ = false := HRr.out.frozen 3
        have r4 : wr.cell? ⟨w.heap.size, 4, none⟩ = some (.int .u64 0) := HRr.out.cell 4
        have f4 : wr.frozen? ⟨w.heap.size, 4, none⟩ = false := HRr.out.frozen 4
        go_wp2
        refine bodyPost_ret (results_block2 (g := w.heap.size) (T := 25) rfl rfl (by exact ((((HRr.out.set 0 _).set 1 _).set 2 _).set 3 _).set 4 _) rfl Tryz.underlying25 rfl (by kernel_rfl)) rfl ?_
        exact ⟨by have hB := HBw.out; exact (by repeat' (first | (with_reducible assumption) | (with_reducible refine Below.setCell ?_ ?_ _) | (with_reducible refine Below.alloc ?_ ?_ _) | (with_reducible refine Below.drew ?_) | (with_reducible refine below_drewN ?_ _) | (with_reducible exact Below.refl _ _) | (show _ ≤ _; (try simp); (try omega); done) | exact Below.refl _ _ | assumption)), .inl ⟨HNO.out, rfl⟩⟩
      · obtain ⟨k, hk, hak⟩ : ∃ k, k < 20 ∧ a = nameN k := by
          refine Classical.byContradiction fun h => hno fun k hk e => h ⟨k, hk, e⟩
        have hop : opA a 20 = (k : Int) := by rw [hak, opA_name hk 20 (Nat.le_refl _), if_pos hk]
        rw [hop]
        have HAK := Lib.hid hak
        obtain ⟨ls, hls⟩ := letters_in (op := (k : Int)) (by omega) (by omega)
        have HLS := Lib.hid hls
        have hlsl : ls.length ≤ 4 := by have := fields_len (letters_fields hls); simpa using this
        have hf : fldTxt (k : Int) = textOf ls := by unfold fldTxt; rw [hls]
        have HF := Lib.hid (fun (W : World) => rfields_any (k : Int) W)
        rw [hf] at HF
        have hsz := textOf_size ls
        have HGET := Lib.hid (textOf_get ls)
        obtain ⟨FT, hFT⟩ : ∃ FT, FT = textOf ls := ⟨_, rfl⟩
        rw [← hFT] at HF hsz HGET
        have HSZ := Lib.hid hsz
        have hkn : (k : Int) < 0 → False := by omega
        have HK := Lib.hid hk
        have hd1 : decide ((k : Int) < 0) = false := by simp
        clear hno hop hak hls hf hFT hsz hk hkn
        go_wp2_with (go_at_call 65; refine (HF.out _).mono ?_; rintro e w3 ⟨rfl, hb⟩; have hx3 : Has w3 wr.heap.size 25 #[.int .i64 (k : Nat), .int .i64 0, .int .i64 0, .int .i64 0, .int .u64 0] := Has.below (by exact Has.new wr _ _) hb (by simp); have HX3 := Lib.hid hx3; have hB3 : Below wr.heap.size wr w3 := Below.trans (by repeat' (first | (with_reducible assumption) | (with_reducible refine Below.setCell ?_ ?_ _) | (with_reducible refine Below.alloc ?_ ?_ _) | (with_reducible refine Below.drew ?_) | (with_reducible refine below_drewN ?_ _) | (with_reducible exact Below.refl _ _) | (show _ ≤ _; (try simp); (try omega); done) | exact Below.refl _ _ | assumption)) (hb.mono (by simp)); have HB3 : Hid (Below w1.heap.size w1 w3) := Lib.hid (HBr.out.trans (hB3.mono hz1)); clear hb hx3 hB3)
        obtain ⟨X, hX⟩ : ∃ X, X = wr.heap.size := ⟨_, rfl⟩
        have HX1 : Hid (w1.heap.size ≤ X) := Lib.hid (by omega)
        have hz3 : X < w3.heap.size := by rw [hX]; exact HX3.out.lt
        rw [← hX] at HX3 ⊢
        clear hX HBr hz1 hgr zwr HRr HBw
        go_loopw [9] (fun iv wr => ∃ (j : Nat) (y : Ins), j ≤ ls.length ∧ iv = .int .i64 (j : Nat) ∧ Hid y.Ok ∧ Hid (Has wr X 25 (insC y).toArray) ∧ Hid (setsD (ls.drop j) (l.drop j) y = setsD ls l (zero (k : Int))) ∧ Hid (Below w1.heap.size w1 wr)) (fun iv _ => ls.length - (intOf iv).toNat)
        case atStart => exact ⟨0, zero (k : Int), Nat.zero_le _, rfl, Lib.hid (zero_k HK.out), HX3, Lib.hid rfl, HB3⟩
        case round =>
          obtain ⟨j, y, hj, rfl, HY, HXz, HE, HBz⟩ := hrel
          clear HX3 HB3
          have zX : X < wr.heap.size := HXz.out.lt
          have hz1 : w1.heap.size ≤ wr.heap.size := HBz.out.size
          have hgz : g < wr.heap.size := by omega
          have k0 : wr.cell? ⟨X, 0, none⟩ = some (.int .i64 y.op) := HXz.out.cell 0
          have k1 : wr.cell? ⟨X, 1, none⟩ = some (.int .i64 y.a) := HXz.out.cell 1
          have k2 : wr.cell? ⟨X, 2, none⟩ = some (.int .i64 y.b) := HXz.out.cell 2
          have k3 : wr.cell? ⟨X, 3, none⟩ = some (.int .i64 y.n) := HXz.out.cell 3
          have k4 : wr.cell? ⟨X, 4, none⟩ = some (.int .u64 y.imm) := HXz.out.cell 4
          by_cases hgo : j < ls.length ∧ j < l.length
          · obtain ⟨hlt, hltl⟩ := hgo
            have hltS : j < FT.size := by rw [HSZ.out]; exact hlt
            have hget := HGET.out j hltS hlt
            obtain ⟨cv, hcv⟩ : ∃ cv : Int, cv = ((ls[j]).c.toNat : Nat) := ⟨_, rfl⟩
            have hcc : ((FT[j]'hltS).toNat : Int) = cv := by rw [hget, hcv]
            obtain ⟨T, hTe⟩ : ∃ T : ByteArray, T = ⟨l[j].toArray⟩ := ⟨_, rfl⟩
            have kT : wr.cell? ⟨g, j + 1, none⟩ = some (.string T) := (HBz.out.cell (p := ⟨g, j + 1, none⟩) hg).trans (by rw [hTe]; exact HCJ.out j hltl)
            obtain ⟨y', hy'⟩ : ∃ y', y' = setD ls[j] l[j] y := ⟨_, rfl⟩
            have HST : Hid (∀ W, Calls Tryz.prog 77 #[.agg #[.int .i64 y.op, .int .i64 y.a, .int .i64 y.b, .int .i64 y.n, .int .u64 y.imm], .int .u8 cv, .string T] W fun e w' => e = .returned (.agg #[.int .i64 y'.op, .int .i64 y'.a, .int .i64 y'.b, .int .i64 y'.n, .int .u64 y'.imm]) ∧ Below W.heap.size W w') := Lib.hid (fun W => by
              rw [hcv, hTe, hy']
              exact rset_any ls[j] l[j] (by have := HLL.out _ (List.getElem_mem hltl); omega) y W)
            have HY' : Hid y'.Ok := Lib.hid (by rw [hy']; exact setD_ok _ _ HY.out)
            have HE' : Hid (setsD (ls.drop (j + 1)) (l.drop (j + 1)) y' = setsD ls l (zero (k : Int))) := Lib.hid (by rw [← HE.out, setsD_drop y hlt hltl, hy'])
            have hsum : IntKind.i64.wrap ((j : Int) + 1) = (j : Int) + 1 := IntWalk.i64_in _ ⟨by omega, by omega⟩
            have htn : ((j : Int) + 1).toNat = j + 1 := by omega
            have hlt0 : (0 : Int) ≤ (j : Int) + 1 := by omega
            have hlt1 : (j : Int) + 1 < l.length + 1 := by omega
            have hlt1n : j + 1 < l.length + 1 := by omega
            clear hget hcv hTe hy' HE HY
            go_wp2_with fail
            go_region_law (go_simp; go_at_call 77; refine (HST.out _).mono ?_; rintro e w6 ⟨rfl, hb6⟩; have hB6 : Below wr.heap.size wr w6 := Below.trans (by repeat' (first | (with_reducible assumption) | (with_reducible refine Below.setCell ?_ ?_ _) | (with_reducible refine Below.alloc ?_ ?_ _) | (with_reducible refine Below.drew ?_) | (with_reducible refine below_drewN ?_ _) | (with_reducible exact Below.refl _ _) | (show _ ≤ _; (try simp); (try omega); done) | exact Below.refl _ _ | assumption)) (hb6.mono (by (try simp); (try omega))); have hx6 := HXz.out.below hB6 zX; have q0 : w6.cell? ⟨X, 0, none⟩ = some (.int .i64 y.op) := hx6.cell 0; have q1 : w6.cell? ⟨X, 1, none⟩ = some (.int .i64 y.a) := hx6.cell 1; have q2 : w6.cell? ⟨X, 2, none⟩ = some (.int .i64 y.b) := hx6.cell 2; have q3 : w6.cell? ⟨X, 3, none⟩ = some (.int .i64 y.n) := hx6.cell 3; have q4 : w6.cell? ⟨X, 4, none⟩ = some (.int .u64 y.imm) := hx6.cell 4; have f0 : w6.frozen? ⟨X, 0, none⟩ = false := hx6.frozen 0; have f1 : w6.frozen? ⟨X, 1, none⟩ = false := hx6.frozen 1; have f2 : w6.frozen? ⟨X, 2, none⟩ = false := hx6.frozen 2; have f3 : w6.frozen? ⟨X, 3, none⟩ = false := hx6.frozen 3; have f4 : w6.frozen? ⟨X, 4, none⟩ = false := hx6.frozen 4; have z6 : X < w6.heap.size := hx6.lt; have HX6 := Lib.hid hx6; have HB6 := Lib.hid (HBz.out.trans (hB6.mono hz1)); clear hb6 hB6 hx6)
            all_goals
              go_wp2
              go_roundw
            all_goals first
              | exact ⟨j + 1, y', by omega, by go_num, HY', Lib.hid (by exact ((((HX6.out.set 0 _).set 1 _).set 2 _).set 3 _).set 4 _), HE', Lib.hid (by have hB := HB6.out; have hx := HX1.out; exact (by repeat' (first | (with_reducible assumption) | (with_reducible refine Below.setCell ?_ ?_ _) | (with_reducible refine Below.alloc ?_ ?_ _) | (with_reducible refine Below.drew ?_) | (with_reducible refine below_drewN ?_ _) | (with_reducible exact Below.refl _ _) | (show _ ≤ _; (try simp); (try omega); done) | exact Below.refl _ _ | assumption)))⟩
              | (simp [intOf]; omega)
          · have HYY : Hid (y = setsD ls l (zero (k : Int))) := Lib.hid (by
              rw [← HE.out]
              by_cases h1 : j < ls.length
              · rw [List.drop_eq_nil_of_le (show l.length ≤ j by omega), setsD_out]
              · rw [List.drop_eq_nil_of_le (show ls.length ≤ j by omega), setsD_nil])
            have hRz := HR1.out.below HBz.out hzw
            have zwz : w.heap.size < wr.heap.size := by omega
            have HRz := Lib.hid hRz
            have HBw : Hid (Below w.heap.size w wr) := Lib.hid (HB1.out.trans (HBz.out.mono (by omega)))
            clear hRz
            have hsum : IntKind.i64.wrap ((j : Int) + 1) = (j : Int) + 1 := IntWalk.i64_in _ ⟨by omega, by omega⟩
            have hgo2 : (j < ls.length ∧ l.length ≤ j) ∨ ls.length ≤ j := by omega
            clear hgo HE
            by_cases hr : rightB y = true
            · obtain ⟨LB, hLB⟩ : ∃ LB : ByteArray, LB = ⟨(lineI y).toArray⟩ := ⟨_, rfl⟩
              have HPR : Hid (∀ W, Calls Tryz.prog 30 #[.agg #[.int .i64 y.op, .int .i64 y.a, .int .i64 y.b, .int .i64 y.n, .int .u64 y.imm]] W fun e w' => e = .returned (.tuple #[.string LB, .int .i64 0]) ∧ Below W.heap.size W w') := Lib.hid (fun W => by rw [hLB]; exact rprint_good HY.out hr W)
              by_cases hS : lineI y = S
              · have hee : (LB.toList == SB.toList) = true := by rw [hLB, HSB.out, hS]; simp
                have hne : (LB.toList != SB.toList) = false := by simp [bne, hee]
                have HFIN : Hid (rightB (setsD ls l (zero (k : Int))) = true ∧ lineI (setsD ls l (zero (k : Int))) = S) := Lib.hid (by rw [← HYY.out]; exact ⟨hr, hS⟩)
                clear hLB hr hS
                rcases hgo2 with ⟨hlt, hle⟩ | hle
                · have hltS : decide ((j : Int) < (FT.size : Int)) = true := by rw [HSZ.out]; simp; omega
                  have hltn : decide (j < FT.size) = true := by rw [HSZ.out]; simp; omega
                  have hlel : decide ((j : Int) + 1 < (l.length : Int) + 1) = false := by simp; omega
                  have hlel2 : decide ((j : Int) + 1 < (l.length + 1 : Nat)) = false := by simp; omega
                  go_wp2_with (go_at_call 30; refine (HPR.out _).mono ?_; rintro e w5 ⟨rfl, hb⟩; have hx5 := HXz.out.below hb zX; have q0 : w5.cell? ⟨X, 0, none⟩ = some (.int .i64 y.op) := hx5.cell 0; have q1 : w5.cell? ⟨X, 1, none⟩ = some (.int .i64 y.a) := hx5.cell 1; have q2 : w5.cell? ⟨X, 2, none⟩ = some (.int .i64 y.b) := hx5.cell 2; have q3 : w5.cell? ⟨X, 3, none⟩ = some (.int .i64 y.n) := hx5.cell 3; have q4 : w5.cell? ⟨X, 4, none⟩ = some (.int .u64 y.imm) := hx5.cell 4; have hr5 := HRz.out.below hb zwz; have f0 : w5.frozen? ⟨w.heap.size, 0, none⟩ = false := hr5.frozen 0; have f1 : w5.frozen? ⟨w.heap.size, 1, none⟩ = false := hr5.frozen 1; have f2 : w5.frozen? ⟨w.heap.size, 2, none⟩ = false := hr5.frozen 2; have f3 : w5.frozen? ⟨w.heap.size, 3, none⟩ = false := hr5.frozen 3; have f4 : w5.frozen? ⟨w.heap.size, 4, none⟩ = false := hr5.frozen 4; have c0 : w5.cell? ⟨w.heap.size, 0, none⟩ = some (.int .i64 0) := hr5.cell 0; have c1 : w5.cell? ⟨w.heap.size, 1, none⟩ = some (.int .i64 0) := hr5.cell 1; have c2 : w5.cell? ⟨w.heap.size, 2, none⟩ = some (.int .i64 0) := hr5.cell 2; have c3 : w5.cell? ⟨w.heap.size, 3, none⟩ = some (.int .i64 0) := hr5.cell 3; have c4 : w5.cell? ⟨w.heap.size, 4, none⟩ = some (.int .u64 0) := hr5.cell 4; have z5 : w.heap.size < w5.heap.size := hr5.lt; have HR5 := Lib.hid hr5; have HB5 := Lib.hid (HBw.out.trans (hb.mono (by omega))); clear hb hx5 hr5)
                  refine bodyPost_ret (results_block2 (g := w.heap.size) (T := 25) rfl rfl (by exact ((((HR5.out.set 0 _).set 1 _).set 2 _).set 3 _).set 4 _) rfl Tryz.underlying25 rfl (by kernel_rfl)) rfl ?_
                  exact ⟨by have hB := HB5.out; exact (by repeat' (first | (with_reducible assumption) | (with_reducible refine Below.setCell ?_ ?_ _) | (with_reducible refine Below.alloc ?_ ?_ _) | (with_reducible refine Below.drew ?_) | (with_reducible refine below_drewN ?_ _) | (with_reducible exact Below.refl _ _) | (show _ ≤ _; (try simp); (try omega); done) | exact Below.refl _ _ | assumption)), .inr ⟨k, ls, HK.out, HAK.out, HLS.out, .inl ⟨HFIN.out.1, HFIN.out.2, by rw [← HYY.out]; rfl⟩⟩⟩
                · have hltS : decide ((j : Int) < (FT.size : Int)) = false := by rw [HSZ.out]; simp; omega
                  have hltn : decide (j < FT.size) = false := by rw [HSZ.out]; simp; omega
                  go_wp2_with (go_at_call 30; refine (HPR.out _).mono ?_; rintro e w5 ⟨rfl, hb⟩; have hx5 := HXz.out.below hb zX; have q0 : w5.cell? ⟨X, 0, none⟩ = some (.int .i64 y.op) := hx5.cell 0; have q1 : w5.cell? ⟨X, 1, none⟩ = some (.int .i64 y.a) := hx5.cell 1; have q2 : w5.cell? ⟨X, 2, none⟩ = some (.int .i64 y.b) := hx5.cell 2; have q3 : w5.cell? ⟨X, 3, none⟩ = some (.int .i64 y.n) := hx5.cell 3; have q4 : w5.cell? ⟨X, 4, none⟩ = some (.int .u64 y.imm) := hx5.cell 4; have hr5 := HRz.out.below hb zwz; have f0 : w5.frozen? ⟨w.heap.size, 0, none⟩ = false := hr5.frozen 0; have f1 : w5.frozen? ⟨w.heap.size, 1, none⟩ = false := hr5.frozen 1; have f2 : w5.frozen? ⟨w.heap.size, 2, none⟩ = false := hr5.frozen 2; have f3 : w5.frozen? ⟨w.heap.size, 3, none⟩ = false := hr5.frozen 3; have f4 : w5.frozen? ⟨w.heap.size, 4, none⟩ = false := hr5.frozen 4; have c0 : w5.cell? ⟨w.heap.size, 0, none⟩ = some (.int .i64 0) := hr5.cell 0; have c1 : w5.cell? ⟨w.heap.size, 1, none⟩ = some (.int .i64 0) := hr5.cell 1; have c2 : w5.cell? ⟨w.heap.size, 2, none⟩ = some (.int .i64 0) := hr5.cell 2; have c3 : w5.cell? ⟨w.heap.size, 3, none⟩ = some (.int .i64 0) := hr5.cell 3; have c4 : w5.cell? ⟨w.heap.size, 4, none⟩ = some (.int .u64 0) := hr5.cell 4; have z5 : w.heap.size < w5.heap.size := hr5.lt; have HR5 := Lib.hid hr5; have HB5 := Lib.hid (HBw.out.trans (hb.mono (by omega))); clear hb hx5 hr5)
                  refine bodyPost_ret (results_block2 (g := w.heap.size) (T := 25) rfl rfl (by exact ((((HR5.out.set 0 _).set 1 _).set 2 _).set 3 _).set 4 _) rfl Tryz.underlying25 rfl (by kernel_rfl)) rfl ?_
                  exact ⟨by have hB := HB5.out; exact (by repeat' (first | (with_reducible assumption) | (with_reducible refine Below.setCell ?_ ?_ _) | (with_reducible refine Below.alloc ?_ ?_ _) | (with_reducible refine Below.drew ?_) | (with_reducible refine below_drewN ?_ _) | (with_reducible exact Below.refl _ _) | (show _ ≤ _; (try simp); (try omega); done) | exact Below.refl _ _ | assumption)), .inr ⟨k, ls, HK.out, HAK.out, HLS.out, .inl ⟨HFIN.out.1, HFIN.out.2, by rw [← HYY.out]; rfl⟩⟩⟩
              · have hee : (LB.toList == SB.toList) = false := by
                  rw [beq_eq_false_iff_ne]; intro e
                  rw [hLB, HSB.out, ByteArray.toList_mk, ByteArray.toList_mk] at e
                  exact hS e
                have hne : (LB.toList != SB.toList) = true := by simp [bne, hee]
                have HFIN : Hid (¬ (rightB (setsD ls l (zero (k : Int))) = true ∧ lineI (setsD ls l (zero (k : Int))) = S)) := Lib.hid (by rw [← HYY.out]; exact fun h => hS h.2)
                clear hLB hr hS
                rcases hgo2 with ⟨hlt, hle⟩ | hle
                · have hltS : decide ((j : Int) < (FT.size : Int)) = true := by rw [HSZ.out]; simp; omega
                  have hltn : decide (j < FT.size) = true := by rw [HSZ.out]; simp; omega
                  have hlel : decide ((j : Int) + 1 < (l.length : Int) + 1) = false := by simp; omega
                  have hlel2 : decide ((j : Int) + 1 < (l.length + 1 : Nat)) = false := by simp; omega
                  go_wp2_with (go_at_call 30; refine (HPR.out _).mono ?_; rintro e w5 ⟨rfl, hb⟩; have hx5 := HXz.out.below hb zX; have q0 : w5.cell? ⟨X, 0, none⟩ = some (.int .i64 y.op) := hx5.cell 0; have q1 : w5.cell? ⟨X, 1, none⟩ = some (.int .i64 y.a) := hx5.cell 1; have q2 : w5.cell? ⟨X, 2, none⟩ = some (.int .i64 y.b) := hx5.cell 2; have q3 : w5.cell? ⟨X, 3, none⟩ = some (.int .i64 y.n) := hx5.cell 3; have q4 : w5.cell? ⟨X, 4, none⟩ = some (.int .u64 y.imm) := hx5.cell 4; have hr5 := HRz.out.below hb zwz; have f0 : w5.frozen? ⟨w.heap.size, 0, none⟩ = false := hr5.frozen 0; have f1 : w5.frozen? ⟨w.heap.size, 1, none⟩ = false := hr5.frozen 1; have f2 : w5.frozen? ⟨w.heap.size, 2, none⟩ = false := hr5.frozen 2; have f3 : w5.frozen? ⟨w.heap.size, 3, none⟩ = false := hr5.frozen 3; have f4 : w5.frozen? ⟨w.heap.size, 4, none⟩ = false := hr5.frozen 4; have c0 : w5.cell? ⟨w.heap.size, 0, none⟩ = some (.int .i64 0) := hr5.cell 0; have c1 : w5.cell? ⟨w.heap.size, 1, none⟩ = some (.int .i64 0) := hr5.cell 1; have c2 : w5.cell? ⟨w.heap.size, 2, none⟩ = some (.int .i64 0) := hr5.cell 2; have c3 : w5.cell? ⟨w.heap.size, 3, none⟩ = some (.int .i64 0) := hr5.cell 3; have c4 : w5.cell? ⟨w.heap.size, 4, none⟩ = some (.int .u64 0) := hr5.cell 4; have z5 : w.heap.size < w5.heap.size := hr5.lt; have HR5 := Lib.hid hr5; have HB5 := Lib.hid (HBw.out.trans (hb.mono (by omega))); clear hb hx5 hr5)
                  refine bodyPost_ret (results_block2 (g := w.heap.size) (T := 25) rfl rfl (by exact ((((HR5.out.set 0 _).set 1 _).set 2 _).set 3 _).set 4 _) rfl Tryz.underlying25 rfl (by kernel_rfl)) rfl ?_
                  exact ⟨by have hB := HB5.out; exact (by repeat' (first | (with_reducible assumption) | (with_reducible refine Below.setCell ?_ ?_ _) | (with_reducible refine Below.alloc ?_ ?_ _) | (with_reducible refine Below.drew ?_) | (with_reducible refine below_drewN ?_ _) | (with_reducible exact Below.refl _ _) | (show _ ≤ _; (try simp); (try omega); done) | exact Below.refl _ _ | assumption)), .inr ⟨k, ls, HK.out, HAK.out, HLS.out, .inr ⟨HFIN.out, rfl⟩⟩⟩
                · have hltS : decide ((j : Int) < (FT.size : Int)) = false := by rw [HSZ.out]; simp; omega
                  have hltn : decide (j < FT.size) = false := by rw [HSZ.out]; simp; omega
                  go_wp2_with (go_at_call 30; refine (HPR.out _).mono ?_; rintro e w5 ⟨rfl, hb⟩; have hx5 := HXz.out.below hb zX; have q0 : w5.cell? ⟨X, 0, none⟩ = some (.int .i64 y.op) := hx5.cell 0; have q1 : w5.cell? ⟨X, 1, none⟩ = some (.int .i64 y.a) := hx5.cell 1; have q2 : w5.cell? ⟨X, 2, none⟩ = some (.int .i64 y.b) := hx5.cell 2; have q3 : w5.cell? ⟨X, 3, none⟩ = some (.int .i64 y.n) := hx5.cell 3; have q4 : w5.cell? ⟨X, 4, none⟩ = some (.int .u64 y.imm) := hx5.cell 4; have hr5 := HRz.out.below hb zwz; have f0 : w5.frozen? ⟨w.heap.size, 0, none⟩ = false := hr5.frozen 0; have f1 : w5.frozen? ⟨w.heap.size, 1, none⟩ = false := hr5.frozen 1; have f2 : w5.frozen? ⟨w.heap.size, 2, none⟩ = false := hr5.frozen 2; have f3 : w5.frozen? ⟨w.heap.size, 3, none⟩ = false := hr5.frozen 3; have f4 : w5.frozen? ⟨w.heap.size, 4, none⟩ = false := hr5.frozen 4; have c0 : w5.cell? ⟨w.heap.size, 0, none⟩ = some (.int .i64 0) := hr5.cell 0; have c1 : w5.cell? ⟨w.heap.size, 1, none⟩ = some (.int .i64 0) := hr5.cell 1; have c2 : w5.cell? ⟨w.heap.size, 2, none⟩ = some (.int .i64 0) := hr5.cell 2; have c3 : w5.cell? ⟨w.heap.size, 3, none⟩ = some (.int .i64 0) := hr5.cell 3; have c4 : w5.cell? ⟨w.heap.size, 4, none⟩ = some (.int .u64 0) := hr5.cell 4; have z5 : w.heap.size < w5.heap.size := hr5.lt; have HR5 := Lib.hid hr5; have HB5 := Lib.hid (HBw.out.trans (hb.mono (by omega))); clear hb hx5 hr5)
                  refine bodyPost_ret (results_block2 (g := w.heap.size) (T := 25) rfl rfl (by exact ((((HR5.out.set 0 _).set 1 _).set 2 _).set 3 _).set 4 _) rfl Tryz.underlying25 rfl (by kernel_rfl)) rfl ?_
                  exact ⟨by have hB := HB5.out; exact (by repeat' (first | (with_reducible assumption) | (with_reducible refine Below.setCell ?_ ?_ _) | (with_reducible refine Below.alloc ?_ ?_ _) | (with_reducible refine Below.drew ?_) | (with_reducible refine below_drewN ?_ _) | (with_reducible exact Below.refl _ _) | (show _ ≤ _; (try simp); (try omega); done) | exact Below.refl _ _ | assumption)), .inr ⟨k, ls, HK.out, HAK.out, HLS.out, .inr ⟨HFIN.out, rfl⟩⟩⟩
            · have HPR : Hid (∀ W, Calls Tryz.prog 30 #[.agg #[.int .i64 y.op, .int .i64 y.a, .int .i64 y.b, .int .i64 y.n, .int .u64 y.imm]] W fun e w' => e = .returned (.tuple #[.string ⟨#[]⟩, .int .i64 20]) ∧ Below W.heap.size W w') := Lib.hid (fun W => rprint_bad HY.out (by simpa using hr) W)
              have HFIN : Hid (¬ (rightB (setsD ls l (zero (k : Int))) = true ∧ lineI (setsD ls l (zero (k : Int))) = S)) := Lib.hid (by rw [← HYY.out]; exact fun h => hr h.1)
              clear hr
              rcases hgo2 with ⟨hlt, hle⟩ | hle
              · have hltS : decide ((j : Int) < (FT.size : Int)) = true := by rw [HSZ.out]; simp; omega
                have hltn : decide (j < FT.size) = true := by rw [HSZ.out]; simp; omega
                have hlel : decide ((j : Int) + 1 < (l.length : Int) + 1) = false := by simp; omega
                have hlel2 : decide ((j : Int) + 1 < (l.length + 1 : Nat)) = false := by simp; omega
                go_wp2_with (go_at_call 30; refine (HPR.out _).mono ?_; rintro e w5 ⟨rfl, hb⟩; have hx5 := HXz.out.below hb zX; have q0 : w5.cell? ⟨X, 0, none⟩ = some (.int .i64 y.op) := hx5.cell 0; have q1 : w5.cell? ⟨X, 1, none⟩ = some (.int .i64 y.a) := hx5.cell 1; have q2 : w5.cell? ⟨X, 2, none⟩ = some (.int .i64 y.b) := hx5.cell 2; have q3 : w5.cell? ⟨X, 3, none⟩ = some (.int .i64 y.n) := hx5.cell 3; have q4 : w5.cell? ⟨X, 4, none⟩ = some (.int .u64 y.imm) := hx5.cell 4; have hr5 := HRz.out.below hb zwz; have f0 : w5.frozen? ⟨w.heap.size, 0, none⟩ = false := hr5.frozen 0; have f1 : w5.frozen? ⟨w.heap.size, 1, none⟩ = false := hr5.frozen 1; have f2 : w5.frozen? ⟨w.heap.size, 2, none⟩ = false := hr5.frozen 2; have f3 : w5.frozen? ⟨w.heap.size, 3, none⟩ = false := hr5.frozen 3; have f4 : w5.frozen? ⟨w.heap.size, 4, none⟩ = false := hr5.frozen 4; have c0 : w5.cell? ⟨w.heap.size, 0, none⟩ = some (.int .i64 0) := hr5.cell 0; have c1 : w5.cell? ⟨w.heap.size, 1, none⟩ = some (.int .i64 0) := hr5.cell 1; have c2 : w5.cell? ⟨w.heap.size, 2, none⟩ = some (.int .i64 0) := hr5.cell 2; have c3 : w5.cell? ⟨w.heap.size, 3, none⟩ = some (.int .i64 0) := hr5.cell 3; have c4 : w5.cell? ⟨w.heap.size, 4, none⟩ = some (.int .u64 0) := hr5.cell 4; have z5 : w.heap.size < w5.heap.size := hr5.lt; have HR5 := Lib.hid hr5; have HB5 := Lib.hid (HBw.out.trans (hb.mono (by omega))); clear hb hx5 hr5)
                refine bodyPost_ret (results_block2 (g := w.heap.size) (T := 25) rfl rfl (by exact ((((HR5.out.set 0 _).set 1 _).set 2 _).set 3 _).set 4 _) rfl Tryz.underlying25 rfl (by kernel_rfl)) rfl ?_
                exact ⟨by have hB := HB5.out; exact (by repeat' (first | (with_reducible assumption) | (with_reducible refine Below.setCell ?_ ?_ _) | (with_reducible refine Below.alloc ?_ ?_ _) | (with_reducible refine Below.drew ?_) | (with_reducible refine below_drewN ?_ _) | (with_reducible exact Below.refl _ _) | (show _ ≤ _; (try simp); (try omega); done) | exact Below.refl _ _ | assumption)), .inr ⟨k, ls, HK.out, HAK.out, HLS.out, .inr ⟨HFIN.out, rfl⟩⟩⟩
              · have hltS : decide ((j : Int) < (FT.size : Int)) = false := by rw [HSZ.out]; simp; omega
                have hltn : decide (j < FT.size) = false := by rw [HSZ.out]; simp; omega
                go_wp2_with (go_at_call 30; refine (HPR.out _).mono ?_; rintro e w5 ⟨rfl, hb⟩; have hx5 := HXz.out.below hb zX; have q0 : w5.cell? ⟨X, 0, none⟩ = some (.int .i64 y.op) := hx5.cell 0; have q1 : w5.cell? ⟨X, 1, none⟩ = some (.int .i64 y.a) := hx5.cell 1; have q2 : w5.cell? ⟨X, 2, none⟩ = some (.int .i64 y.b) := hx5.cell 2; have q3 : w5.cell? ⟨X, 3, none⟩ = some (.int .i64 y.n) := hx5.cell 3; have q4 : w5.cell? ⟨X, 4, none⟩ = some (.int .u64 y.imm) := hx5.cell 4; have hr5 := HRz.out.below hb zwz; have f0 : w5.frozen? ⟨w.heap.size, 0, none⟩ = false := hr5.frozen 0; have f1 : w5.frozen? ⟨w.heap.size, 1, none⟩ = false := hr5.frozen 1; have f2 : w5.frozen? ⟨w.heap.size, 2, none⟩ = false := hr5.frozen 2; have f3 : w5.frozen? ⟨w.heap.size, 3, none⟩ = false := hr5.frozen 3; have f4 : w5.frozen? ⟨w.heap.size, 4, none⟩ = false := hr5.frozen 4; have c0 : w5.cell? ⟨w.heap.size, 0, none⟩ = some (.int .i64 0) := hr5.cell 0; have c1 : w5.cell? ⟨w.heap.size, 1, none⟩ = some (.int .i64 0) := hr5.cell 1; have c2 : w5.cell? ⟨w.heap.size, 2, none⟩ = some (.int .i64 0) := hr5.cell 2; have c3 : w5.cell? ⟨w.heap.size, 3, none⟩ = some (.int .i64 0) := hr5.cell 3; have c4 : w5.cell? ⟨w.heap.size, 4, none⟩ = some (.int .u64 0) := hr5.cell 4; have z5 : w.heap.size < w5.heap.size := hr5.lt; have HR5 := Lib.hid hr5; have HB5 := Lib.hid (HBw.out.trans (hb.mono (by omega))); clear hb hx5 hr5)
                refine bodyPost_ret (results_block2 (g := w.heap.size) (T := 25) rfl rfl (by exact ((((HR5.out.set 0 _).set 1 _).set 2 _).set 3 _).set 4 _) rfl Tryz.underlying25 rfl (by kernel_rfl)) rfl ?_
                exact ⟨by have hB := HB5.out; exact (by repeat' (first | (with_reducible assumption) | (with_reducible refine Below.setCell ?_ ?_ _) | (with_reducible refine Below.alloc ?_ ?_ _) | (with_reducible refine Below.drew ?_) | (with_reducible refine below_drewN ?_ _) | (with_reducible exact Below.refl _ _) | (show _ ≤ _; (try simp); (try omega); done) | exact Below.refl _ _ | assumption)), .inr ⟨k, ls, HK.out, HAK.out, HLS.out, .inr ⟨HFIN.out, rfl⟩⟩⟩
end codeW
end Go.Proofs.YtbbfpbmogklomaaGreatDoor

