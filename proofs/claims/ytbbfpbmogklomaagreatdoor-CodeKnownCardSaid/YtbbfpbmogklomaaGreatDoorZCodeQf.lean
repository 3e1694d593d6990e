/- busbarref12's Fields, from, Right: an operation's letters; is an instruction right. Condition: numbers in their types' bounds. -/
import Derived.Test.YtbbfpbmogklomaaGreatDoorZKc
import Derived.Test.YtbbfpbmogklomaaGreatDoorZCodeE
import Derived.Deep.QuietTactic
import Derived.BigQuiet
namespace Go.Proofs.YtbbfpbmogklomaaGreatDoor
open Go.RowKit Go.Bus Go.Bus.cellK Go.Bus.codeK
set_option linter.unusedVariables false
set_option linter.unusedSimpArgs false
namespace codeW
def fldTxt (op : Int) : ByteArray := match lettersOf op with | some ls => textOf ls | none => ⟨#[63]⟩
def txts : Array Value := #[.string ⟨#[]⟩, .string ⟨#[97, 105]⟩, .string ⟨#[97, 98]⟩, .string ⟨#[97, 98]⟩, .string ⟨#[97, 98]⟩, .string ⟨#[97, 98]⟩, .string ⟨#[97, 104]⟩, .string ⟨#[97, 104]⟩, .string ⟨#[97, 105]⟩, .string ⟨#[97, 107, 110]⟩, .string ⟨#[97, 107, 110]⟩, .string ⟨#[97, 107, 110]⟩, .string ⟨#[97, 107, 110]⟩, .string ⟨#[97, 107, 110, 105]⟩, .string ⟨#[97, 119]⟩, .string ⟨#[97, 115]⟩, .string ⟨#[97, 115]⟩, .string ⟨#[97, 115, 119, 103]⟩, .string ⟨#[106]⟩, .string ⟨#[97, 106, 105]⟩]
theorem txts_at : ∀ k, k < 20 → txts[k]? = some (.string (fldTxt (k : Nat)))
  | 0, _ => rfl
  | 1, _ => rfl
  | 2, _ => rfl
  | 3, _ => rfl
  | 4, _ => rfl
  | 5, _ => rfl
  | 6, _ => rfl
  | 7, _ => rfl
  | 8, _ => rfl
  | 9, _ => rfl
  | 10, _ => rfl
  | 11, _ => rfl
  | 12, _ => rfl
  | 13, _ => rfl
  | 14, _ => rfl
  | 15, _ => rfl
  | 16, _ => rfl
  | 17, _ => rfl
  | 18, _ => rfl
  | 19, _ => rfl
  | k + 20, h => absurd h (by omega)
set_option maxRecDepth 100000 in
set_option maxHeartbeats 1000000 in
theorem rfields_any (op : Int) (w : World) : Calls Tryz.prog 65 #[.int .i64 op] w fun e w' => e = .returned (.string (fldTxt op)) ∧ Below w.heap.size w w' := by
  by_cases hin : 0 ≤ op ∧ op < 20
  · obtain ⟨k, rfl⟩ := Int.eq_ofNat_of_zero_le hin.1
    have hk : k < 20 := by omega
    have hc : (w.alloc (.cells txts 9)).cell? ⟨w.heap.size, k, none⟩ = some (.string (fldTxt k)) := ((Has.new w _ txts).cell k).trans (txts_at k hk)
    unfold txts at hc
    have d1 : decide ((k : Int) < 0) = false := by simp
    have d2 : decide (20 ≤ (k : Int)) = false := by simp; omega
    obtain ⟨S, hS⟩ : ∃ S, S = fldTxt (k : Nat) := ⟨_, rfl⟩
    rw [← hS] at hc ⊢
    clear hS hin
    go_enter Tryz.func65, Tryz.ntmps65
    go_wp2
    go_ret
    exact ⟨rfl, (by repeat' (first | (with_reducible assumption) | (with_reducible refine Below.setCell ?_ ?_ _) | (with_reducible refine Below.alloc ?_ ?_ _) | (with_reducible refine Below.drew ?_) | (with_reducible refine below_drewN ?_ _) | (with_reducible exact Below.refl _ _) | (show _ ≤ _; (try simp); (try omega); done) | exact Below.refl _ _ | assumption))⟩
  · have hq : fldTxt op = ⟨#[63]⟩ := by unfold fldTxt; rw [letters_out (by omega)]
    rw [hq]
    rcases (by omega : op < 0 ∨ 20 ≤ op) with h | h
    · have d1 : decide (op < 0) = true := by simpa using h
      clear h hin hq
      go_enter Tryz.func65, Tryz.ntmps65
      go_wp2
      go_ret
      exact ⟨rfl, (by repeat' (first | (with_reducible assumption) | (with_reducible refine Below.setCell ?_ ?_ _) | (with_reducible refine Below.alloc ?_ ?_ _) | (with_reducible refine Below.drew ?_) | (with_reducible refine below_drewN ?_ _) | (with_reducible exact Below.refl _ _) | (show _ ≤ _; (try simp); (try omega); done) | exact Below.refl _ _ | assumption))⟩
    · have d1 : decide (op < 0) = false := by simp; omega
      have d2 : decide (20 ≤ op) = true := by simp; omega
      clear h hin hq
      go_enter Tryz.func65, Tryz.ntmps65
      go_wp2
      go_ret
      exact ⟨rfl, (by repeat' (first | (with_reducible assumption) | (with_reducible refine Below.setCell ?_ ?_ _) | (with_reducible refine Below.alloc ?_ ?_ _) | (with_reducible refine Below.drew ?_) | (with_reducible refine below_drewN ?_ _) | (with_reducible exact Below.refl _ _) | (show _ ≤ _; (try simp); (try omega); done) | exact Below.refl _ _ | assumption))⟩
set_option maxRecDepth 100000 in
set_option maxHeartbeats 1000000 in
theorem rfrom_any (n lo hi : Int) (w : World) : Calls Tryz.prog 106 #[.int .i64 n, .int .i64 lo, .int .i64 hi] w fun e w' => e = .returned (.bool (decide (lo ≤ n) && decide (n ≤ hi))) ∧ w = w' := by
  cases hb : decide (lo ≤ n)
  all_goals
    go_enter Tryz.func106, Tryz.ntmps106
    go_wp2
    go_ret
    exact ⟨rfl, rfl⟩
theorem neq_ins2 (x y : Ins) (w : World) : (binOp .neq 25 (.agg (insC x).toArray) (.agg (insC y).toArray)).run Tryz.prog w = .ok (.bool (!decide (x = y))) w := by
  obtain ⟨a, b, c, d, e⟩ := x
  obtain ⟨a', b', c', d', e'⟩ := y
  by_cases h1 : a = a' <;> by_cases h2 : b = b' <;> by_cases h3 : c = c' <;> by_cases h4 : d = d' <;> by_cases h5 : e = e' <;> simp [insC, go_sem, h1, h2, h3, h4, h5]
theorem textOf_size (ls : List Le) : (textOf ls).size = ls.length := by show ((ls.map Le.c).toArray).size = _; simp
theorem textOf_get (ls : List Le) (k : Nat) (h : k < (textOf ls).size) (h' : k < ls.length) : (textOf ls)[k]'h = (ls[k]).c := by
  have e : (textOf ls).data[k]? = some (ls[k]).c := by simp [textOf, h']
  exact (Array.getElem?_eq_some_iff.1 e).2
theorem setAll_take2 (fs : List Fk) (x y : Ins) {k : Nat} (h : k < fs.length) : setAll (fs.take (k + 1)) x y = (setAll (fs.take k) x y).put fs[k].wh (x.at_ fs[k].wh) := by
  rw [List.take_succ_eq_append_getElem h]
  unfold setAll
  rw [List.foldl_append]; rfl
set_option maxRecDepth 100000 in
set_option maxHeartbeats 1000000 in
theorem rright_none {x : Ins} (hx : x.Ok) (w : World) (hl : lettersOf x.op = none) : Calls Tryz.prog 63 #[.agg (insC x).toArray] w fun e w' => e = .returned (.int .i64 20) ∧ Below w.heap.size w w' := by
  obtain ⟨op, a, b, n, imm⟩ := x
  have hf : fldTxt op = ⟨#[63]⟩ := by unfold fldTxt; simp only at hl; rw [hl]
  have HF := Lib.hid (fun (W : World) => rfields_any op W)
  rw [hf] at HF
  clear hl hf hx
  unfold insC
  go_enter Tryz.func63, Tryz.ntmps63
  go_wp2_with (go_at_call 65; refine (HF.out _).mono ?_; rintro e w1 ⟨rfl, hb⟩; have hx1 := (Has.new w 25 #[.int .i64 op, .int .i64 a, .int .i64 b, .int .i64 n, .int .u64 imm]).below hb (by simp); have c0 : w1.cell? ⟨w.heap.size, 0, none⟩ = some (.int .i64 op) := hx1.cell 0; have zx : w.heap.size < w1.heap.size := hx1.lt; have HB1 : Hid (Below w.heap.size w w1) := Lib.hid (((Below.refl _ _).alloc (Nat.le_refl _) _).trans (hb.mono (by simp))); clear hb hx1)
  have HW1 : Hid (Below w.heap.size w (w1.alloc (.cells #[.int .i64 op, .int .i64 0, .int .i64 0, .int .i64 0, .int .u64 0] 25))) := Lib.hid (HB1.out.alloc (Nat.le_of_lt zx) _)
  go_loopw [5, 6] (fun ok i wr => ∃ k : Nat, k ≤ 1 ∧ i = .int .i64 k ∧ ok = .bool false ∧ Hid (Below w.heap.size w wr)) (fun _ i _ => 1 - (intOf i).toNat)
  case atStart => exact ⟨0, by omega, rfl, rfl, Lib.hid (by have := HW1.out; exact (by repeat' (first | (with_reducible assumption) | (with_reducible refine Below.setCell ?_ ?_ _) | (with_reducible refine Below.alloc ?_ ?_ _) | (with_reducible refine Below.drew ?_) | (with_reducible refine below_drewN ?_ _) | (with_reducible exact Below.refl _ _) | (show _ ≤ _; (try simp); (try omega); done) | exact Below.refl _ _ | assumption)))⟩
  case round =>
    obtain ⟨k, hk, rfl, rfl, HB⟩ := hrel
    clear HW1 c0
    rcases (by omega : k = 0 ∨ k = 1) with rfl | rfl
    · go_wp2
      go_roundw
      case rel => exact ⟨1, by omega, rfl, rfl, HB⟩
      case measure => simp [intOf]
    · go_wp2
      go_ret
      exact ⟨rfl, HB.out⟩
set_option maxRecDepth 100000 in
set_option maxHeartbeats 1000000 in
theorem rright_some {x : Ins} (hx : x.Ok) (w : World) (ls : List Le) (hl : lettersOf x.op = some ls) : Calls Tryz.prog 63 #[.agg (insC x).toArray] w fun e w' => e = .returned (.int .i64 (if rightB x then 0 else 20)) ∧ Below w.heap.size w w' := by
  have hr := right_letters hl
  have hfs := letters_fields hl
  have hlen : ls.length ≤ 4 := by have := fields_len hfs; simpa using this
  obtain ⟨R, hR⟩ : ∃ R, R = rightB x := ⟨_, rfl⟩
  rw [← hR] at hr ⊢
  obtain ⟨N, hN⟩ : ∃ N : Int, N = if R then 0 else 20 := ⟨_, rfl⟩
  rw [← hN]
  have HN := Lib.hid hN
  clear hN
  have HR := Lib.hid hr
  have HFS := Lib.hid hfs
  obtain ⟨op, a, b, n, imm⟩ := x
  have hf : fldTxt op = textOf ls := by unfold fldTxt; simp only at hl; rw [hl]
  have HF := Lib.hid (fun (W : World) => rfields_any op W)
  rw [hf] at HF
  have hsz := textOf_size ls
  have HGET := Lib.hid (textOf_get ls)
  obtain ⟨S, hS⟩ : ∃ S, S = textOf ls := ⟨_, rfl⟩
  rw [← hS] at HF hsz HGET
  have HSZ := Lib.hid hsz
  have hne : S ≠ ⟨#[63]⟩ := by
    rw [hS]
    intro e
    have h1 : ls.map Le.c = [63] := by
      have h2 : (ls.map Le.c).toArray = #[63] := ByteArray.mk.inj e
      have h3 := congrArg Array.toList h2
      simpa using h3
    cases ls with
    | nil => simp at h1
    | cons y t => simp only [List.map_cons, List.cons.injEq] at h1; cases y <;> exact absurd h1.1 (by decide)
  have hne2 : (S.toList == (⟨#[63]⟩ : ByteArray).toList) = false := by
    rw [beq_eq_false_iff_ne]
    intro e
    exact hne (ByteArray.ext (Array.toList_inj.1 (by rw [← ByteArray.toList_eq, ← ByteArray.toList_eq, e])))
  have hne3 : (S.toList == [63]) = false := by
    have h := hne2
    rw [show (⟨#[63]⟩ : ByteArray).toList = [63] from ByteArray.toList_mk [63]] at h
    exact h
  clear hl hf hx hr hfs hR hsz hS hne
  obtain ⟨fs, hfs⟩ : ∃ fs, fs = ls.map Le.fk := ⟨_, rfl⟩
  rw [← hfs] at HR HFS
  have HFE := Lib.hid hfs
  have hfl : fs.length = ls.length := by rw [hfs]; simp
  have HFL := Lib.hid hfl
  clear hfs hfl
  unfold insC
  go_enter Tryz.func63, Tryz.ntmps63
  go_wp2_with (go_at_call 65; refine (HF.out _).mono ?_; rintro e w1 ⟨rfl, hb⟩; have hx1 := (Has.new w 25 #[.int .i64 op, .int .i64 a, .int .i64 b, .int .i64 n, .int .u64 imm]).below hb (by simp); have c0 : w1.cell? ⟨w.heap.size, 0, none⟩ = some (.int .i64 op) := hx1.cell 0; have zx : w.heap.size < w1.heap.size := hx1.lt; have HX1 := Lib.hid hx1; have HB1 : Hid (Below w.heap.size w w1) := Lib.hid (((Below.refl _ _).alloc (Nat.le_refl _) _).trans (hb.mono (by simp))); clear hb hx1)
  obtain ⟨W1, hW1⟩ : ∃ W1, W1 = w1.alloc (.cells #[.int .i64 op, .int .i64 0, .int .i64 0, .int .i64 0, .int .u64 0] 25) := ⟨_, rfl⟩
  have HY0 : Hid (Has W1 w1.heap.size 25 #[.int .i64 op, .int .i64 0, .int .i64 0, .int .i64 0, .int .u64 0]) := Lib.hid (by rw [hW1]; exact Has.new w1 _ _)
  have HX0 : Hid (Has W1 w.heap.size 25 #[.int .i64 op, .int .i64 a, .int .i64 b, .int .i64 n, .int .u64 imm]) := Lib.hid (by rw [hW1]; exact HX1.out.alloc _)
  have HB0 : Hid (Below w.heap.size w W1) := Lib.hid (by rw [hW1]; exact HB1.out.alloc (Nat.le_of_lt zx) _)
  rw [← hW1]
  clear hW1 c0
  go_loopw [5, 6] (fun ok i wr => ∃ k : Nat, k ≤ ls.length ∧ i = .int .i64 k ∧ ok = .bool ((fs.take k).all (okF · ⟨op, a, b, n, imm⟩)) ∧ Hid (Has wr w1.heap.size 25 (insC (setAll (fs.take k) ⟨op, a, b, n, imm⟩ (zero op))).toArray) ∧ Hid (Has wr w.heap.size 25 #[.int .i64 op, .int .i64 a, .int .i64 b, .int .i64 n, .int .u64 imm]) ∧ Hid (Below w.heap.size w wr)) (fun _ i _ => ls.length - (intOf i).toNat)
  case atStart => exact ⟨0, Nat.zero_le _, rfl, rfl, HY0, HX0, HB0⟩
  case round =>
    obtain ⟨k, hk, rfl, rfl, HY, HX, HB⟩ := hrel
    clear HY0 HX0 HB0
    have g0 : wr.cell? ⟨w.heap.size, 0, none⟩ = some (.int .i64 op) := HX.out.cell 0
    have g1 : wr.cell? ⟨w.heap.size, 1, none⟩ = some (.int .i64 a) := HX.out.cell 1
    have g2 : wr.cell? ⟨w.heap.size, 2, none⟩ = some (.int .i64 b) := HX.out.cell 2
    have g3 : wr.cell? ⟨w.heap.size, 3, none⟩ = some (.int .i64 n) := HX.out.cell 3
    have g4 : wr.cell? ⟨w.heap.size, 4, none⟩ = some (.int .u64 imm) := HX.out.cell 4
    have zX : w.heap.size < wr.heap.size := HX.out.lt
    have zY : w1.heap.size < wr.heap.size := HY.out.lt
    by_cases hlt : k < ls.length
    · have hltS : k < S.size := by rw [HSZ.out]; exact hlt
      have hltF : k < fs.length := by rw [HFL.out]; exact hlt
      have hget := HGET.out k hltS hlt
      have hfk : fs[k] = (ls[k]).fk := by simp only [HFE.out, List.getElem_map]
      have HALL : Hid ((fs.take (k + 1)).all (okF · ⟨op, a, b, n, imm⟩) = ((fs.take k).all (okF · ⟨op, a, b, n, imm⟩) && okF (ls[k]).fk ⟨op, a, b, n, imm⟩)) := Lib.hid (by rw [all_take hltF, hfk])
      have HSET : Hid (setAll (fs.take (k + 1)) ⟨op, a, b, n, imm⟩ (zero op) = (setAll (fs.take k) ⟨op, a, b, n, imm⟩ (zero op)).put (ls[k]).fk.wh ((⟨op, a, b, n, imm⟩ : Ins).at_ (ls[k]).fk.wh)) := Lib.hid (by rw [setAll_take2 _ _ _ hltF, hfk])
      have HBY : Hid ((ls[k]).fk = .bytes → (fs.take k).all (okF · ⟨op, a, b, n, imm⟩) = true → 0 ≤ b ∧ b ≤ 7) := Lib.hid (by
        intro h1 h2
        obtain ⟨e2, hs⟩ := bytes_at HFS.out (i := k) (by rw [List.getElem?_eq_getElem hltF, hfk, h1])
        subst e2
        have hm : codeK.start ∈ fs.take 2 := by
          obtain ⟨h3, h4⟩ := List.getElem?_eq_some_iff.1 hs
          exact List.mem_iff_getElem.2 ⟨1, by simp; omega, by rw [List.getElem_take]; exact h4⟩
        have h5 := List.all_eq_true.1 h2 _ hm
        have h6 : (decide (0 ≤ b) && decide (b ≤ 7)) = true := h5
        simpa using h6)
      generalize (fs.take k).all (okF · ⟨op, a, b, n, imm⟩) = B at *
      generalize hY : setAll (fs.take k) ⟨op, a, b, n, imm⟩ (zero op) = Y at *
      clear hY
      obtain ⟨y0, y1, y2, y3, y4⟩ := Y
      have q0 : wr.cell? ⟨w1.heap.size, 0, none⟩ = some (.int .i64 y0) := HY.out.cell 0
      have q1 : wr.cell? ⟨w1.heap.size, 1, none⟩ = some (.int .i64 y1) := HY.out.cell 1
      have q2 : wr.cell? ⟨w1.heap.size, 2, none⟩ = some (.int .i64 y2) := HY.out.cell 2
      have q3 : wr.cell? ⟨w1.heap.size, 3, none⟩ = some (.int .i64 y3) := HY.out.cell 3
      have q4 : wr.cell? ⟨w1.heap.size, 4, none⟩ = some (.int .u64 y4) := HY.out.cell 4
      have r1 : wr.frozen? ⟨w1.heap.size, 1, none⟩ = false := HY.out.frozen 1
      have r2 : wr.frozen? ⟨w1.heap.size, 2, none⟩ = false := HY.out.frozen 2
      have r3 : wr.frozen? ⟨w1.heap.size, 3, none⟩ = false := HY.out.frozen 3
      have r4 : wr.frozen? ⟨w1.heap.size, 4, none⟩ = false := HY.out.frozen 4
      cases hle : ls[k] <;> rw [hle] at HALL HSET HBY hget <;> clear hle hfk
      case a =>
        have hcc : ((S[k]'hltS).toNat : Int) = 97 := by rw [hget]; rfl
        clear hget
        clear HBY
        cases B
        · go_wp2
          go_roundw
          case rel => exact ⟨k + 1, by omega, by go_num, by rw [HALL.out]; rfl, Lib.hid (by rw [HSET.out]; exact HY.out.set 1 _), Lib.hid (HX.out.far (by simp; omega) _), Lib.hid (by have := HB.out; exact (by repeat' (first | (with_reducible assumption) | (with_reducible refine Below.setCell ?_ ?_ _) | (with_reducible refine Below.alloc ?_ ?_ _) | (with_reducible refine Below.drew ?_) | (with_reducible refine below_drewN ?_ _) | (with_reducible exact Below.refl _ _) | (show _ ≤ _; (try simp); (try omega); done) | exact Below.refl _ _ | assumption)))⟩
          case measure => simp [intOf]; omega
        · go_wp2_with (go_at_call 106; refine (rfrom_any _ _ _ _).mono ?_; rintro e w3 ⟨rfl, rfl⟩)
          go_roundw
          case rel => exact ⟨k + 1, by omega, by go_num, by rw [HALL.out]; rfl, Lib.hid (by rw [HSET.out]; exact HY.out.set 1 _), Lib.hid (HX.out.far (by simp; omega) _), Lib.hid (by have := HB.out; exact (by repeat' (first | (with_reducible assumption) | (with_reducible refine Below.setCell ?_ ?_ _) | (with_reducible refine Below.alloc ?_ ?_ _) | (with_reducible refine Below.drew ?_) | (with_reducible refine below_drewN ?_ _) | (with_reducible exact Below.refl _ _) | (show _ ≤ _; (try simp); (try omega); done) | exact Below.refl _ _ | assumption)))⟩
          case measure => simp [intOf]; omega
      case b =>
        have hcc : ((S[k]'hltS).toNat : Int) = 98 := by rw [hget]; rfl
        clear hget
        clear HBY
        cases B
        · go_wp2
          go_roundw
          case rel => exact ⟨k + 1, by omega, by go_num, by rw [HALL.out]; rfl, Lib.hid (by rw [HSET.out]; exact HY.out.set 2 _), Lib.hid (HX.out.far (by simp; omega) _), Lib.hid (by have := HB.out; exact (by repeat' (first | (with_reducible assumption) | (with_reducible refine Below.setCell ?_ ?_ _) | (with_reducible refine Below.alloc ?_ ?_ _) | (with_reducible refine Below.drew ?_) | (with_reducible refine below_drewN ?_ _) | (with_reducible exact Below.refl _ _) | (show _ ≤ _; (try simp); (try omega); done) | exact Below.refl _ _ | assumption)))⟩
          case measure => simp [intOf]; omega
        · go_wp2_with (go_at_call 106; refine (rfrom_any _ _ _ _).mono ?_; rintro e w3 ⟨rfl, rfl⟩)
          go_roundw
          case rel => exact ⟨k + 1, by omega, by go_num, by rw [HALL.out]; rfl, Lib.hid (by rw [HSET.out]; exact HY.out.set 2 _), Lib.hid (HX.out.far (by simp; omega) _), Lib.hid (by have := HB.out; exact (by repeat' (first | (with_reducible assumption) | (with_reducible refine Below.setCell ?_ ?_ _) | (with_reducible refine Below.alloc ?_ ?_ _) | (with_reducible refine Below.drew ?_) | (with_reducible refine below_drewN ?_ _) | (with_reducible exact Below.refl _ _) | (show _ ≤ _; (try simp); (try omega); done) | exact Below.refl _ _ | assumption)))⟩
          case measure => simp [intOf]; omega
      case k =>
        have hcc : ((S[k]'hltS).toNat : Int) = 107 := by rw [hget]; rfl
        clear hget
        clear HBY
        cases B
        · go_wp2
          go_roundw
          case rel => exact ⟨k + 1, by omega, by go_num, by rw [HALL.out]; rfl, Lib.hid (by rw [HSET.out]; exact HY.out.set 2 _), Lib.hid (HX.out.far (by simp; omega) _), Lib.hid (by have := HB.out; exact (by repeat' (first | (with_reducible assumption) | (with_reducible refine Below.setCell ?_ ?_ _) | (with_reducible refine Below.alloc ?_ ?_ _) | (with_reducible refine Below.drew ?_) | (with_reducible refine below_drewN ?_ _) | (with_reducible exact Below.refl _ _) | (show _ ≤ _; (try simp); (try omega); done) | exact Below.refl _ _ | assumption)))⟩
          case measure => simp [intOf]; omega
        · go_wp2_with (go_at_call 106; refine (rfrom_any _ _ _ _).mono ?_; rintro e w3 ⟨rfl, rfl⟩)
          go_roundw
          case rel => exact ⟨k + 1, by omega, by go_num, by rw [HALL.out]; rfl, Lib.hid (by rw [HSET.out]; exact HY.out.set 2 _), Lib.hid (HX.out.far (by simp; omega) _), Lib.hid (by have := HB.out; exact (by repeat' (first | (with_reducible assumption) | (with_reducible refine Below.setCell ?_ ?_ _) | (with_reducible refine Below.alloc ?_ ?_ _) | (with_reducible refine Below.drew ?_) | (with_reducible refine below_drewN ?_ _) | (with_reducible exact Below.refl _ _) | (show _ ≤ _; (try simp); (try omega); done) | exact Below.refl _ _ | assumption)))⟩
          case measure => simp [intOf]; omega
      case n =>
        have hcc : ((S[k]'hltS).toNat : Int) = 110 := by rw [hget]; rfl
        clear hget
        cases B
        · clear HBY
          go_wp2
          go_roundw
          case rel => exact ⟨k + 1, by omega, by go_num, by rw [HALL.out]; rfl, Lib.hid (by rw [HSET.out]; exact HY.out.set 3 _), Lib.hid (HX.out.far (by simp; omega) _), Lib.hid (by have := HB.out; exact (by repeat' (first | (with_reducible assumption) | (with_reducible refine Below.setCell ?_ ?_ _) | (with_reducible refine Below.alloc ?_ ?_ _) | (with_reducible refine Below.drew ?_) | (with_reducible refine below_drewN ?_ _) | (with_reducible exact Below.refl _ _) | (show _ ≤ _; (try simp); (try omega); done) | exact Below.refl _ _ | assumption)))⟩
          case measure => simp [intOf]; omega
        · have hby := HBY.out rfl rfl
          clear HBY
          cases hfr : (decide (1 ≤ n) && decide (n ≤ 8))
          · have HFR := Lib.hid hfr
            clear hfr
            go_wp2_with (go_at_call 106; refine (rfrom_any _ _ _ _).mono ?_; rintro e w3 ⟨rfl, rfl⟩; rw [HFR.out])
            go_roundw
            case rel => exact ⟨k + 1, by omega, by go_num, by rw [HALL.out]; simp only [Le.fk, okF, HFR.out]; rfl, Lib.hid (by rw [HSET.out]; exact HY.out.set 3 _), Lib.hid (HX.out.far (by simp; omega) _), Lib.hid (by have := HB.out; exact (by repeat' (first | (with_reducible assumption) | (with_reducible refine Below.setCell ?_ ?_ _) | (with_reducible refine Below.alloc ?_ ?_ _) | (with_reducible refine Below.drew ?_) | (with_reducible refine below_drewN ?_ _) | (with_reducible exact Below.refl _ _) | (show _ ≤ _; (try simp); (try omega); done) | exact Below.refl _ _ | assumption)))⟩
            case measure => simp [intOf]; omega
          · have HFR := Lib.hid hfr
            have hn : 1 ≤ n ∧ n ≤ 8 := by simpa using hfr
            have hwr : IntKind.i64.wrap (b + n) = b + n := by rw [IntKind.wrap_i64]; omega
            clear hfr
            go_wp2_with (go_at_call 106; refine (rfrom_any _ _ _ _).mono ?_; rintro e w3 ⟨rfl, rfl⟩; rw [HFR.out])
            go_roundw
            case rel => exact ⟨k + 1, by omega, by go_num, by rw [HALL.out]; simp only [Le.fk, okF, HFR.out]; rfl, Lib.hid (by rw [HSET.out]; exact HY.out.set 3 _), Lib.hid (HX.out.far (by simp; omega) _), Lib.hid (by have := HB.out; exact (by repeat' (first | (with_reducible assumption) | (with_reducible refine Below.setCell ?_ ?_ _) | (with_reducible refine Below.alloc ?_ ?_ _) | (with_reducible refine Below.drew ?_) | (with_reducible refine below_drewN ?_ _) | (with_reducible exact Below.refl _ _) | (show _ ≤ _; (try simp); (try omega); done) | exact Below.refl _ _ | assumption)))⟩
            case measure => simp [intOf]; omega
      case s =>
        have hcc : ((S[k]'hltS).toNat : Int) = 115 := by rw [hget]; rfl
        clear hget
        clear HBY
        cases B
        · go_wp2
          go_roundw
          case rel => exact ⟨k + 1, by omega, by go_num, by rw [HALL.out]; rfl, Lib.hid (by rw [HSET.out]; exact HY.out.set 2 _), Lib.hid (HX.out.far (by simp; omega) _), Lib.hid (by have := HB.out; exact (by repeat' (first | (with_reducible assumption) | (with_reducible refine Below.setCell ?_ ?_ _) | (with_reducible refine Below.alloc ?_ ?_ _) | (with_reducible refine Below.drew ?_) | (with_reducible refine below_drewN ?_ _) | (with_reducible exact Below.refl _ _) | (show _ ≤ _; (try simp); (try omega); done) | exact Below.refl _ _ | assumption)))⟩
          case measure => simp [intOf]; omega
        · go_wp2_with (go_at_call 106; refine (rfrom_any _ _ _ _).mono ?_; rintro e w3 ⟨rfl, rfl⟩)
          go_roundw
          case rel => exact ⟨k + 1, by omega, by go_num, by rw [HALL.out]; rfl, Lib.hid (by rw [HSET.out]; exact HY.out.set 2 _), Lib.hid (HX.out.far (by simp; omega) _), Lib.hid (by have := HB.out; exact (by repeat' (first | (with_reducible assumption) | (with_reducible refine Below.setCell ?_ ?_ _) | (with_reducible refine Below.alloc ?_ ?_ _) | (with_reducible refine Below.drew ?_) | (with_reducible refine below_drewN ?_ _) | (with_reducible exact Below.refl _ _) | (show _ ≤ _; (try simp); (try omega); done) | exact Below.refl _ _ | assumption)))⟩
          case measure => simp [intOf]; omega
      case h =>
        have hcc : ((S[k]'hltS).toNat : Int) = 104 := by rw [hget]; rfl
        clear hget
        clear HBY
        cases B
        · go_wp2
          go_roundw
          case rel => exact ⟨k + 1, by omega, by go_num, by rw [HALL.out]; rfl, Lib.hid (by rw [HSET.out]; exact HY.out.set 3 _), Lib.hid (HX.out.far (by simp; omega) _), Lib.hid (by have := HB.out; exact (by repeat' (first | (with_reducible assumption) | (with_reducible refine Below.setCell ?_ ?_ _) | (with_reducible refine Below.alloc ?_ ?_ _) | (with_reducible refine Below.drew ?_) | (with_reducible refine below_drewN ?_ _) | (with_reducible exact Below.refl _ _) | (show _ ≤ _; (try simp); (try omega); done) | exact Below.refl _ _ | assumption)))⟩
          case measure => simp [intOf]; omega
        · go_wp2_with (go_at_call 106; refine (rfrom_any _ _ _ _).mono ?_; rintro e w3 ⟨rfl, rfl⟩)
          go_roundw
          case rel => exact ⟨k + 1, by omega, by go_num, by rw [HALL.out]; rfl, Lib.hid (by rw [HSET.out]; exact HY.out.set 3 _), Lib.hid (HX.out.far (by simp; omega) _), Lib.hid (by have := HB.out; exact (by repeat' (first | (with_reducible assumption) | (with_reducible refine Below.setCell ?_ ?_ _) | (with_reducible refine Below.alloc ?_ ?_ _) | (with_reducible refine Below.drew ?_) | (with_reducible refine below_drewN ?_ _) | (with_reducible exact Below.refl _ _) | (show _ ≤ _; (try simp); (try omega); done) | exact Below.refl _ _ | assumption)))⟩
          case measure => simp [intOf]; omega
      case w =>
        have hcc : ((S[k]'hltS).toNat : Int) = 119 := by rw [hget]; rfl
        clear hget
        clear HBY
        cases B
        · go_wp2
          go_roundw
          case rel => exact ⟨k + 1, by omega, by go_num, by rw [HALL.out]; rfl, Lib.hid (by rw [HSET.out]; exact HY.out.set 3 _), Lib.hid (HX.out.far (by simp; omega) _), Lib.hid (by have := HB.out; exact (by repeat' (first | (with_reducible assumption) | (with_reducible refine Below.setCell ?_ ?_ _) | (with_reducible refine Below.alloc ?_ ?_ _) | (with_reducible refine Below.drew ?_) | (with_reducible refine below_drewN ?_ _) | (with_reducible exact Below.refl _ _) | (show _ ≤ _; (try simp); (try omega); done) | exact Below.refl _ _ | assumption)))⟩
          case measure => simp [intOf]; omega
        · go_wp2_with (go_at_call 106; refine (rfrom_any _ _ _ _).mono ?_; rintro e w3 ⟨rfl, rfl⟩)
          go_roundw
          case rel => exact ⟨k + 1, by omega, by go_num, by rw [HALL.out]; rfl, Lib.hid (by rw [HSET.out]; exact HY.out.set 3 _), Lib.hid (HX.out.far (by simp; omega) _), Lib.hid (by have := HB.out; exact (by repeat' (first | (with_reducible assumption) | (with_reducible refine Below.setCell ?_ ?_ _) | (with_reducible refine Below.alloc ?_ ?_ _) | (with_reducible refine Below.drew ?_) | (with_reducible refine below_drewN ?_ _) | (with_reducible exact Below.refl _ _) | (show _ ≤ _; (try simp); (try omega); done) | exact Below.refl _ _ | assumption)))⟩
          case measure => simp [intOf]; omega
      case j =>
        have hcc : ((S[k]'hltS).toNat : Int) = 106 := by rw [hget]; rfl
        clear hget
        clear HBY
        cases B
        · go_wp2
          go_roundw
          case rel => exact ⟨k + 1, by omega, by go_num, by rw [HALL.out]; rfl, Lib.hid (by rw [HSET.out]; exact HY.out.set 3 _), Lib.hid (HX.out.far (by simp; omega) _), Lib.hid (by have := HB.out; exact (by repeat' (first | (with_reducible assumption) | (with_reducible refine Below.setCell ?_ ?_ _) | (with_reducible refine Below.alloc ?_ ?_ _) | (with_reducible refine Below.drew ?_) | (with_reducible refine below_drewN ?_ _) | (with_reducible exact Below.refl _ _) | (show _ ≤ _; (try simp); (try omega); done) | exact Below.refl _ _ | assumption)))⟩
          case measure => simp [intOf]; omega
        · go_wp2_with (go_at_call 106; refine (rfrom_any _ _ _ _).mono ?_; rintro e w3 ⟨rfl, rfl⟩)
          go_roundw
          case rel => exact ⟨k + 1, by omega, by go_num, by rw [HALL.out]; rfl, Lib.hid (by rw [HSET.out]; exact HY.out.set 3 _), Lib.hid (HX.out.far (by simp; omega) _), Lib.hid (by have := HB.out; exact (by repeat' (first | (with_reducible assumption) | (with_reducible refine Below.setCell ?_ ?_ _) | (with_reducible refine Below.alloc ?_ ?_ _) | (with_reducible refine Below.drew ?_) | (with_reducible refine below_drewN ?_ _) | (with_reducible exact Below.refl _ _) | (show _ ≤ _; (try simp); (try omega); done) | exact Below.refl _ _ | assumption)))⟩
          case measure => simp [intOf]; omega
      case i =>
        have hcc : ((S[k]'hltS).toNat : Int) = 105 := by rw [hget]; rfl
        clear hget
        clear HBY
        cases B
        · go_wp2
          go_roundw
          case rel => exact ⟨k + 1, by omega, by go_num, by rw [HALL.out]; rfl, Lib.hid (by rw [HSET.out]; exact HY.out.set 4 _), Lib.hid (HX.out.far (by simp; omega) _), Lib.hid (by have := HB.out; exact (by repeat' (first | (with_reducible assumption) | (with_reducible refine Below.setCell ?_ ?_ _) | (with_reducible refine Below.alloc ?_ ?_ _) | (with_reducible refine Below.drew ?_) | (with_reducible refine below_drewN ?_ _) | (with_reducible exact Below.refl _ _) | (show _ ≤ _; (try simp); (try omega); done) | exact Below.refl _ _ | assumption)))⟩
          case measure => simp [intOf]; omega
        · go_wp2
          go_roundw
          case rel => exact ⟨k + 1, by omega, by go_num, by rw [HALL.out]; rfl, Lib.hid (by rw [HSET.out]; exact HY.out.set 4 _), Lib.hid (HX.out.far (by simp; omega) _), Lib.hid (by have := HB.out; exact (by repeat' (first | (with_reducible assumption) | (with_reducible refine Below.setCell ?_ ?_ _) | (with_reducible refine Below.alloc ?_ ?_ _) | (with_reducible refine Below.drew ?_) | (with_reducible refine below_drewN ?_ _) | (with_reducible exact Below.refl _ _) | (show _ ≤ _; (try simp); (try omega); done) | exact Below.refl _ _ | assumption)))⟩
          case measure => simp [intOf]; omega
      case g =>
        have hcc : ((S[k]'hltS).toNat : Int) = 103 := by rw [hget]; rfl
        clear hget
        clear HBY
        cases B
        · go_wp2
          go_roundw
          case rel => exact ⟨k + 1, by omega, by go_num, by rw [HALL.out]; rfl, Lib.hid (by rw [HSET.out]; exact HY.out.set 4 _), Lib.hid (HX.out.far (by simp; omega) _), Lib.hid (by have := HB.out; exact (by repeat' (first | (with_reducible assumption) | (with_reducible refine Below.setCell ?_ ?_ _) | (with_reducible refine Below.alloc ?_ ?_ _) | (with_reducible refine Below.drew ?_) | (with_reducible refine below_drewN ?_ _) | (with_reducible exact Below.refl _ _) | (show _ ≤ _; (try simp); (try omega); done) | exact Below.refl _ _ | assumption)))⟩
          case measure => simp [intOf]; omega
        · go_wp2
          go_roundw
          case rel => exact ⟨k + 1, by omega, by go_num, by rw [HALL.out]; rfl, Lib.hid (by rw [HSET.out]; exact HY.out.set 4 _), Lib.hid (HX.out.far (by simp; omega) _), Lib.hid (by have := HB.out; exact (by repeat' (first | (with_reducible assumption) | (with_reducible refine Below.setCell ?_ ?_ _) | (with_reducible refine Below.alloc ?_ ?_ _) | (with_reducible refine Below.drew ?_) | (with_reducible refine below_drewN ?_ _) | (with_reducible exact Below.refl _ _) | (show _ ≤ _; (try simp); (try omega); done) | exact Below.refl _ _ | assumption)))⟩
          case measure => simp [intOf]; omega
    · obtain rfl : k = ls.length := by omega
      have hft : fs.take ls.length = fs := List.take_of_length_le (by rw [HFL.out]; exact Nat.le_refl _)
      rw [hft] at HY
      rw [hft]
      have hdec : decide ((ls.length : Int) < (S.size : Int)) = false := by rw [HSZ.out]; simp
      have hdec2 : decide (ls.length < S.size) = false := by rw [HSZ.out]; simp
      have hdec3 : S.size ≤ ls.length := by rw [HSZ.out]; exact Nat.le_refl _
      generalize fs.all (okF · ⟨op, a, b, n, imm⟩) = B at *
      generalize hY : setAll fs ⟨op, a, b, n, imm⟩ (zero op) = Y at *
      obtain ⟨y0, y1, y2, y3, y4⟩ := Y
      clear hY hft
      have q0 : wr.cell? ⟨w1.heap.size, 0, none⟩ = some (.int .i64 y0) := HY.out.cell 0
      have q1 : wr.cell? ⟨w1.heap.size, 1, none⟩ = some (.int .i64 y1) := HY.out.cell 1
      have q2 : wr.cell? ⟨w1.heap.size, 2, none⟩ = some (.int .i64 y2) := HY.out.cell 2
      have q3 : wr.cell? ⟨w1.heap.size, 3, none⟩ = some (.int .i64 y3) := HY.out.cell 3
      have q4 : wr.cell? ⟨w1.heap.size, 4, none⟩ = some (.int .u64 y4) := HY.out.cell 4
      cases B
      · have HR20 : Hid (R = false) := HR
        clear HR
        go_wp2
        go_ret
        exact ⟨by rw [HN.out, HR20.out]; rfl, HB.out⟩
      · obtain ⟨D, hD⟩ : ∃ D, D = decide ((⟨op, a, b, n, imm⟩ : Ins) = ⟨y0, y1, y2, y3, y4⟩) := ⟨_, rfl⟩
        have heq : ∀ W, (binOp .neq 25 (.agg #[.int .i64 op, .int .i64 a, .int .i64 b, .int .i64 n, .int .u64 imm]) (.agg #[.int .i64 y0, .int .i64 y1, .int .i64 y2, .int .i64 y3, .int .u64 y4])).run Tryz.prog W = .ok (.bool (!D)) W := fun W => by rw [hD]; exact neq_ins2 ⟨op, a, b, n, imm⟩ ⟨y0, y1, y2, y3, y4⟩ W
        have HRD : Hid (R = D) := Lib.hid (by rw [HR.out, hD, Bool.true_and]; congr 1; exact propext ⟨fun h => h.symm, fun h => h.symm⟩)
        clear hD HR
        cases D
        all_goals
          go_wp2
          (try (go_quiet (fail); go_wp2))
          go_ret
          exact ⟨by rw [HN.out, HRD.out]; rfl, by first | exact HB.out | exact Go.Bus.below_drewN HB.out _⟩
theorem rright_any {x : Ins} (hx : x.Ok) (w : World) : Calls Tryz.prog 63 #[.agg (insC x).toArray] w fun e w' => e = .returned (.int .i64 (if rightB x then 0 else 20)) ∧ Below w.heap.size w w' := by
  cases hl : lettersOf x.op with
  | none => rw [right_none hl]; exact rright_none hx w hl
  | some ls => exact rright_some hx w ls hl
end codeW
end Go.Proofs.YtbbfpbmogklomaaGreatDoor
