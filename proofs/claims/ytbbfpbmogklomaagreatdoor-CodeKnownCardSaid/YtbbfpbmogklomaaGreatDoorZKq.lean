/- Texts of this claim, one behind the other. No condition but those that each states. -/
import Derived.Test.YtbbfpbmogklomaaGreatDoorZCodeQb
import Derived.Test.YtbbfpbmogklomaaGreatDoorZCodeRs
import Derived.Test.YtbbfpbmogklomaaGreatDoorZKe

namespace Go.Proofs.YtbbfpbmogklomaaGreatDoor
open Go.RowKit Go.Bus Go.Bus.cellK Go.Bus.codeK
set_option linter.unusedVariables false
set_option linter.unusedSimpArgs false
namespace codeW
theorem textOf_ne (ls : List Le) : ((textOf ls).toList == (⟨#[63]⟩ : ByteArray).toList) = false := by
  rw [beq_eq_false_iff_ne, ByteArray.toList_eq, ByteArray.toList_eq]
  intro e
  have h1 : ls.map Le.c = [63] := by simpa [textOf] using e
  cases ls with
  | nil => simp at h1
  | cons y t => simp only [List.map_cons, List.cons.injEq] at h1; cases y <;> exact absurd h1.1 (by decide)
def NumPost (bs : List Int) (p : Nat) (w : World) (e : Ending) (w' : World) : Prop :=
  w = w' ∧ match sevGo (bs.drop p) 0 0 with
  | .ok m r => e = .returned (.tuple #[.int .u64 (m : Nat), .int .i64 ((bs.length - r.length : Nat) : Int), .int .i64 0])
  | .short => e = .returned (.tuple #[.int .u64 0, .int .i64 0, .int .i64 2])
  | .form => e = .returned (.tuple #[.int .u64 0, .int .i64 0, .int .i64 4])
theorem NumPost.short {bs : List Int} {p : Nat} {w : World} (h : sevGo (bs.drop p) 0 0 = .short) : NumPost bs p w (.returned (.tuple #[.int .u64 0, .int .i64 0, .int .i64 2])) w := ⟨rfl, by rw [h]⟩
theorem NumPost.form {bs : List Int} {p : Nat} {w : World} (h : sevGo (bs.drop p) 0 0 = .form) : NumPost bs p w (.returned (.tuple #[.int .u64 0, .int .i64 0, .int .i64 4])) w := ⟨rfl, by rw [h]⟩
theorem NumPost.ok {bs r : List Int} {p m : Nat} {w : World} {i j : Int} (h : sevGo (bs.drop p) 0 0 = .ok m r) (hi : i = m) (hj : j = ((bs.length - r.length : Nat) : Int)) : NumPost bs p w (.returned (.tuple #[.int .u64 i, .int .i64 j, .int .i64 0])) w := ⟨rfl, by rw [h, hi, hj]⟩
theorem and127u8 {c : Int} (h0 : 0 ≤ c) (h1 : c < 256) : bits BinOp.and IntKind.u8 c 127 = bits BinOp.and IntKind.u64 c 127 := by
  have h : ∀ d : Fin 256, bits BinOp.and IntKind.u8 ((d.val : Nat) : Int) 127 = bits BinOp.and IntKind.u64 ((d.val : Nat) : Int) 127 := by decide +kernel
  have h2 := h ⟨c.toNat, by omega⟩
  simp only at h2
  rw [show ((c.toNat : Nat) : Int) = c from by omega] at h2
  exact h2
theorem and127w {c : Int} (h0 : 0 ≤ c) (h1 : c < 256) : IntKind.u64.wrap (bits BinOp.and IntKind.u8 c 127) = bits BinOp.and IntKind.u64 c 127 := by
  rw [and127u8 h0 h1, and127 h0 h1, IntKind.wrap_u64]; omega
set_option maxRecDepth 100000 in
set_option maxHeartbeats 1000000 in
theorem rnum_any {bs : List Int} {v : Value} {B : Nat} (p : Nat) (w : World) (h : Sl w B byteV v bs) (hb : ∀ c ∈ bs, Byte c) (hp : p ≤ bs.length) : Calls Tryz.prog 110 #[v, .int .i64 (p : Nat)] w (NumPost bs p w) := by
  obtain ⟨A, cap, rfl, hcap, hmax⟩ := h.form
  have HS := Lib.hid h; clear h
  have HBY := Lib.hid hb; clear hb
  unfold maxLen at hmax
  go_enter Tryz.func110, Tryz.ntmps110
  go_wp2
  go_loop [7, 8] (fun v i => ∃ k u : Nat, k ≤ 9 ∧ i = .int .i64 (k : Nat) ∧ v = .int .u64 (u : Nat) ∧ Hid (u < 128 ^ k) ∧ p + k ≤ bs.length ∧ Hid (sevGo (bs.drop p) 0 0 = sevGo (bs.drop (p + k)) k u)) (fun _ i => 10 - (intOf i).toNat)
  case atStart => exact ⟨0, 0, by omega, rfl, rfl, Lib.hid (by decide), hp, Lib.hid rfl⟩
  case round =>
    obtain ⟨k, u, hk, rfl, rfl, HU, hpk, HE⟩ := hrel
    have d0 : decide ((k : Int) < 10) = true := by simp; omega
    by_cases hlt : p + k < bs.length
    · obtain ⟨b, off, rfl, hbo, hc⟩ := HS.out.at_ hlt
      obtain ⟨c, hcE⟩ : ∃ c, c = bs[p + k] := ⟨_, rfl⟩
      rw [← hcE] at hc
      unfold byteV at hc
      have hcb : Byte c := by rw [hcE]; exact HBY.out _ (List.getElem_mem hlt)
      obtain ⟨hc0, hc1⟩ := hcb
      have HDR : Hid (bs.drop (p + k) = c :: bs.drop (p + (k + 1))) := Lib.hid (by rw [List.drop_eq_getElem_cons hlt, ← hcE]; rfl)
      clear hcE
      have d1 : decide ((bs.length : Int) ≤ (p : Int) + (k : Int)) = false := by simp; omega
      have t1 : ((p : Int) + (k : Int)).toNat = p + k := by omega
      by_cases hf : k = 9 ∧ 1 < c
      · have HF : Hid (sevGo (bs.drop p) 0 0 = .form) := Lib.hid (by rw [HE.out, HDR.out, sevGo, if_pos (.inl hf)])
        obtain ⟨rfl, h2⟩ := hf
        have d3 : decide (1 < c) = true := by simpa using h2
        go_wp2
        go_ret3
        exact NumPost.form HF.out
      · by_cases h128 : c < 128
        · have d4 : decide (c < 128) = true := by simpa using h128
          by_cases hz : c = 0 ∧ 0 < k
          · have HF : Hid (sevGo (bs.drop p) 0 0 = .form) := Lib.hid (by rw [HE.out, HDR.out, sevGo, if_pos (.inr hz)])
            obtain ⟨rfl, h2⟩ := hz
            have d3 : decide (0 < (k : Int)) = true := by simp; omega
            have d3' : decide (0 < k) = true := by simp; omega
            rcases (by omega : k = 9 ∨ k ≠ 9) with h9 | h9
            · subst h9
              go_wp2
              go_ret3
              exact NumPost.form HF.out
            · have e9 : ((k : Int) == 9) = false := by simp; omega
              clear h9
              go_wp2
              go_ret3
              exact NumPost.form HF.out
          · have hor := (or_sev hc0 hc1 hk (fun h9 => by have : ¬ 1 < c := fun h => hf ⟨h9, h⟩; omega) HU.out).1
            rw [← and127w hc0 hc1, show c % 128 = c from by omega] at hor
            have HOR := Lib.hid hor
            have HF : Hid (sevGo (bs.drop p) 0 0 = .ok (u + c.toNat * 128 ^ k) (bs.drop (p + (k + 1)))) := Lib.hid (by rw [HE.out, HDR.out, sevGo, if_neg (fun h => h.elim hf hz), if_pos h128])
            have HNX : Hid ((p : Int) + (k : Int) + 1 = ((bs.length - (bs.drop (p + (k + 1))).length : Nat) : Int)) := Lib.hid (by rw [List.length_drop]; omega)
            clear hor
            rcases (by omega : k = 9 ∨ k ≠ 9) with h9 | h9
            · have hc1' : c = 1 := by
                have h1 : ¬ 1 < c := fun h => hf ⟨h9, h⟩
                have h2 : c ≠ 0 := fun h => hz ⟨h, by omega⟩
                omega
              have e9 : ((k : Int) == 9) = true := by simp; omega
              have d5 : decide (1 < c) = false := by simp; omega
              have ec : (c == 0) = false := by simp; omega
              clear hf hz h9 hc1'
              go_wp2
              go_ret3
              exact NumPost.ok HF.out HOR.out HNX.out
            · have e9 : ((k : Int) == 9) = false := by simp; omega
              clear hf
              by_cases hc00 : c = 0
              · have hk0 : k = 0 := by
                  rcases Nat.eq_zero_or_pos k with h | h
                  · exact h
                  · exact absurd ⟨hc00, h⟩ hz
                have ec : (c == 0) = true := by simpa using hc00
                have dk : decide (0 < (k : Int)) = false := by simp; omega
                have dk' : decide (0 < k) = false := by simp; omega
                clear hz h9 hc00 hk0
                go_wp2
                go_ret3
                exact NumPost.ok HF.out HOR.out HNX.out
              · have ec : (c == 0) = false := by simpa using hc00
                clear hz h9 hc00
                go_wp2
                go_ret3
                exact NumPost.ok HF.out HOR.out HNX.out
        · have hk8 : k ≤ 8 := by
            have : ¬ k = 9 := fun h => hf ⟨h, by omega⟩
            omega
          have hor := or_sev hc0 hc1 hk (fun h9 => by omega) HU.out
          rw [← and127w hc0 hc1, show (c % 128).toNat = c.toNat - 128 from by omega] at hor
          have HOR := Lib.hid hor.1
          have HU1 := Lib.hid hor.2
          have HN : Hid (sevGo (bs.drop p) 0 0 = sevGo (bs.drop (p + (k + 1))) (k + 1) (u + (c.toNat - 128) * 128 ^ k)) := Lib.hid (by rw [HE.out, HDR.out, sevGo, if_neg (by rintro (h | h) <;> omega), if_neg h128])
          have e9 : ((k : Int) == 9) = false := by simp; omega
          have d4 : decide (c < 128) = false := by simpa using h128
          clear hor hf h128
          go_wp2
          go_round
          case rel => exact ⟨k + 1, _, by omega, by go_num, congrArg (Value.int .u64) HOR.out, HU1, by omega, HN⟩
          case measure => simp [intOf]; omega
    · have HF : Hid (sevGo (bs.drop p) 0 0 = .short) := Lib.hid (by rw [HE.out, List.drop_of_length_le (by omega), sevGo])
      have d1 : decide ((bs.length : Int) ≤ (p : Int) + (k : Int)) = true := by simp; omega
      go_wp2
      go_ret3
      exact NumPost.short HF.out
end codeW
end Go.Proofs.YtbbfpbmogklomaaGreatDoor

namespace Go.Bus
open Go.RowKit
set_option linter.unusedSimpArgs false
variable {P : Program} {w : World} {g T p ty u1 u2 u3 : Nat} {cs cs' : Array Value} {d : TypeDesc} {fn : Func} {tmps : Array Value}
theorem results_block4 (h : fn.results = #[.cell p ty, .tmp u1, .tmp u2, .tmp u3]) (ht : tmps.getD p undef = .pointer (some ⟨g, 0, none⟩)) (hg : Has w g T cs) (hcs : cs = cs') (hu : P.underlying ty = some d) (hd : d.isRow = true) (hi : (P.info? ty).map (·.size) = some cs'.size) :
    (results fn tmps).run P w = .ok (.tuple #[.agg cs', tmps.getD u1 undef, tmps.getD u2 undef, tmps.getD u3 undef]) w := by
  subst hcs
  have hl := load_has (P := P) hg hu hd hi
  rw [Array.getD_eq_getD_getElem?] at ht
  simp only [results, h]
  simp [Sem.run_bind, Result.andThen, ht, asAddr, hl]
end Go.Bus
namespace Go.Proofs.YtbbfpbmogklomaaGreatDoor
open Go.RowKit Go.Bus Go.Bus.cellK Go.Bus.codeK
set_option linter.unusedVariables false
set_option linter.unusedSimpArgs false
namespace codeW
/-- What one answers. -/
def oneV (L : Nat) (z : Except (Int × Nat) (List Int × Ins)) : Value :=
  match z with
  | .error (no, k) => .tuple #[.agg #[.int .i64 0, .int .i64 0, .int .i64 0, .int .i64 0, .int .u64 0], .int .i64 0, .int .i64 no, .int .i64 (k : Nat)]
  | .ok (r, x) => .tuple #[.agg (insC x).toArray, .int .i64 ((L - r.length : Nat) : Int), .int .i64 0, .int .i64 (-1)]
def OnePost (bs : List Int) (p : Nat) (c : Int) (w : World) (e : Ending) (w' : World) : Prop := e = .returned (oneV bs.length (oneR bs.length c (bs.drop (p + 1)))) ∧ Below w.heap.size w w'
theorem OnePost.bad {bs : List Int} {p k : Nat} {c no i : Int} {w w' : World} (h : oneR bs.length c (bs.drop (p + 1)) = .error (no, k)) (hi : i = k) (hb : Below w.heap.size w w') : OnePost bs p c w (.returned (.tuple #[.agg #[.int .i64 0, .int .i64 0, .int .i64 0, .int .i64 0, .int .u64 0], .int .i64 0, .int .i64 no, .int .i64 i])) w' := ⟨by rw [h, hi]; rfl, hb⟩
theorem has_eq {w : World} {g T : Nat} {cs cs' : Array Value} (h : Has w g T cs) (e : cs = cs') : Has w g T cs' := by subst e; exact h
theorem one_err {L p : Nat} {c : Int} {r : List Int} {ls : List Le} {e : Int × Nat} (hl : lettersOf c = some ls) (h : rdAllR L ls r (zero c) = .error e) : oneR L c r = .error e := by unfold oneR; rw [hl]; simp only []; rw [h]; rfl
theorem rdAllR_cons (L : Nat) (f : Le) (fs : List Le) (l : List Int) (x : Ins) : rdAllR L (f :: fs) l x = match rdR f l x with | .short => .error (2, L) | .form => .error (4, L - l.length) | .got r y => rdAllR L fs r y := rfl
set_option maxRecDepth 100000 in
set_option maxHeartbeats 4000000 in
theorem rone_none {bs : List Int} {v : Value} (p : Nat) (w : World) (h : Sl w w.heap.size byteV v bs) (hb : ∀ c ∈ bs, Byte c) (hp : p < bs.length) (hl : lettersOf bs[p] = none) : Calls Tryz.prog 73 #[v, .int .i64 (p : Nat)] w (OnePost bs p bs[p] w) := by
  obtain ⟨A, cap, rfl, hcap, hmax⟩ := h.form
  obtain ⟨b, off, rfl, hbo, hc⟩ := h.at_ hp
  have hcb := hb _ (List.getElem_mem hp)
  obtain ⟨c, hcE⟩ : ∃ c, c = bs[p] := ⟨_, rfl⟩
  rw [← hcE] at hc hcb hl ⊢
  unfold byteV at hc
  obtain ⟨hc0, hc1⟩ := hcb
  unfold maxLen at hmax
  have HE : Hid (oneR bs.length c (bs.drop (p + 1)) = .error (20, p)) := Lib.hid (by unfold oneR; rw [hl]; simp only []; rw [List.length_drop]; congr 2; omega)
  have hf : fldTxt c = ⟨#[63]⟩ := by unfold fldTxt; rw [hl]
  have HF := Lib.hid (fun (W : World) => rfields_any c W)
  rw [hf] at HF
  clear hl hf hcE h hb
  go_enter Tryz.func73, Tryz.ntmps73
  go_wp2_with (go_at_call 65; refine (HF.out _).mono ?_; rintro e w1 ⟨rfl, hb⟩; have hr1 : Has w1 w.heap.size 25 #[.int .i64 0, .int .i64 0, .int .i64 0, .int .i64 0, .int .u64 0] := ((Has.new w _ _).alloc _).below hb (by simp; omega); have z1 : w.heap.size < w1.heap.size := hr1.lt; have k0 : w1.cell? ⟨w.heap.size, 0, none⟩ = some (.int .i64 0) := hr1.cell 0; have k1 : w1.cell? ⟨w.heap.size, 1, none⟩ = some (.int .i64 0) := hr1.cell 1; have k2 : w1.cell? ⟨w.heap.size, 2, none⟩ = some (.int .i64 0) := hr1.cell 2; have k3 : w1.cell? ⟨w.heap.size, 3, none⟩ = some (.int .i64 0) := hr1.cell 3; have k4 : w1.cell? ⟨w.heap.size, 4, none⟩ = some (.int .u64 0) := hr1.cell 4; have f0 : w1.frozen? ⟨w.heap.size, 0, none⟩ = false := hr1.frozen 0; have f1 : w1.frozen? ⟨w.heap.size, 1, none⟩ = false := hr1.frozen 1; have f2 : w1.frozen? ⟨w.heap.size, 2, none⟩ = false := hr1.frozen 2; have f3 : w1.frozen? ⟨w.heap.size, 3, none⟩ = false := hr1.frozen 3; have f4 : w1.frozen? ⟨w.heap.size, 4, none⟩ = false := hr1.frozen 4; have HR1 := Lib.hid hr1; have HB1 : Hid (Below w.heap.size w w1) := Lib.hid ((((Below.refl _ _).alloc (Nat.le_refl _) _).alloc (by simp) _).trans (hb.mono (by simp; omega))); clear hb hr1)
  refine bodyPost_ret (results_block4 (g := w.heap.size) (T := 25) rfl rfl (by exact ((((HR1.out.set 0 _).set 1 _).set 2 _).set 3 _).set 4 _) rfl Tryz.underlying25 rfl (by kernel_rfl)) rfl ?_
  exact OnePost.bad HE.out rfl (by have hB := HB1.out; exact (by repeat' (first | (with_reducible assumption) | (with_reducible refine Below.setCell ?_ ?_ _) | (with_reducible refine Below.alloc ?_ ?_ _) | (with_reducible refine Below.drew ?_) | (with_reducible refine below_drewN ?_ _) | (with_reducible exact Below.refl _ _) | (show _ ≤ _; (try simp); (try omega); done) | exact Below.refl _ _ | assumption)))
set_option maxRecDepth 100000 in
set_option maxHeartbeats 8000000 in
theorem rone_some {bs : List Int} {v : Value} (p : Nat) (w : World) (h : Sl w w.heap.size byteV v bs) (hb : ∀ c ∈ bs, Byte c) (hp : p < bs.length) (ls : List Le) (hl : lettersOf bs[p] = some ls) : Calls Tryz.prog 73 #[v, .int .i64 (p : Nat)] w (OnePost bs p bs[p] w) := by
  obtain ⟨A, cap, rfl, hcap, hmax⟩ := h.form
  obtain ⟨b, off, rfl, hbo, hc⟩ := h.at_ hp
  have hcb := hb _ (List.getElem_mem hp)
  have hlen : ls.length ≤ 4 := by have := fields_len (letters_fields hl); simpa using this
  obtain ⟨c, hcE⟩ : ∃ c, c = bs[p] := ⟨_, rfl⟩
  rw [← hcE] at hc hcb hl ⊢
  unfold byteV at hc
  have HZ := Lib.hid (zero_ok hcb)
  obtain ⟨hc0, hc1⟩ := hcb
  unfold maxLen at hmax
  have HS := Lib.hid h
  have HBY := Lib.hid hb
  have HL := Lib.hid hl
  have hf : fldTxt c = textOf ls := by unfold fldTxt; rw [hl]
  have HF := Lib.hid (fun (W : World) => rfields_any c W)
  rw [hf] at HF
  have hsz := textOf_size ls
  have HGET := Lib.hid (textOf_get ls)
  obtain ⟨S, hS⟩ : ∃ S, S = textOf ls := ⟨_, rfl⟩
  rw [← hS] at HF hsz HGET
  have HSZ := Lib.hid hsz
  have hne2 : (S.toList == (⟨#[63]⟩ : ByteArray).toList) = false := by rw [hS]; exact textOf_ne ls
  have hne3 : (S.toList == [63]) = false := by
    have h := hne2
    rw [show (⟨#[63]⟩ : ByteArray).toList = [63] from ByteArray.toList_mk [63]] at h
    exact h
  clear hl hf hcE h hb hsz hS
  go_enter Tryz.func73, Tryz.ntmps73
  go_wp2_with (go_at_call 65; refine (HF.out _).mono ?_; rintro e w1 ⟨rfl, hb⟩; have hr1 : Has w1 w.heap.size 25 #[.int .i64 0, .int .i64 0, .int .i64 0, .int .i64 0, .int .u64 0] := ((Has.new w _ _).alloc _).below hb (by simp; omega); have hx1 : Has w1 (w.heap.size + 1) 25 #[.int .i64 c, .int .i64 0, .int .i64 0, .int .i64 0, .int .u64 0] := (Has.new1 w _ _ _).below hb (by simp); have z1 : w.heap.size + 1 < w1.heap.size := hx1.lt; have HR1 := Lib.hid hr1; have HX1 := Lib.hid hx1; have HB1 : Hid (Below w.heap.size w w1) := Lib.hid ((((Below.refl _ _).alloc (Nat.le_refl _) _).alloc (by simp) _).trans (hb.mono (by simp; omega))); clear hb hr1 hx1)
  go_loopw [10, 11] (fun kv i wr => ∃ (j q : Nat) (y : Ins), j ≤ ls.length ∧ i = .int .i64 (j : Nat) ∧ kv = .int .i64 (q : Nat) ∧ p < q ∧ q ≤ bs.length ∧ Hid y.Ok ∧ Hid (Has wr (w.heap.size + 1) 25 (insC y).toArray) ∧ Hid (Has wr w.heap.size 25 #[.int .i64 0, .int .i64 0, .int .i64 0, .int .i64 0, .int .u64 0]) ∧ Hid (rdAllR bs.length ls (bs.drop (p + 1)) (zero c) = rdAllR bs.length (ls.drop j) (bs.drop q) y) ∧ Hid (Below w.heap.size w wr)) (fun _ i _ => ls.length - (intOf i).toNat)
  case atStart => exact ⟨0, p + 1, zero c, Nat.zero_le _, rfl, by first | rfl | go_num, by omega, hp, HZ, HX1, HR1, Lib.hid rfl, HB1⟩
  case round =>
    obtain ⟨j, q, y, hj, rfl, rfl, hpq, hq, HY, HX, HR, HE, HB⟩ := hrel
    clear HX1 HR1 HB1 HZ
    have zX : w.heap.size + 1 < wr.heap.size := HX.out.lt
    have k0 : wr.cell? ⟨w.heap.size, 0, none⟩ = some (.int .i64 0) := HR.out.cell 0
    have k1 : wr.cell? ⟨w.heap.size, 1, none⟩ = some (.int .i64 0) := HR.out.cell 1
    have k2 : wr.cell? ⟨w.heap.size, 2, none⟩ = some (.int .i64 0) := HR.out.cell 2
    have k3 : wr.cell? ⟨w.heap.size, 3, none⟩ = some (.int .i64 0) := HR.out.cell 3
    have k4 : wr.cell? ⟨w.heap.size, 4, none⟩ = some (.int .u64 0) := HR.out.cell 4
    have f0 : wr.frozen? ⟨w.heap.size, 0, none⟩ = false := HR.out.frozen 0
    have f1 : wr.frozen? ⟨w.heap.size, 1, none⟩ = false := HR.out.frozen 1
    have f2 : wr.frozen? ⟨w.heap.size, 2, none⟩ = false := HR.out.frozen 2
    have f3 : wr.frozen? ⟨w.heap.size, 3, none⟩ = false := HR.out.frozen 3
    have f4 : wr.frozen? ⟨w.heap.size, 4, none⟩ = false := HR.out.frozen 4
    have r1 : wr.frozen? ⟨w.heap.size + 1, 1, none⟩ = false := HX.out.frozen 1
    have r2 : wr.frozen? ⟨w.heap.size + 1, 2, none⟩ = false := HX.out.frozen 2
    have r3 : wr.frozen? ⟨w.heap.size + 1, 3, none⟩ = false := HX.out.frozen 3
    have r4 : wr.frozen? ⟨w.heap.size + 1, 4, none⟩ = false := HX.out.frozen 4
    have HSr := Lib.hid (HS.out.below HB.out)
    obtain ⟨y0, y1, y2, y3, y4⟩ := y
    have q0 : wr.cell? ⟨w.heap.size + 1, 0, none⟩ = some (.int .i64 y0) := HX.out.cell 0
    have q1 : wr.cell? ⟨w.heap.size + 1, 1, none⟩ = some (.int .i64 y1) := HX.out.cell 1
    have q2 : wr.cell? ⟨w.heap.size + 1, 2, none⟩ = some (.int .i64 y2) := HX.out.cell 2
    have q3 : wr.cell? ⟨w.heap.size + 1, 3, none⟩ = some (.int .i64 y3) := HX.out.cell 3
    have q4 : wr.cell? ⟨w.heap.size + 1, 4, none⟩ = some (.int .u64 y4) := HX.out.cell 4
    by_cases hlt : j < ls.length
    · have hltS : j < S.size := by rw [HSZ.out]; exact hlt
      have hget := HGET.out j hltS hlt
      have HDR : Hid (ls.drop j = ls[j] :: ls.drop (j + 1)) := Lib.hid (List.drop_eq_getElem_cons hlt)
      have HBq : Hid (∀ d ∈ bs.drop q, Byte d) := Lib.hid (fun d hd => HBY.out d (List.mem_of_mem_drop hd))
      have HNUM := Lib.hid (rnum_any (bs := bs) q wr HSr.out HBY.out hq)
      have HLQ : Hid (bs.length - (bs.drop q).length = q) := Lib.hid (by rw [List.length_drop]; omega)
      cases hle : ls[j] <;> rw [hle] at HDR hget <;> clear hle
      case a =>
        have hcc : ((S[j]'hltS).toNat : Int) = 97 := by rw [hget]; rfl
        clear hget
        clear HNUM HLQ
        by_cases hlq : q < bs.length
        · obtain ⟨b', off', hA, hbo', hd⟩ := HSr.out.at_ hlq
          obtain ⟨rfl, rfl⟩ : b = b' ∧ off = off' := by simpa using hA
          obtain ⟨d, hdE⟩ : ∃ d, d = bs[q] := ⟨_, rfl⟩
          rw [← hdE] at hd
          unfold byteV at hd
          have hdb : Byte d := by rw [hdE]; exact HBY.out _ (List.getElem_mem hlq)
          obtain ⟨hd0, hd1⟩ := hdb
          have HEN : Hid (rdAllR bs.length ls (bs.drop (p + 1)) (zero c) = rdAllR bs.length (ls.drop (j + 1)) (bs.drop (q + 1)) ((⟨y0, y1, y2, y3, y4⟩ : Ins).put .A d)) := Lib.hid (by rw [HE.out, HDR.out, rdAllR_cons, List.drop_eq_getElem_cons hlq, ← hdE]; rfl)
          have HYN : Hid ((⟨y0, y1, y2, y3, y4⟩ : Ins).put .A d).Ok := Lib.hid (put_ok HY.out (by omega) (by omega) (fun _ => by omega))
          have zb : b < wr.heap.size := by have : b < w.heap.size := hbo; omega
          clear hdE hA hbo'
          go_wp2
          go_roundw
          case rel => exact ⟨j + 1, q + 1, _, by omega, by go_num, by go_num, by omega, by omega, HYN, Lib.hid (by exact HX.out.set 1 _), Lib.hid (HR.out.far (by simp) _), HEN, Lib.hid (by have := HB.out; exact (by repeat' (first | (with_reducible assumption) | (with_reducible refine Below.setCell ?_ ?_ _) | (with_reducible refine Below.alloc ?_ ?_ _) | (with_reducible refine Below.drew ?_) | (with_reducible refine below_drewN ?_ _) | (with_reducible exact Below.refl _ _) | (show _ ≤ _; (try simp); (try omega); done) | exact Below.refl _ _ | assumption)))⟩
          case measure => simp [intOf]; omega
        · have HERR : Hid (oneR bs.length c (bs.drop (p + 1)) = .error (2, bs.length)) := Lib.hid (one_err (p := p) HL.out (by rw [HE.out, HDR.out, rdAllR_cons, List.drop_of_length_le (by omega)]; rfl))
          have hge : bs.length ≤ q := by omega
          clear hlq
          go_wp2
          refine bodyPost_ret (results_block4 (g := w.heap.size) (T := 25) rfl rfl (by exact ((((HR.out.set 0 _).set 1 _).set 2 _).set 3 _).set 4 _) rfl Tryz.underlying25 rfl (by kernel_rfl)) rfl ?_
          exact OnePost.bad HERR.out rfl (by have hB := HB.out; exact (by repeat' (first | (with_reducible assumption) | (with_reducible refine Below.setCell ?_ ?_ _) | (with_reducible refine Below.alloc ?_ ?_ _) | (with_reducible refine Below.drew ?_) | (with_reducible refine below_drewN ?_ _) | (with_reducible exact Below.refl _ _) | (show _ ≤ _; (try simp); (try omega); done) | exact Below.refl _ _ | assumption)))
      case b =>
        have hcc : ((S[j]'hltS).toNat : Int) = 98 := by rw [hget]; rfl
        clear hget
        clear HNUM HLQ
        by_cases hlq : q < bs.length
        · obtain ⟨b', off', hA, hbo', hd⟩ := HSr.out.at_ hlq
          obtain ⟨rfl, rfl⟩ : b = b' ∧ off = off' := by simpa using hA
          obtain ⟨d, hdE⟩ : ∃ d, d = bs[q] := ⟨_, rfl⟩
          rw [← hdE] at hd
          unfold byteV at hd
          have hdb : Byte d := by rw [hdE]; exact HBY.out _ (List.getElem_mem hlq)
          obtain ⟨hd0, hd1⟩ := hdb
          have HEN : Hid (rdAllR bs.length ls (bs.drop (p + 1)) (zero c) = rdAllR bs.length (ls.drop (j + 1)) (bs.drop (q + 1)) ((⟨y0, y1, y2, y3, y4⟩ : Ins).put .B d)) := Lib.hid (by rw [HE.out, HDR.out, rdAllR_cons, List.drop_eq_getElem_cons hlq, ← hdE]; rfl)
          have HYN : Hid ((⟨y0, y1, y2, y3, y4⟩ : Ins).put .B d).Ok := Lib.hid (put_ok HY.out (by omega) (by omega) (fun _ => by omega))
          have zb : b < wr.heap.size := by have : b < w.heap.size := hbo; omega
          clear hdE hA hbo'
          go_wp2
          go_roundw
          case rel => exact ⟨j + 1, q + 1, _, by omega, by go_num, by go_num, by omega, by omega, HYN, Lib.hid (by exact HX.out.set 2 _), Lib.hid (HR.out.far (by simp) _), HEN, Lib.hid (by have := HB.out; exact (by repeat' (first | (with_reducible assumption) | (with_reducible refine Below.setCell ?_ ?_ _) | (with_reducible refine Below.alloc ?_ ?_ _) | (with_reducible refine Below.drew ?_) | (with_reducible refine below_drewN ?_ _) | (with_reducible exact Below.refl _ _) | (show _ ≤ _; (try simp); (try omega); done) | exact Below.refl _ _ | assumption)))⟩
          case measure => simp [intOf]; omega
        · have HERR : Hid (oneR bs.length c (bs.drop (p + 1)) = .error (2, bs.length)) := Lib.hid (one_err (p := p) HL.out (by rw [HE.out, HDR.out, rdAllR_cons, List.drop_of_length_le (by omega)]; rfl))
          have hge : bs.length ≤ q := by omega
          clear hlq
          go_wp2
          refine bodyPost_ret (results_block4 (g := w.heap.size) (T := 25) rfl rfl (by exact ((((HR.out.set 0 _).set 1 _).set 2 _).set 3 _).set 4 _) rfl Tryz.underlying25 rfl (by kernel_rfl)) rfl ?_
          exact OnePost.bad HERR.out rfl (by have hB := HB.out; exact (by repeat' (first | (with_reducible assumption) | (with_reducible refine Below.setCell ?_ ?_ _) | (with_reducible refine Below.alloc ?_ ?_ _) | (with_reducible refine Below.drew ?_) | (with_reducible refine below_drewN ?_ _) | (with_reducible exact Below.refl _ _) | (show _ ≤ _; (try simp); (try omega); done) | exact Below.refl _ _ | assumption)))
      case k =>
        have hcc : ((S[j]'hltS).toNat : Int) = 107 := by rw [hget]; rfl
        clear hget
        clear HNUM HLQ
        by_cases hlq : q < bs.length
        · obtain ⟨b', off', hA, hbo', hd⟩ := HSr.out.at_ hlq
          obtain ⟨rfl, rfl⟩ : b = b' ∧ off = off' := by simpa using hA
          obtain ⟨d, hdE⟩ : ∃ d, d = bs[q] := ⟨_, rfl⟩
          rw [← hdE] at hd
          unfold byteV at hd
          have hdb : Byte d := by rw [hdE]; exact HBY.out _ (List.getElem_mem hlq)
          obtain ⟨hd0, hd1⟩ := hdb
          have HEN : Hid (rdAllR bs.length ls (bs.drop (p + 1)) (zero c) = rdAllR bs.length (ls.drop (j + 1)) (bs.drop (q + 1)) ((⟨y0, y1, y2, y3, y4⟩ : Ins).put .B d)) := Lib.hid (by rw [HE.out, HDR.out, rdAllR_cons, List.drop_eq_getElem_cons hlq, ← hdE]; rfl)
          have HYN : Hid ((⟨y0, y1, y2, y3, y4⟩ : Ins).put .B d).Ok := Lib.hid (put_ok HY.out (by omega) (by omega) (fun _ => by omega))
          have zb : b < wr.heap.size := by have : b < w.heap.size := hbo; omega
          clear hdE hA hbo'
          go_wp2
          go_roundw
          case rel => exact ⟨j + 1, q + 1, _, by omega, by go_num, by go_num, by omega, by omega, HYN, Lib.hid (by exact HX.out.set 2 _), Lib.hid (HR.out.far (by simp) _), HEN, Lib.hid (by have := HB.out; exact (by repeat' (first | (with_reducible assumption) | (with_reducible refine Below.setCell ?_ ?_ _) | (with_reducible refine Below.alloc ?_ ?_ _) | (with_reducible refine Below.drew ?_) | (with_reducible refine below_drewN ?_ _) | (with_reducible exact Below.refl _ _) | (show _ ≤ _; (try simp); (try omega); done) | exact Below.refl _ _ | assumption)))⟩
          case measure => simp [intOf]; omega
        · have HERR : Hid (oneR bs.length c (bs.drop (p + 1)) = .error (2, bs.length)) := Lib.hid (one_err (p := p) HL.out (by rw [HE.out, HDR.out, rdAllR_cons, List.drop_of_length_le (by omega)]; rfl))
          have hge : bs.length ≤ q := by omega
          clear hlq
          go_wp2
          refine bodyPost_ret (results_block4 (g := w.heap.size) (T := 25) rfl rfl (by exact ((((HR.out.set 0 _).set 1 _).set 2 _).set 3 _).set 4 _) rfl Tryz.underlying25 rfl (by kernel_rfl)) rfl ?_
          exact OnePost.bad HERR.out rfl (by have hB := HB.out; exact (by repeat' (first | (with_reducible assumption) | (with_reducible refine Below.setCell ?_ ?_ _) | (with_reducible refine Below.alloc ?_ ?_ _) | (with_reducible refine Below.drew ?_) | (with_reducible refine below_drewN ?_ _) | (with_reducible exact Below.refl _ _) | (show _ ≤ _; (try simp); (try omega); done) | exact Below.refl _ _ | assumption)))
      case n =>
        have hcc : ((S[j]'hltS).toNat : Int) = 110 := by rw [hget]; rfl
        clear hget
        clear HNUM HLQ
        by_cases hlq : q < bs.length
        · obtain ⟨b', off', hA, hbo', hd⟩ := HSr.out.at_ hlq
          obtain ⟨rfl, rfl⟩ : b = b' ∧ off = off' := by simpa using hA
          obtain ⟨d, hdE⟩ : ∃ d, d = bs[q] := ⟨_, rfl⟩
          rw [← hdE] at hd
          unfold byteV at hd
          have hdb : Byte d := by rw [hdE]; exact HBY.out _ (List.getElem_mem hlq)
          obtain ⟨hd0, hd1⟩ := hdb
          have HEN : Hid (rdAllR bs.length ls (bs.drop (p + 1)) (zero c) = rdAllR bs.length (ls.drop (j + 1)) (bs.drop (q + 1)) ((⟨y0, y1, y2, y3, y4⟩ : Ins).put .N d)) := Lib.hid (by rw [HE.out, HDR.out, rdAllR_cons, List.drop_eq_getElem_cons hlq, ← hdE]; rfl)
          have HYN : Hid ((⟨y0, y1, y2, y3, y4⟩ : Ins).put .N d).Ok := Lib.hid (put_ok HY.out (by omega) (by omega) (fun _ => by omega))
          have zb : b < wr.heap.size := by have : b < w.heap.size := hbo; omega
          clear hdE hA hbo'
          go_wp2
          go_roundw
          case rel => exact ⟨j + 1, q + 1, _, by omega, by go_num, by go_num, by omega, by omega, HYN, Lib.hid (by exact HX.out.set 3 _), Lib.hid (HR.out.far (by simp) _), HEN, Lib.hid (by have := HB.out; exact (by repeat' (first | (with_reducible assumption) | (with_reducible refine Below.setCell ?_ ?_ _) | (with_reducible refine Below.alloc ?_ ?_ _) | (with_reducible refine Below.drew ?_) | (with_reducible refine below_drewN ?_ _) | (with_reducible exact Below.refl _ _) | (show _ ≤ _; (try simp); (try omega); done) | exact Below.refl _ _ | assumption)))⟩
          case measure => simp [intOf]; omega
        · have HERR : Hid (oneR bs.length c (bs.drop (p + 1)) = .error (2, bs.length)) := Lib.hid (one_err (p := p) HL.out (by rw [HE.out, HDR.out, rdAllR_cons, List.drop_of_length_le (by omega)]; rfl))
          have hge : bs.length ≤ q := by omega
          clear hlq
          go_wp2
          refine bodyPost_ret (results_block4 (g := w.heap.size) (T := 25) rfl rfl (by exact ((((HR.out.set 0 _).set 1 _).set 2 _).set 3 _).set 4 _) rfl Tryz.underlying25 rfl (by kernel_rfl)) rfl ?_
          exact OnePost.bad HERR.out rfl (by have hB := HB.out; exact (by repeat' (first | (with_reducible assumption) | (with_reducible refine Below.setCell ?_ ?_ _) | (with_reducible refine Below.alloc ?_ ?_ _) | (with_reducible refine Below.drew ?_) | (with_reducible refine below_drewN ?_ _) | (with_reducible exact Below.refl _ _) | (show _ ≤ _; (try simp); (try omega); done) | exact Below.refl _ _ | assumption)))
      case s =>
        have hcc : ((S[j]'hltS).toNat : Int) = 115 := by rw [hget]; rfl
        clear hget
        clear HNUM HLQ
        by_cases hlq : q < bs.length
        · obtain ⟨b', off', hA, hbo', hd⟩ := HSr.out.at_ hlq
          obtain ⟨rfl, rfl⟩ : b = b' ∧ off = off' := by simpa using hA
          obtain ⟨d, hdE⟩ : ∃ d, d = bs[q] := ⟨_, rfl⟩
          rw [← hdE] at hd
          unfold byteV at hd
          have hdb : Byte d := by rw [hdE]; exact HBY.out _ (List.getElem_mem hlq)
          obtain ⟨hd0, hd1⟩ := hdb
          have HEN : Hid (rdAllR bs.length ls (bs.drop (p + 1)) (zero c) = rdAllR bs.length (ls.drop (j + 1)) (bs.drop (q + 1)) ((⟨y0, y1, y2, y3, y4⟩ : Ins).put .B d)) := Lib.hid (by rw [HE.out, HDR.out, rdAllR_cons, List.drop_eq_getElem_cons hlq, ← hdE]; rfl)
          have HYN : Hid ((⟨y0, y1, y2, y3, y4⟩ : Ins).put .B d).Ok := Lib.hid (put_ok HY.out (by omega) (by omega) (fun _ => by omega))
          have zb : b < wr.heap.size := by have : b < w.heap.size := hbo; omega
          clear hdE hA hbo'
          go_wp2
          go_roundw
          case rel => exact ⟨j + 1, q + 1, _, by omega, by go_num, by go_num, by omega, by omega, HYN, Lib.hid (by exact HX.out.set 2 _), Lib.hid (HR.out.far (by simp) _), HEN, Lib.hid (by have := HB.out; exact (by repeat' (first | (with_reducible assumption) | (with_reducible refine Below.setCell ?_ ?_ _) | (with_reducible refine Below.alloc ?_ ?_ _) | (with_reducible refine Below.drew ?_) | (with_reducible refine below_drewN ?_ _) | (with_reducible exact Below.refl _ _) | (show _ ≤ _; (try simp); (try omega); done) | exact Below.refl _ _ | assumption)))⟩
          case measure => simp [intOf]; omega
        · have HERR : Hid (oneR bs.length c (bs.drop (p + 1)) = .error (2, bs.length)) := Lib.hid (one_err (p := p) HL.out (by rw [HE.out, HDR.out, rdAllR_cons, List.drop_of_length_le (by omega)]; rfl))
          have hge : bs.length ≤ q := by omega
          clear hlq
          go_wp2
          refine bodyPost_ret (results_block4 (g := w.heap.size) (T := 25) rfl rfl (by exact ((((HR.out.set 0 _).set 1 _).set 2 _).set 3 _).set 4 _) rfl Tryz.underlying25 rfl (by kernel_rfl)) rfl ?_
          exact OnePost.bad HERR.out rfl (by have hB := HB.out; exact (by repeat' (first | (with_reducible assumption) | (with_reducible refine Below.setCell ?_ ?_ _) | (with_reducible refine Below.alloc ?_ ?_ _) | (with_reducible refine Below.drew ?_) | (with_reducible refine below_drewN ?_ _) | (with_reducible exact Below.refl _ _) | (show _ ≤ _; (try simp); (try omega); done) | exact Below.refl _ _ | assumption)))
      case h =>
        have hcc : ((S[j]'hltS).toNat : Int) = 104 := by rw [hget]; rfl
        clear hget
        clear HNUM HLQ
        by_cases hlq : q < bs.length
        · obtain ⟨b', off', hA, hbo', hd⟩ := HSr.out.at_ hlq
          obtain ⟨rfl, rfl⟩ : b = b' ∧ off = off' := by simpa using hA
          obtain ⟨d, hdE⟩ : ∃ d, d = bs[q] := ⟨_, rfl⟩
          rw [← hdE] at hd
          unfold byteV at hd
          have hdb : Byte d := by rw [hdE]; exact HBY.out _ (List.getElem_mem hlq)
          obtain ⟨hd0, hd1⟩ := hdb
          have HEN : Hid (rdAllR bs.length ls (bs.drop (p + 1)) (zero c) = rdAllR bs.length (ls.drop (j + 1)) (bs.drop (q + 1)) ((⟨y0, y1, y2, y3, y4⟩ : Ins).put .N d)) := Lib.hid (by rw [HE.out, HDR.out, rdAllR_cons, List.drop_eq_getElem_cons hlq, ← hdE]; rfl)
          have HYN : Hid ((⟨y0, y1, y2, y3, y4⟩ : Ins).put .N d).Ok := Lib.hid (put_ok HY.out (by omega) (by omega) (fun _ => by omega))
          have zb : b < wr.heap.size := by have : b < w.heap.size := hbo; omega
          clear hdE hA hbo'
          go_wp2
          go_roundw
          case rel => exact ⟨j + 1, q + 1, _, by omega, by go_num, by go_num, by omega, by omega, HYN, Lib.hid (by exact HX.out.set 3 _), Lib.hid (HR.out.far (by simp) _), HEN, Lib.hid (by have := HB.out; exact (by repeat' (first | (with_reducible assumption) | (with_reducible refine Below.setCell ?_ ?_ _) | (with_reducible refine Below.alloc ?_ ?_ _) | (with_reducible refine Below.drew ?_) | (with_reducible refine below_drewN ?_ _) | (with_reducible exact Below.refl _ _) | (show _ ≤ _; (try simp); (try omega); done) | exact Below.refl _ _ | assumption)))⟩
          case measure => simp [intOf]; omega
        · have HERR : Hid (oneR bs.length c (bs.drop (p + 1)) = .error (2, bs.length)) := Lib.hid (one_err (p := p) HL.out (by rw [HE.out, HDR.out, rdAllR_cons, List.drop_of_length_le (by omega)]; rfl))
          have hge : bs.length ≤ q := by omega
          clear hlq
          go_wp2
          refine bodyPost_ret (results_block4 (g := w.heap.size) (T := 25) rfl rfl (by exact ((((HR.out.set 0 _).set 1 _).set 2 _).set 3 _).set 4 _) rfl Tryz.underlying25 rfl (by kernel_rfl)) rfl ?_
          exact OnePost.bad HERR.out rfl (by have hB := HB.out; exact (by repeat' (first | (with_reducible assumption) | (with_reducible refine Below.setCell ?_ ?_ _) | (with_reducible refine Below.alloc ?_ ?_ _) | (with_reducible refine Below.drew ?_) | (with_reducible refine below_drewN ?_ _) | (with_reducible exact Below.refl _ _) | (show _ ≤ _; (try simp); (try omega); done) | exact Below.refl _ _ | assumption)))
      case w =>
        have hcc : ((S[j]'hltS).toNat : Int) = 119 := by rw [hget]; rfl
        clear hget
        clear HNUM HLQ
        by_cases hlq : q < bs.length
        · obtain ⟨b', off', hA, hbo', hd⟩ := HSr.out.at_ hlq
          obtain ⟨rfl, rfl⟩ : b = b' ∧ off = off' := by simpa using hA
          obtain ⟨d, hdE⟩ : ∃ d, d = bs[q] := ⟨_, rfl⟩
          rw [← hdE] at hd
          unfold byteV at hd
          have hdb : Byte d := by rw [hdE]; exact HBY.out _ (List.getElem_mem hlq)
          obtain ⟨hd0, hd1⟩ := hdb
          have HEN : Hid (rdAllR bs.length ls (bs.drop (p + 1)) (zero c) = rdAllR bs.length (ls.drop (j + 1)) (bs.drop (q + 1)) ((⟨y0, y1, y2, y3, y4⟩ : Ins).put .N d)) := Lib.hid (by rw [HE.out, HDR.out, rdAllR_cons, List.drop_eq_getElem_cons hlq, ← hdE]; rfl)
          have HYN : Hid ((⟨y0, y1, y2, y3, y4⟩ : Ins).put .N d).Ok := Lib.hid (put_ok HY.out (by omega) (by omega) (fun _ => by omega))
          have zb : b < wr.heap.size := by have : b < w.heap.size := hbo; omega
          clear hdE hA hbo'
          go_wp2
          go_roundw
          case rel => exact ⟨j + 1, q + 1, _, by omega, by go_num, by go_num, by omega, by omega, HYN, Lib.hid (by exact HX.out.set 3 _), Lib.hid (HR.out.far (by simp) _), HEN, Lib.hid (by have := HB.out; exact (by repeat' (first | (with_reducible assumption) | (with_reducible refine Below.setCell ?_ ?_ _) | (with_reducible refine Below.alloc ?_ ?_ _) | (with_reducible refine Below.drew ?_) | (with_reducible refine below_drewN ?_ _) | (with_reducible exact Below.refl _ _) | (show _ ≤ _; (try simp); (try omega); done) | exact Below.refl _ _ | assumption)))⟩
          case measure => simp [intOf]; omega
        · have HERR : Hid (oneR bs.length c (bs.drop (p + 1)) = .error (2, bs.length)) := Lib.hid (one_err (p := p) HL.out (by rw [HE.out, HDR.out, rdAllR_cons, List.drop_of_length_le (by omega)]; rfl))
          have hge : bs.length ≤ q := by omega
          clear hlq
          go_wp2
          refine bodyPost_ret (results_block4 (g := w.heap.size) (T := 25) rfl rfl (by exact ((((HR.out.set 0 _).set 1 _).set 2 _).set 3 _).set 4 _) rfl Tryz.underlying25 rfl (by kernel_rfl)) rfl ?_
          exact OnePost.bad HERR.out rfl (by have hB := HB.out; exact (by repeat' (first | (with_reducible assumption) | (with_reducible refine Below.setCell ?_ ?_ _) | (with_reducible refine Below.alloc ?_ ?_ _) | (with_reducible refine Below.drew ?_) | (with_reducible refine below_drewN ?_ _) | (with_reducible exact Below.refl _ _) | (show _ ≤ _; (try simp); (try omega); done) | exact Below.refl _ _ | assumption)))
      case j =>
        have hcc : ((S[j]'hltS).toNat : Int) = 106 := by rw [hget]; rfl
        clear hget
        have HRD : Hid (rdR .j (bs.drop q) ⟨y0, y1, y2, y3, y4⟩ = match sevGo (bs.drop q) 0 0 with | .short => .short | .form => .form | .ok v r => .got r ((⟨y0, y1, y2, y3, y4⟩ : Ins).put .N ((min v 4611686018427387904 : Nat)))) := Lib.hid rfl
        cases hsv : sevGo (bs.drop q) 0 0 with
        | short =>
          have HERR : Hid (oneR bs.length c (bs.drop (p + 1)) = .error (2, bs.length)) := Lib.hid (one_err (p := p) HL.out (by rw [HE.out, HDR.out, rdAllR_cons, HRD.out, hsv]))
          have HN : Hid (Calls Tryz.prog 110 #[.slice (some ⟨b, off, none⟩) bs.length cap, .int .i64 (q : Nat)] wr fun e w' => e = .returned (.tuple #[.int .u64 0, .int .i64 0, .int .i64 2]) ∧ wr = w') := Lib.hid (HNUM.out.mono fun e w' h => by unfold NumPost at h; rw [hsv] at h; exact ⟨h.2, h.1⟩)
          clear hsv HRD HNUM
          go_wp2_with (go_at_call 110; refine HN.out.mono ?_; rintro e w3 ⟨rfl, rfl⟩)
          refine bodyPost_ret (results_block4 (g := w.heap.size) (T := 25) rfl rfl (by exact ((((HR.out.set 0 _).set 1 _).set 2 _).set 3 _).set 4 _) rfl Tryz.underlying25 rfl (by kernel_rfl)) rfl ?_
          exact OnePost.bad HERR.out rfl (by have hB := HB.out; exact (by repeat' (first | (with_reducible assumption) | (with_reducible refine Below.setCell ?_ ?_ _) | (with_reducible refine Below.alloc ?_ ?_ _) | (with_reducible refine Below.drew ?_) | (with_reducible refine below_drewN ?_ _) | (with_reducible exact Below.refl _ _) | (show _ ≤ _; (try simp); (try omega); done) | exact Below.refl _ _ | assumption)))
        | form =>
          have HERR : Hid (oneR bs.length c (bs.drop (p + 1)) = .error (4, q)) := Lib.hid (one_err (p := p) HL.out (by rw [HE.out, HDR.out, rdAllR_cons, HRD.out, hsv]; simp only []; rw [HLQ.out]))
          have HN : Hid (Calls Tryz.prog 110 #[.slice (some ⟨b, off, none⟩) bs.length cap, .int .i64 (q : Nat)] wr fun e w' => e = .returned (.tuple #[.int .u64 0, .int .i64 0, .int .i64 4]) ∧ wr = w') := Lib.hid (HNUM.out.mono fun e w' h => by unfold NumPost at h; rw [hsv] at h; exact ⟨h.2, h.1⟩)
          clear hsv HRD HNUM
          go_wp2_with (go_at_call 110; refine HN.out.mono ?_; rintro e w3 ⟨rfl, rfl⟩)
          refine bodyPost_ret (results_block4 (g := w.heap.size) (T := 25) rfl rfl (by exact ((((HR.out.set 0 _).set 1 _).set 2 _).set 3 _).set 4 _) rfl Tryz.underlying25 rfl (by kernel_rfl)) rfl ?_
          exact OnePost.bad HERR.out rfl (by have hB := HB.out; exact (by repeat' (first | (with_reducible assumption) | (with_reducible refine Below.setCell ?_ ?_ _) | (with_reducible refine Below.alloc ?_ ?_ _) | (with_reducible refine Below.drew ?_) | (with_reducible refine below_drewN ?_ _) | (with_reducible exact Below.refl _ _) | (show _ ≤ _; (try simp); (try omega); done) | exact Below.refl _ _ | assumption)))
        | ok m r =>
          obtain ⟨q2, hq2⟩ : ∃ q2, q2 = bs.length - r.length := ⟨_, rfl⟩
          obtain ⟨m9, hm9, -, -, -, -⟩ := sevGo_inv (bs.drop q) 0 0 m r HBq.out (by omega) hsv
          obtain ⟨hr1, hr2⟩ := drop_suffix hq hm9
          have hrl : r.length ≤ bs.length := by rw [hr1, List.length_drop]; omega
          have hmlt := num_lt HBq.out hsv
          have HEN : Hid (rdAllR bs.length ls (bs.drop (p + 1)) (zero c) = rdAllR bs.length (ls.drop (j + 1)) (bs.drop q2) ((⟨y0, y1, y2, y3, y4⟩ : Ins).put .N ((min m 4611686018427387904 : Nat)))) := Lib.hid (by rw [HE.out, HDR.out, rdAllR_cons, HRD.out, hsv, hq2, ← hr1])
          have HYN : Hid ((⟨y0, y1, y2, y3, y4⟩ : Ins).put .N ((min m 4611686018427387904 : Nat))).Ok := Lib.hid (put_ok HY.out (by omega) (by omega) (fun hh => by first | omega | exact absurd rfl hh))
          have HN : Hid (Calls Tryz.prog 110 #[.slice (some ⟨b, off, none⟩) bs.length cap, .int .i64 (q : Nat)] wr fun e w' => e = .returned (.tuple #[.int .u64 (m : Nat), .int .i64 (q2 : Nat), .int .i64 0]) ∧ wr = w') := Lib.hid (HNUM.out.mono fun e w' h => by unfold NumPost at h; rw [hsv] at h; rw [hq2]; exact ⟨h.2, h.1⟩)
          have hq3 : p < q2 := by omega
          have hq4 : q2 ≤ bs.length := by omega
          clear hsv HRD HNUM hq2 hm9 hr1 hr2 hrl
          rcases Nat.lt_or_ge 4611686018427387904 m with hbig | hbig
          · have hmn : min m 4611686018427387904 = 4611686018427387904 := by omega
            have HMN := Lib.hid hmn
            have dmi : min (m : Int) 4611686018427387904 = 4611686018427387904 := by omega
            clear hmn
            go_wp2_with (go_at_call 110; refine HN.out.mono ?_; rintro e w3 ⟨rfl, rfl⟩)
            all_goals (try go_roundw)
            all_goals first
              | exact ⟨j + 1, q2, _, by omega, by go_num, rfl, hq3, hq4, HYN, Lib.hid (has_eq (HX.out.set 3 _) (by rw [HMN.out]; rfl)), Lib.hid (HR.out.far (by simp) _), HEN, Lib.hid (by have := HB.out; exact (by repeat' (first | (with_reducible assumption) | (with_reducible refine Below.setCell ?_ ?_ _) | (with_reducible refine Below.alloc ?_ ?_ _) | (with_reducible refine Below.drew ?_) | (with_reducible refine below_drewN ?_ _) | (with_reducible exact Below.refl _ _) | (show _ ≤ _; (try simp); (try omega); done) | exact Below.refl _ _ | assumption)))⟩
              | (simp [intOf]; omega)
              | omega
          · have hmn : min m 4611686018427387904 = m := by omega
            have HMN := Lib.hid hmn
            have hm64 : (m : Int) ≤ 4611686018427387904 := by omega
            have dmi : min (m : Int) 4611686018427387904 = m := by omega
            clear hmn hbig
            go_wp2_with (go_at_call 110; refine HN.out.mono ?_; rintro e w3 ⟨rfl, rfl⟩)
            all_goals (try go_roundw)
            all_goals first
              | exact ⟨j + 1, q2, _, by omega, by go_num, rfl, hq3, hq4, HYN, Lib.hid (has_eq (HX.out.set 3 _) (by rw [HMN.out]; rfl)), Lib.hid (HR.out.far (by simp) _), HEN, Lib.hid (by have := HB.out; exact (by repeat' (first | (with_reducible assumption) | (with_reducible refine Below.setCell ?_ ?_ _) | (with_reducible refine Below.alloc ?_ ?_ _) | (with_reducible refine Below.drew ?_) | (with_reducible refine below_drewN ?_ _) | (with_reducible exact Below.refl _ _) | (show _ ≤ _; (try simp); (try omega); done) | exact Below.refl _ _ | assumption)))⟩
              | exact ⟨j + 1, q2, _, by omega, by go_num, rfl, hq3, hq4, HYN, Lib.hid (has_eq (HX.out.set 3 _) (by rw [HMN.out]; simp [insC, Ins.put]; first | omega | (rw [IntKind.wrap_i64]; omega))), Lib.hid (HR.out.far (by simp) _), HEN, Lib.hid (by have := HB.out; exact (by repeat' (first | (with_reducible assumption) | (with_reducible refine Below.setCell ?_ ?_ _) | (with_reducible refine Below.alloc ?_ ?_ _) | (with_reducible refine Below.drew ?_) | (with_reducible refine below_drewN ?_ _) | (with_reducible exact Below.refl _ _) | (show _ ≤ _; (try simp); (try omega); done) | exact Below.refl _ _ | assumption)))⟩
              | (simp [intOf]; omega)
              | omega
      case i =>
        have hcc : ((S[j]'hltS).toNat : Int) = 105 := by rw [hget]; rfl
        clear hget
        have HRD : Hid (rdR .i (bs.drop q) ⟨y0, y1, y2, y3, y4⟩ = match sevGo (bs.drop q) 0 0 with | .short => .short | .form => .form | .ok v r => .got r ((⟨y0, y1, y2, y3, y4⟩ : Ins).put .I ((v : Nat)))) := Lib.hid rfl
        cases hsv : sevGo (bs.drop q) 0 0 with
        | short =>
          have HERR : Hid (oneR bs.length c (bs.drop (p + 1)) = .error (2, bs.length)) := Lib.hid (one_err (p := p) HL.out (by rw [HE.out, HDR.out, rdAllR_cons, HRD.out, hsv]))
          have HN : Hid (Calls Tryz.prog 110 #[.slice (some ⟨b, off, none⟩) bs.length cap, .int .i64 (q : Nat)] wr fun e w' => e = .returned (.tuple #[.int .u64 0, .int .i64 0, .int .i64 2]) ∧ wr = w') := Lib.hid (HNUM.out.mono fun e w' h => by unfold NumPost at h; rw [hsv] at h; exact ⟨h.2, h.1⟩)
          clear hsv HRD HNUM
          go_wp2_with (go_at_call 110; refine HN.out.mono ?_; rintro e w3 ⟨rfl, rfl⟩)
          refine bodyPost_ret (results_block4 (g := w.heap.size) (T := 25) rfl rfl (by exact ((((HR.out.set 0 _).set 1 _).set 2 _).set 3 _).set 4 _) rfl Tryz.underlying25 rfl (by kernel_rfl)) rfl ?_
          exact OnePost.bad HERR.out rfl (by have hB := HB.out; exact (by repeat' (first | (with_reducible assumption) | (with_reducible refine Below.setCell ?_ ?_ _) | (with_reducible refine Below.alloc ?_ ?_ _) | (with_reducible refine Below.drew ?_) | (with_reducible refine below_drewN ?_ _) | (with_reducible exact Below.refl _ _) | (show _ ≤ _; (try simp); (try omega); done) | exact Below.refl _ _ | assumption)))
        | form =>
          have HERR : Hid (oneR bs.length c (bs.drop (p + 1)) = .error (4, q)) := Lib.hid (one_err (p := p) HL.out (by rw [HE.out, HDR.out, rdAllR_cons, HRD.out, hsv]; simp only []; rw [HLQ.out]))
          have HN : Hid (Calls Tryz.prog 110 #[.slice (some ⟨b, off, none⟩) bs.length cap, .int .i64 (q : Nat)] wr fun e w' => e = .returned (.tuple #[.int .u64 0, .int .i64 0, .int .i64 4]) ∧ wr = w') := Lib.hid (HNUM.out.mono fun e w' h => by unfold NumPost at h; rw [hsv] at h; exact ⟨h.2, h.1⟩)
          clear hsv HRD HNUM
          go_wp2_with (go_at_call 110; refine HN.out.mono ?_; rintro e w3 ⟨rfl, rfl⟩)
          refine bodyPost_ret (results_block4 (g := w.heap.size) (T := 25) rfl rfl (by exact ((((HR.out.set 0 _).set 1 _).set 2 _).set 3 _).set 4 _) rfl Tryz.underlying25 rfl (by kernel_rfl)) rfl ?_
          exact OnePost.bad HERR.out rfl (by have hB := HB.out; exact (by repeat' (first | (with_reducible assumption) | (with_reducible refine Below.setCell ?_ ?_ _) | (with_reducible refine Below.alloc ?_ ?_ _) | (with_reducible refine Below.drew ?_) | (with_reducible refine below_drewN ?_ _) | (with_reducible exact Below.refl _ _) | (show _ ≤ _; (try simp); (try omega); done) | exact Below.refl _ _ | assumption)))
        | ok m r =>
          obtain ⟨q2, hq2⟩ : ∃ q2, q2 = bs.length - r.length := ⟨_, rfl⟩
          obtain ⟨m9, hm9, -, -, -, -⟩ := sevGo_inv (bs.drop q) 0 0 m r HBq.out (by omega) hsv
          obtain ⟨hr1, hr2⟩ := drop_suffix hq hm9
          have hrl : r.length ≤ bs.length := by rw [hr1, List.length_drop]; omega
          have hmlt := num_lt HBq.out hsv
          have HEN : Hid (rdAllR bs.length ls (bs.drop (p + 1)) (zero c) = rdAllR bs.length (ls.drop (j + 1)) (bs.drop q2) ((⟨y0, y1, y2, y3, y4⟩ : Ins).put .I ((m : Nat)))) := Lib.hid (by rw [HE.out, HDR.out, rdAllR_cons, HRD.out, hsv, hq2, ← hr1])
          have HYN : Hid ((⟨y0, y1, y2, y3, y4⟩ : Ins).put .I ((m : Nat))).Ok := Lib.hid (put_ok HY.out (by omega) (by omega) (fun hh => by first | omega | exact absurd rfl hh))
          have HN : Hid (Calls Tryz.prog 110 #[.slice (some ⟨b, off, none⟩) bs.length cap, .int .i64 (q : Nat)] wr fun e w' => e = .returned (.tuple #[.int .u64 (m : Nat), .int .i64 (q2 : Nat), .int .i64 0]) ∧ wr = w') := Lib.hid (HNUM.out.mono fun e w' h => by unfold NumPost at h; rw [hsv] at h; rw [hq2]; exact ⟨h.2, h.1⟩)
          have hq3 : p < q2 := by omega
          have hq4 : q2 ≤ bs.length := by omega
          clear hsv HRD HNUM hq2 hm9 hr1 hr2 hrl
          go_wp2_with (go_at_call 110; refine HN.out.mono ?_; rintro e w3 ⟨rfl, rfl⟩)
          go_roundw
          case rel => exact ⟨j + 1, q2, _, by omega, by go_num, rfl, hq3, hq4, HYN, Lib.hid (by exact HX.out.set 4 _), Lib.hid (HR.out.far (by simp) _), HEN, Lib.hid (by have := HB.out; exact (by repeat' (first | (with_reducible assumption) | (with_reducible refine Below.setCell ?_ ?_ _) | (with_reducible refine Below.alloc ?_ ?_ _) | (with_reducible refine Below.drew ?_) | (with_reducible refine below_drewN ?_ _) | (with_reducible exact Below.refl _ _) | (show _ ≤ _; (try simp); (try omega); done) | exact Below.refl _ _ | assumption)))⟩
          case measure => simp [intOf]; omega
      case g =>
        have hcc : ((S[j]'hltS).toNat : Int) = 103 := by rw [hget]; rfl
        clear hget
        have HRD : Hid (rdR .g (bs.drop q) ⟨y0, y1, y2, y3, y4⟩ = match sevGo (bs.drop q) 0 0 with | .short => .short | .form => .form | .ok v r => .got r ((⟨y0, y1, y2, y3, y4⟩ : Ins).put .I ((v : Nat)))) := Lib.hid rfl
        cases hsv : sevGo (bs.drop q) 0 0 with
        | short =>
          have HERR : Hid (oneR bs.length c (bs.drop (p + 1)) = .error (2, bs.length)) := Lib.hid (one_err (p := p) HL.out (by rw [HE.out, HDR.out, rdAllR_cons, HRD.out, hsv]))
          have HN : Hid (Calls Tryz.prog 110 #[.slice (some ⟨b, off, none⟩) bs.length cap, .int .i64 (q : Nat)] wr fun e w' => e = .returned (.tuple #[.int .u64 0, .int .i64 0, .int .i64 2]) ∧ wr = w') := Lib.hid (HNUM.out.mono fun e w' h => by unfold NumPost at h; rw [hsv] at h; exact ⟨h.2, h.1⟩)
          clear hsv HRD HNUM
          go_wp2_with (go_at_call 110; refine HN.out.mono ?_; rintro e w3 ⟨rfl, rfl⟩)
          refine bodyPost_ret (results_block4 (g := w.heap.size) (T := 25) rfl rfl (by exact ((((HR.out.set 0 _).set 1 _).set 2 _).set 3 _).set 4 _) rfl Tryz.underlying25 rfl (by kernel_rfl)) rfl ?_
          exact OnePost.bad HERR.out rfl (by have hB := HB.out; exact (by repeat' (first | (with_reducible assumption) | (with_reducible refine Below.setCell ?_ ?_ _) | (with_reducible refine Below.alloc ?_ ?_ _) | (with_reducible refine Below.drew ?_) | (with_reducible refine below_drewN ?_ _) | (with_reducible exact Below.refl _ _) | (show _ ≤ _; (try simp); (try omega); done) | exact Below.refl _ _ | assumption)))
        | form =>
          have HERR : Hid (oneR bs.length c (bs.drop (p + 1)) = .error (4, q)) := Lib.hid (one_err (p := p) HL.out (by rw [HE.out, HDR.out, rdAllR_cons, HRD.out, hsv]; simp only []; rw [HLQ.out]))
          have HN : Hid (Calls Tryz.prog 110 #[.slice (some ⟨b, off, none⟩) bs.length cap, .int .i64 (q : Nat)] wr fun e w' => e = .returned (.tuple #[.int .u64 0, .int .i64 0, .int .i64 4]) ∧ wr = w') := Lib.hid (HNUM.out.mono fun e w' h => by unfold NumPost at h; rw [hsv] at h; exact ⟨h.2, h.1⟩)
          clear hsv HRD HNUM
          go_wp2_with (go_at_call 110; refine HN.out.mono ?_; rintro e w3 ⟨rfl, rfl⟩)
          refine bodyPost_ret (results_block4 (g := w.heap.size) (T := 25) rfl rfl (by exact ((((HR.out.set 0 _).set 1 _).set 2 _).set 3 _).set 4 _) rfl Tryz.underlying25 rfl (by kernel_rfl)) rfl ?_
          exact OnePost.bad HERR.out rfl (by have hB := HB.out; exact (by repeat' (first | (with_reducible assumption) | (with_reducible refine Below.setCell ?_ ?_ _) | (with_reducible refine Below.alloc ?_ ?_ _) | (with_reducible refine Below.drew ?_) | (with_reducible refine below_drewN ?_ _) | (with_reducible exact Below.refl _ _) | (show _ ≤ _; (try simp); (try omega); done) | exact Below.refl _ _ | assumption)))
        | ok m r =>
          obtain ⟨q2, hq2⟩ : ∃ q2, q2 = bs.length - r.length := ⟨_, rfl⟩
          obtain ⟨m9, hm9, -, -, -, -⟩ := sevGo_inv (bs.drop q) 0 0 m r HBq.out (by omega) hsv
          obtain ⟨hr1, hr2⟩ := drop_suffix hq hm9
          have hrl : r.length ≤ bs.length := by rw [hr1, List.length_drop]; omega
          have hmlt := num_lt HBq.out hsv
          have HEN : Hid (rdAllR bs.length ls (bs.drop (p + 1)) (zero c) = rdAllR bs.length (ls.drop (j + 1)) (bs.drop q2) ((⟨y0, y1, y2, y3, y4⟩ : Ins).put .I ((m : Nat)))) := Lib.hid (by rw [HE.out, HDR.out, rdAllR_cons, HRD.out, hsv, hq2, ← hr1])
          have HYN : Hid ((⟨y0, y1, y2, y3, y4⟩ : Ins).put .I ((m : Nat))).Ok := Lib.hid (put_ok HY.out (by omega) (by omega) (fun hh => by first | omega | exact absurd rfl hh))
          have HN : Hid (Calls Tryz.prog 110 #[.slice (some ⟨b, off, none⟩) bs.length cap, .int .i64 (q : Nat)] wr fun e w' => e = .returned (.tuple #[.int .u64 (m : Nat), .int .i64 (q2 : Nat), .int .i64 0]) ∧ wr = w') := Lib.hid (HNUM.out.mono fun e w' h => by unfold NumPost at h; rw [hsv] at h; rw [hq2]; exact ⟨h.2, h.1⟩)
          have hq3 : p < q2 := by omega
          have hq4 : q2 ≤ bs.length := by omega
          clear hsv HRD HNUM hq2 hm9 hr1 hr2 hrl
          go_wp2_with (go_at_call 110; refine HN.out.mono ?_; rintro e w3 ⟨rfl, rfl⟩)
          go_roundw
          case rel => exact ⟨j + 1, q2, _, by omega, by go_num, rfl, hq3, hq4, HYN, Lib.hid (by exact HX.out.set 4 _), Lib.hid (HR.out.far (by simp) _), HEN, Lib.hid (by have := HB.out; exact (by repeat' (first | (with_reducible assumption) | (with_reducible refine Below.setCell ?_ ?_ _) | (with_reducible refine Below.alloc ?_ ?_ _) | (with_reducible refine Below.drew ?_) | (with_reducible refine below_drewN ?_ _) | (with_reducible exact Below.refl _ _) | (show _ ≤ _; (try simp); (try omega); done) | exact Below.refl _ _ | assumption)))⟩
          case measure => simp [intOf]; omega
    · obtain rfl : j = ls.length := by omega
      have HALL : Hid (rdAllR bs.length ls (bs.drop (p + 1)) (zero c) = .ok (bs.drop q, ⟨y0, y1, y2, y3, y4⟩)) := Lib.hid (by rw [HE.out, List.drop_length]; rfl)
      have hdec : decide ((ls.length : Int) < (S.size : Int)) = false := by rw [HSZ.out]; simp
      have hdec2 : decide (ls.length < S.size) = false := by rw [HSZ.out]; simp
      have hdec3 : S.size ≤ ls.length := by rw [HSZ.out]; exact Nat.le_refl _
      have HRT := Lib.hid (fun (W : World) => rright_any HY.out W)
      cases hr : rightB ⟨y0, y1, y2, y3, y4⟩ with
      | false =>
        have HERR : Hid (oneR bs.length c (bs.drop (p + 1)) = .error (20, p)) := Lib.hid (by unfold oneR; rw [HL.out]; simp only []; rw [HALL.out, seeR_no hr, List.length_drop]; congr 2; omega)
        rw [hr] at HRT
        clear hr
        go_wp2_with (go_at_call 63; refine (HRT.out _).mono ?_; rintro e w2 ⟨rfl, hB2⟩; have hr2 := HR.out.below hB2 HR.out.lt; have z2 : w.heap.size < w2.heap.size := hr2.lt; have k0 : w2.cell? ⟨w.heap.size, 0, none⟩ = some (.int .i64 0) := hr2.cell 0; have k1 : w2.cell? ⟨w.heap.size, 1, none⟩ = some (.int .i64 0) := hr2.cell 1; have k2 : w2.cell? ⟨w.heap.size, 2, none⟩ = some (.int .i64 0) := hr2.cell 2; have k3 : w2.cell? ⟨w.heap.size, 3, none⟩ = some (.int .i64 0) := hr2.cell 3; have k4 : w2.cell? ⟨w.heap.size, 4, none⟩ = some (.int .u64 0) := hr2.cell 4; have e0 : w2.frozen? ⟨w.heap.size, 0, none⟩ = false := hr2.frozen 0; have e1 : w2.frozen? ⟨w.heap.size, 1, none⟩ = false := hr2.frozen 1; have e2 : w2.frozen? ⟨w.heap.size, 2, none⟩ = false := hr2.frozen 2; have e3 : w2.frozen? ⟨w.heap.size, 3, none⟩ = false := hr2.frozen 3; have e4 : w2.frozen? ⟨w.heap.size, 4, none⟩ = false := hr2.frozen 4; have HR2 := Lib.hid hr2; have HB2 : Hid (Below w.heap.size w w2) := Lib.hid (HB.out.trans (hB2.mono (by omega))); clear hr2 hB2)
        refine bodyPost_ret (results_block4 (g := w.heap.size) (T := 25) rfl rfl (by exact ((((HR2.out.set 0 _).set 1 _).set 2 _).set 3 _).set 4 _) rfl Tryz.underlying25 rfl (by kernel_rfl)) rfl ?_
        exact OnePost.bad HERR.out rfl (by have hB := HB2.out; exact (by repeat' (first | (with_reducible assumption) | (with_reducible refine Below.setCell ?_ ?_ _) | (with_reducible refine Below.alloc ?_ ?_ _) | (with_reducible refine Below.drew ?_) | (with_reducible refine below_drewN ?_ _) | (with_reducible exact Below.refl _ _) | (show _ ≤ _; (try simp); (try omega); done) | exact Below.refl _ _ | assumption)))
      | true =>
        have HOK : Hid (oneR bs.length c (bs.drop (p + 1)) = .ok (bs.drop q, ⟨y0, y1, y2, y3, y4⟩)) := Lib.hid (by unfold oneR; rw [HL.out]; simp only []; rw [HALL.out, seeR_yes hr])
        rw [hr] at HRT
        clear hr
        go_wp2_with (go_at_call 63; refine (HRT.out _).mono ?_; rintro e w2 ⟨rfl, hB2⟩; have hr2 := HR.out.below hB2 HR.out.lt; have hx2 := HX.out.below hB2 HX.out.lt; have z2 : w.heap.size + 1 < w2.heap.size := hx2.lt; have k0 : w2.cell? ⟨w.heap.size, 0, none⟩ = some (.int .i64 0) := hr2.cell 0; have k1 : w2.cell? ⟨w.heap.size, 1, none⟩ = some (.int .i64 0) := hr2.cell 1; have k2 : w2.cell? ⟨w.heap.size, 2, none⟩ = some (.int .i64 0) := hr2.cell 2; have k3 : w2.cell? ⟨w.heap.size, 3, none⟩ = some (.int .i64 0) := hr2.cell 3; have k4 : w2.cell? ⟨w.heap.size, 4, none⟩ = some (.int .u64 0) := hr2.cell 4; have e0 : w2.frozen? ⟨w.heap.size, 0, none⟩ = false := hr2.frozen 0; have e1 : w2.frozen? ⟨w.heap.size, 1, none⟩ = false := hr2.frozen 1; have e2 : w2.frozen? ⟨w.heap.size, 2, none⟩ = false := hr2.frozen 2; have e3 : w2.frozen? ⟨w.heap.size, 3, none⟩ = false := hr2.frozen 3; have e4 : w2.frozen? ⟨w.heap.size, 4, none⟩ = false := hr2.frozen 4; have p0 : w2.cell? ⟨w.heap.size + 1, 0, none⟩ = some (.int .i64 y0) := hx2.cell 0; have p1 : w2.cell? ⟨w.heap.size + 1, 1, none⟩ = some (.int .i64 y1) := hx2.cell 1; have p2 : w2.cell? ⟨w.heap.size + 1, 2, none⟩ = some (.int .i64 y2) := hx2.cell 2; have p3 : w2.cell? ⟨w.heap.size + 1, 3, none⟩ = some (.int .i64 y3) := hx2.cell 3; have p4 : w2.cell? ⟨w.heap.size + 1, 4, none⟩ = some (.int .u64 y4) := hx2.cell 4; have HR2 := Lib.hid hr2; have HB2 : Hid (Below w.heap.size w w2) := Lib.hid (HB.out.trans (hB2.mono (by omega))); clear hr2 hx2 hB2)
        refine bodyPost_ret (results_block4 (g := w.heap.size) (T := 25) rfl rfl (by exact ((((HR2.out.set 0 _).set 1 _).set 2 _).set 3 _).set 4 _) rfl Tryz.underlying25 rfl (by kernel_rfl)) rfl ?_
        refine ⟨?_, by have hB := HB2.out; exact (by repeat' (first | (with_reducible assumption) | (with_reducible refine Below.setCell ?_ ?_ _) | (with_reducible refine Below.alloc ?_ ?_ _) | (with_reducible refine Below.drew ?_) | (with_reducible refine below_drewN ?_ _) | (with_reducible exact Below.refl _ _) | (show _ ≤ _; (try simp); (try omega); done) | exact Below.refl _ _ | assumption))⟩
        rw [HOK.out]
        unfold oneV insC
        simp only [List.length_drop]
        rw [show bs.length - (bs.length - q) = q from by omega]
        rfl
theorem rone_any {bs : List Int} {v : Value} (p : Nat) (w : World) (h : Sl w w.heap.size byteV v bs) (hb : ∀ c ∈ bs, Byte c) (hp : p < bs.length) : Calls Tryz.prog 73 #[v, .int .i64 (p : Nat)] w (OnePost bs p bs[p] w) := by
  cases hl : lettersOf bs[p] with
  | none => exact rone_none p w h hb hp hl
  | some ls => exact rone_some p w h hb hp ls hl
end codeW
end Go.Proofs.YtbbfpbmogklomaaGreatDoor

namespace Go.Proofs.YtbbfpbmogklomaaGreatDoor
open Go.RowKit Go.Bus Go.Bus.cellK Go.Bus.codeK
set_option linter.unusedVariables false
set_option linter.unusedSimpArgs false
namespace codeW
/-- A row of instructions of the call's own, and an error beside it. -/
def AnsI (W : World) (P : List Ins) (E : Value) (e : Ending) (w' : World) : Prop :=
  ∃ A c, e = .returned (.tuple #[.slice A P.length c, E]) ∧ w'.ownsRow W.heap.size 25 5 (.slice A P.length c) P.length (P.flatMap insC) ∧ Below W.heap.size W w'
def AnsJ (W : World) (P : List Ins) (no at_ : Int) (e : Ending) (w' : World) : Prop :=
  ∃ A c, e = .returned (.tuple #[.slice A P.length c, .int .i64 no, .int .i64 at_]) ∧ w'.ownsRow W.heap.size 25 5 (.slice A P.length c) P.length (P.flatMap insC) ∧ Below W.heap.size W w'
def RDecPost (bs : List Int) (w : World) (e : Ending) (w' : World) : Prop :=
  match decGo bs.length bs [] with
  | .ok p => AnsJ w p 0 (-1) e w'
  | .error (no, k) => AnsJ w [] no k e w'
theorem RDecPost.bad {bs : List Int} {w w' : World} {no i : Int} {k : Nat} (h : decGo bs.length bs [] = .error (no, k)) (hi : i = k) (hb : Below w.heap.size w w') : RDecPost bs w (.returned (.tuple #[.slice none 0 0, .int .i64 no, .int .i64 i])) w' := by
  unfold RDecPost; rw [h, hi]; exact ⟨none, 0, rfl, World.ownsRow_nil _ _ _ _, hb⟩
set_option maxRecDepth 100000 in
set_option maxHeartbeats 4000000 in
theorem rdecode_any {bs : List Int} {v : Value} (w : World) (h : Sl w w.heap.size byteV v bs) (hb : ∀ c ∈ bs, Byte c) (hlen : bs.length ≤ 140737488351232) : Calls Tryz.prog 40 #[v] w (RDecPost bs w) := by
  obtain ⟨i0, hi, hi0, hi1, hi2⟩ := info_parts Tryz.infoIm
  obtain ⟨A, cap, rfl, hcap, hmax⟩ := h.form
  have HS := Lib.hid h; clear h
  have HBY := Lib.hid hb; clear hb
  unfold maxLen at hmax
  go_enter Tryz.func40, Tryz.ntmps40
  go_wp2
  go_loopw [5, 6, 7] (fun pv av iv wr => ∃ (k n : Nat) (p : List Ins), k ≤ bs.length ∧ n ≤ k ∧ p.length ≤ 16384 ∧ av = .int .i64 (k : Nat) ∧ iv = .int .i64 (n : Nat) ∧ Hid (wr.ownsRow w.heap.size 25 5 pv p.length (p.flatMap insC)) ∧ Hid (decGo bs.length bs [] = decGo bs.length (bs.drop k) p) ∧ Hid (Below w.heap.size w wr)) (fun _ av _ _ => bs.length - (intOf av).toNat)
  case atStart => exact ⟨0, 0, [], Nat.zero_le _, Nat.le_refl _, Nat.zero_le _, rfl, rfl, Lib.hid (World.ownsRow_nil _ _ _ _), Lib.hid rfl, Lib.hid (Below.refl _ _)⟩
  case round =>
    obtain ⟨k, n, p, hk, hn, hpl, rfl, rfl, HO, HE, HB⟩ := hrel
    obtain ⟨pA, pc, rfl⟩ := own_slice HO.out
    have hsz := HB.out.size
    have HSr := Lib.hid (HS.out.at_below HB.out)
    have dn : decide ((n : Int) ≤ (bs.length : Int)) = true := by simp; omega
    by_cases hlt : k < bs.length
    · obtain ⟨c, hcE⟩ : ∃ c, c = bs[k] := ⟨_, rfl⟩
      have HDR : Hid (bs.drop k = c :: bs.drop (k + 1)) := Lib.hid (by rw [List.drop_eq_getElem_cons hlt, ← hcE])
      have HLEN : Hid (bs.length - ((bs.drop (k + 1)).length + 1) = k) := Lib.hid (by rw [List.length_drop]; omega)
      by_cases hmany : p.length = 16384
      · have HBAD : Hid (decGo bs.length bs [] = .error (5, k)) := Lib.hid (by rw [HE.out, HDR.out, decGo_cons, if_pos hmany, HLEN.out])
        have dm : (p.length == 16384) = true := by simpa using hmany
        have dm' : ((p.length : Int) == 16384) = true := by simp; omega
        clear hmany hcE
        go_wp2
        go_ret3
        exact RDecPost.bad HBAD.out rfl HB.out
      · have dm : (p.length == 16384) = false := by simpa using hmany
        have dm' : ((p.length : Int) == 16384) = false := by simp; omega
        have HNM := Lib.hid hmany
        have HONE := Lib.hid (rone_any k wr HSr.out HBY.out hlt)
        rw [← hcE] at HONE
        have HBd : Hid (∀ d ∈ bs.drop (k + 1), Byte d) := Lib.hid (fun d hd => HBY.out d (List.mem_of_mem_drop hd))
        clear hmany hcE
        cases hz : oneR bs.length c (bs.drop (k + 1)) with
        | error z =>
          obtain ⟨no, kk⟩ := z
          have hno := oneR_no hz
          simp only at hno
          have dno : (no != 0) = true := by simp; omega
          have HBAD : Hid (decGo bs.length bs [] = .error (no, kk)) := Lib.hid (by rw [HE.out, HDR.out, dec_one, if_neg HNM.out, hz])
          have HO1 : Hid (Calls Tryz.prog 73 #[.slice A bs.length cap, .int .i64 (k : Nat)] wr fun e w' => e = .returned (.tuple #[.agg #[.int .i64 0, .int .i64 0, .int .i64 0, .int .i64 0, .int .u64 0], .int .i64 0, .int .i64 no, .int .i64 (kk : Nat)]) ∧ Below wr.heap.size wr w') := Lib.hid (HONE.out.mono fun e w' h => by unfold OnePost at h; rw [hz] at h; exact h)
          clear hz hno HONE
          go_wp2_with (go_at_call 73; refine HO1.out.mono ?_; rintro e w2 ⟨rfl, hb2⟩; have HB2 : Hid (Below w.heap.size w w2) := Lib.hid (HB.out.trans (hb2.mono hsz)); have hs2 : w.heap.size ≤ w2.heap.size := HB2.out.size; clear hb2)
          go_ret3
          exact RDecPost.bad HBAD.out rfl (HB2.out.alloc hs2 _)
        | ok z =>
          obtain ⟨r, x⟩ := z
          obtain ⟨m, hm⟩ := oneR_suffix HBd.out hz
          obtain ⟨hr1, hr2⟩ := drop_suffix (show k + 1 ≤ bs.length from hlt) hm
          obtain ⟨q, hq⟩ : ∃ q, q = bs.length - r.length := ⟨_, rfl⟩
          have hrl : r.length ≤ (bs.drop (k + 1)).length := by rw [hm, List.length_append]; omega
          have HEN : Hid (decGo bs.length bs [] = decGo bs.length (bs.drop q) (p ++ [x])) := Lib.hid (by rw [HE.out, HDR.out, dec_one, if_neg HNM.out, hz]; simp only []; rw [if_pos hrl, hq, ← hr1])
          have HO1 : Hid (Calls Tryz.prog 73 #[.slice A bs.length cap, .int .i64 (k : Nat)] wr fun e w' => e = .returned (.tuple #[.agg #[.int .i64 x.op, .int .i64 x.a, .int .i64 x.b, .int .i64 x.n, .int .u64 x.imm], .int .i64 (q : Nat), .int .i64 0, .int .i64 (-1)]) ∧ Below wr.heap.size wr w') := Lib.hid (HONE.out.mono fun e w' h => by unfold OnePost at h; rw [hz] at h; rw [hq]; exact h)
          rw [← hq] at hr2
          have hq2 : q ≤ bs.length := by omega
          have hpl2 : p.length + 1 ≤ 16384 := by have := HNM.out; omega
          clear hz hm hr1 hq hrl HONE
          obtain ⟨x0, x1, x2, x3, x4⟩ := x
          go_wp2_with (first
            | (go_at_call 73; refine HO1.out.mono ?_; rintro e w2 ⟨rfl, hb2⟩; have HB2 : Hid (Below w.heap.size w w2) := Lib.hid (HB.out.trans (hb2.mono hsz)); have hs2 : w.heap.size ≤ w2.heap.size := HB2.out.size; have HO2 := Lib.hid (own_kept HO.out hb2); clear hb2)
            | (at_builtin; refine wpList_append_own _ rfl _ _ 26 (by rfl) w.heap.size 25 i0 (.agg #[.int .i64 0, .int .i64 0, .int .i64 0, .int .i64 0, .int .u64 0]) 5 40 Tryz.underlying26 hi hi0 hi1 hi2 (by rfl) (by decide) (.slice pA p.length pc) p.length (p.flatMap insC) (by rfl) (by exact (HO2.out.alloc _).alloc _) ⟨w2.heap.size + 1, 0, none⟩ 1 1 [.int .i64 x0, .int .i64 x1, .int .i64 x2, .int .i64 x3, .int .u64 x4] (by rfl) (by rfl) (by exact has_news (Has.new1 w2 _ _ _)) (insE_one w2 (fun _ => True) _ ⟨x0, x1, x2, x3, x4⟩ rfl) (by unfold maxLen; omega) (by omega) (by simp; omega) ?_; intro v3 w3 ho3 hg3 _; have HO3 := Lib.hid ho3; have HB3 : Hid (Below w.heap.size w w3) := Lib.hid (((HB2.out.alloc hs2 _).alloc (by simp; omega) _).grown hg3 (by simp; omega) (fun i hi => (HO2.out.lt i hi).1)); clear ho3 hg3))
          go_roundw
          case rel => exact ⟨q, n + 1, p ++ [⟨x0, x1, x2, x3, x4⟩], hq2, by omega, by simp; omega, rfl, by go_num, Lib.hid (by rw [List.length_append, List.flatMap_append]; simpa [insC] using HO3.out), HEN, HB3⟩
          case measure => simp [intOf]; omega
    · obtain rfl : k = bs.length := by omega
      have HGOOD : Hid (decGo bs.length bs [] = .ok p) := Lib.hid (by rw [HE.out, List.drop_length, decGo_nil])
      go_wp2
      go_ret3
      unfold RDecPost
      rw [HGOOD.out]
      exact ⟨pA, pc, rfl, HO.out, HB.out⟩
end codeW
end Go.Proofs.YtbbfpbmogklomaaGreatDoor
