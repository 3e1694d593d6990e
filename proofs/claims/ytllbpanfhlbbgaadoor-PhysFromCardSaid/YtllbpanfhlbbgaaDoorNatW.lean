/- Walks of the document's natural numbers (busbarref02): trim, from, digit, held, plus, less. Condition: at most 1000 digits. -/
import Derived.Test.YtllbpanfhlbbgaaDoorBase
import Derived.Test.YtllbpanfhlbbgaaDoorProg
import Derived.Test.YtllbpanfhlbbgaaDoorNatLaw
namespace Go.Proofs.YtllbpanfhlbbgaaDoor
open Go.RowKit Go.Bus Go.Nt
set_option linter.unusedVariables false
set_option linter.unusedSimpArgs false
namespace natW
def N32 (d : Nat) : Value := .int .u32 (d : Int)
/-- The slice v reads as the digits of n. -/
def Nt (w : World) (v : Value) (n : Nat) : Prop := Sl w w.heap.size N32 v (digs n)
theorem Nt.at_below {w W : World} {v : Value} {n : Nat} (h : Nt w v n) (hb : Below w.heap.size w W) : Nt W v n := Sl.at_below h hb
theorem sl_take {α : Type} {w : World} {B n cap m : Nat} {f : α → Value} {A : Option Addr} {l : List α} (h : Sl w B f (.slice A n cap) l) (hm : m ≤ l.length) : Sl w B f (.slice A m cap) (l.take m) := by
  obtain ⟨A', cap', hv, h1, h2, hx⟩ := h
  simp only [Value.slice.injEq] at hv
  obtain ⟨rfl, rfl, rfl⟩ := hv
  have hl : (l.take m).length = m := by rw [List.length_take]; omega
  refine ⟨A, cap, by rw [hl], by omega, h2, fun h0 => ?_⟩
  obtain ⟨b, off, e, hb, hc⟩ := hx (by omega)
  refine ⟨b, off, e, hb, fun i x hi => hc i x ?_⟩
  rw [List.getElem?_take] at hi
  split at hi
  · exact hi
  · cases hi

/-- The slice lies at or above block B. -/
def NB (B : Nat) (v : Value) : Prop := ∀ b o n c, v = .slice (some ⟨b, o, none⟩) n c → B ≤ b
set_option maxRecDepth 100000 in
set_option maxHeartbeats 1000000 in
theorem trim_new (v : Value) (l : List Nat) (w : World) (h : Sl w w.heap.size N32 v l) (hlt : ∀ d ∈ l, d < 4294967296) :
    Calls Tryd.prog 72 #[v] w fun e w' => (∃ u, e = .returned u ∧ Nt w u (val l) ∧ ∀ B, NB B v → NB B u) ∧ w = w' := by
  obtain ⟨A, cap, rfl, n1, n2⟩ := h.form
  have n3 : cap ≤ 9223372036854775807 := by unfold maxLen at n2; omega
  have HS := Lib.hid h
  have HL := Lib.hid hlt
  clear h hlt n2
  go_enter Tryd.func72, Tryd.ntmps72
  go_wp2
  go_loopw [3] (fun i wr => ∃ m : Nat, i = .int .i64 m ∧ m ≤ l.length ∧ Hid (∀ d ∈ l.drop m, d = 0) ∧ wr = w) (fun i _ => (intOf i).toNat)
  case atStart => exact ⟨l.length, rfl, Nat.le_refl _, Lib.hid (by simp), rfl⟩
  case round =>
    obtain ⟨m, rfl, hm, HD, rfl⟩ := hrel
    rcases Nat.eq_zero_or_pos m with rfl | hpos
    · go_wp2
      go_ret
      refine ⟨⟨_, rfl, ?_, ?_⟩, rfl⟩
      rotate_left
      · intro B hB b o n c e; change Value.slice _ _ _ = _ at e; simp only [Value.slice.injEq] at e; exact hB b o _ _ (by rw [e.1])
      unfold Nt
      rw [← trim_law (m := 0) (Nat.zero_le _) HL.out HD.out (.inl rfl)]
      exact sl_take HS.out (Nat.zero_le _)
    · obtain ⟨k, rfl⟩ : ∃ k, m = k + 1 := ⟨m - 1, by omega⟩
      have hk : k < l.length := by omega
      obtain ⟨b, off, rfl, hb, hc⟩ := HS.out.at_ hk
      have hx := List.getElem?_eq_getElem hk
      have hdr : l.drop k = l[k] :: l.drop (k + 1) := List.drop_eq_getElem_cons hk
      generalize l[k] = x at *
      have hc' : wr.cell? ⟨b, off + k, none⟩ = some (.int .u32 (x : Int)) := hc
      have HX := Lib.hid hx
      have HDR := Lib.hid hdr
      have e1 : ((k + 1 : Nat) : Int) = (k : Int) + 1 := by omega
      rw [e1]
      clear hc hx hdr e1
      by_cases h0 : x = 0
      · have hq : ((x : Int) == 0) = true := by rw [beq_iff_eq]; omega
        have H0 := Lib.hid h0
        clear h0
        go_wp2
        go_roundw
        case rel => exact ⟨k, by go_num, by omega, Lib.hid (by rw [HDR.out]; intro d hd; rcases List.mem_cons.1 hd with rfl | h1; exact H0.out; exact HD.out d h1), by first | rfl | trivial⟩
        case measure => simp [intOf]
      · have hq : ((x : Int) == 0) = false := by rw [beq_eq_false_iff_ne]; omega
        have H0 := Lib.hid h0
        clear h0
        go_wp2
        go_ret
        refine ⟨⟨_, rfl, ?_, ?_⟩, rfl⟩
        rotate_left
        · intro B hB b o n c e; change Value.slice _ _ _ = _ at e; simp only [Value.slice.injEq] at e; exact hB b o _ _ (by rw [e.1])
        unfold Nt
        rw [← trim_law (m := k + 1) hm HL.out HD.out (.inr ⟨x, HX.out, H0.out⟩)]
        exact sl_take HS.out hm

theorem trim_any (v : Value) (l : List Nat) (w : World) (h : Sl w w.heap.size N32 v l) (hlt : ∀ d ∈ l, d < 4294967296) :
    Calls Tryd.prog 72 #[v] w fun e w' => (∃ u, e = .returned u ∧ Nt w u (val l)) ∧ w = w' :=
  (trim_new v l w h hlt).mono fun e w' ⟨⟨u, h1, h2, _⟩, h3⟩ => ⟨⟨u, h1, h2⟩, h3⟩

set_option maxRecDepth 100000 in
set_option maxHeartbeats 1000000 in
theorem digit_any (v : Value) (n i : Nat) (w : World) (h : Nt w v n) (hi : i ≤ 4611686018427387904) :
    Calls Tryd.prog 88 #[v, .int .i64 (i : Int)] w fun e w' => e = .returned (.int .u64 ((n / 4294967296 ^ i % 4294967296 : Nat) : Int)) ∧ w = w' := by
  have hg := digs_get i n
  obtain ⟨A, cap, rfl, n1, n2⟩ := Sl.form h
  have n3 : cap ≤ 9223372036854775807 := by unfold maxLen at n2; omega
  have HS := Lib.hid (show Sl w w.heap.size N32 _ (digs n) from h)
  have HLT := Lib.hid (digs_lt n)
  rw [← hg]
  clear h hg n2
  generalize digs n = l at *
  by_cases hlt : i < l.length
  · obtain ⟨b, off, rfl, hb, hc⟩ := HS.out.at_ hlt
    have hd : l.getD i 0 = l[i] := by rw [List.getD_eq_getElem?_getD, List.getElem?_eq_getElem hlt]; rfl
    rw [hd]
    have hxl : l[i] < 4294967296 := HLT.out _ (List.getElem_mem hlt)
    generalize l[i] = x at *
    have hc' : w.cell? ⟨b, off + i, none⟩ = some (.int .u32 (x : Int)) := hc
    have hw : IntKind.u64.wrap (x : Int) = (x : Int) := by rw [IntKind.wrap_u64]; omega
    clear hc hd
    go_enter Tryd.func88, Tryd.ntmps88
    go_wp2
    go_ret
    exact ⟨rfl, rfl⟩
  · have hd : l.getD i 0 = 0 := by rw [List.getD_eq_getElem?_getD, List.getElem?_eq_none (by omega)]; rfl
    rw [hd]
    clear hd
    go_enter Tryd.func88, Tryd.ntmps88
    go_wp2
    go_ret
    exact ⟨rfl, rfl⟩

def cmpN (a b : Nat) : Int := if a < b then -1 else if b < a then 1 else 0
theorem len_big {n i : Nat} (h : (digs n).length ≤ i) : n / 4294967296 ^ i = 0 := Nat.div_eq_of_lt ((digs_len_iff n i).1 h)

set_option maxRecDepth 100000 in
set_option maxHeartbeats 1000000 in
theorem held_any (v u : Value) (a b : Nat) (w : World) (h : Nt w v a) (h' : Nt w u b) (ha : (digs a).length ≤ 1000) (hb : (digs b).length ≤ 1000) :
    Calls Tryd.prog 73 #[v, u] w fun e w' => e = .returned (.int .i64 (cmpN a b)) ∧ w = w' := by
  obtain ⟨A, cap, rfl, n1, n2⟩ := Sl.form h
  obtain ⟨A', cap', rfl, m1, m2⟩ := Sl.form h'
  have HA := Lib.hid h
  have HB := Lib.hid h'
  have la := Lib.hid (fun i (hi : (digs a).length ≤ i) => len_big hi)
  have lb := Lib.hid (fun i (hi : (digs b).length ≤ i) => len_big hi)
  clear h h' n2 m2
  generalize (digs a).length = x at *
  generalize (digs b).length = y at *
  obtain ⟨M, hM⟩ : ∃ M, M = max x y := ⟨_, rfl⟩
  have hxM : x ≤ M := by omega
  have hyM : y ≤ M := by omega
  have hM2 : M ≤ 1000 := by omega
  rcases (by omega : x < y ∧ y = M ∨ y < x ∧ x = M ∨ x = y ∧ x = M) with ⟨hxy, hM'⟩ | ⟨hxy, hM'⟩ | ⟨rfl, hM'⟩
  all_goals
    have HM := Lib.hid hM'
    clear hM hM'
    go_enter Tryd.func73, Tryd.ntmps73
    go_wp2
    go_loopw [5] (fun i wr => ∃ m : Nat, i = .int .i64 ((m : Int) - 1) ∧ m ≤ M ∧ Hid (a / 4294967296 ^ m = b / 4294967296 ^ m) ∧ wr = w) (fun i _ => (intOf i + 1).toNat)
    case atStart => exact ⟨M, by rw [HM.out], Nat.le_refl _, Lib.hid (by rw [la.out M hxM, lb.out M hyM]), rfl⟩
    case round =>
      obtain ⟨m, rfl, hm, HE, rfl⟩ := hrel
      rcases Nat.eq_zero_or_pos m with rfl | hpos
      · have hc : cmpN a b = 0 := by
          have := HE.out
          simp only [Nat.pow_zero, Nat.div_one] at this
          unfold cmpN; rw [if_neg (by omega), if_neg (by omega)]
        have HC := Lib.hid hc
        clear hc
        go_wp2
        go_ret
        exact ⟨ret_int HC.out.symm, rfl⟩
      · obtain ⟨k, rfl⟩ : ∃ k, m = k + 1 := ⟨m - 1, by omega⟩
        have hd1 := div_next a k
        have hd2 := div_next b k
        rw [show ((k + 1 : Nat) : Int) - 1 = (k : Int) from by omega]
        obtain ⟨da, hda⟩ : ∃ d, d = a / 4294967296 ^ k % 4294967296 := ⟨_, rfl⟩
        obtain ⟨db, hdb⟩ : ∃ d, d = b / 4294967296 ^ k % 4294967296 := ⟨_, rfl⟩
        rw [← hda] at hd1
        rw [← hdb] at hd2
        rw [HE.out] at hd1
        have HD1 := Lib.hid hd1
        have HD2 := Lib.hid hd2
        have CA : Hid (∀ w V, Nt w V a → Calls Tryd.prog 88 #[V, .int .i64 (k : Int)] w fun e w' => e = .returned (.int .u64 (da : Int)) ∧ w = w') := Lib.hid fun w V h => by rw [hda]; exact digit_any _ a k w h (by omega)
        have CB : Hid (∀ w V, Nt w V b → Calls Tryd.prog 88 #[V, .int .i64 (k : Int)] w fun e w' => e = .returned (.int .u64 (db : Int)) ∧ w = w') := Lib.hid fun w V h => by rw [hdb]; exact digit_any _ b k w h (by omega)
        clear hda hdb hd1 hd2
        rcases (by omega : da < db ∨ db < da ∨ da = db) with h1 | h1 | h1
        · have hc : cmpN a b = -1 := by
            unfold cmpN
            have h2 : a < b := by
              rcases Nat.lt_or_ge a b with h | h
              · exact h
              · have := Nat.div_le_div_right (c := 4294967296 ^ k) h
                have e1 := HD1.out
                have e2 := HD2.out
                omega
            rw [if_pos h2]
          have HC := Lib.hid hc
          clear hc
          have d1 : decide ((da : Int) < (db : Int)) = true := decide_eq_true (by omega); have d1' : decide (da < db) = true := decide_eq_true (by omega)
          go_wp2_with (go_at_call 88; first | (refine (CA.out _ _ HA.out).mono ?_; rintro e w' ⟨rfl, rfl⟩; clear CA) | (refine (CB.out _ _ HB.out).mono ?_; rintro e w' ⟨rfl, rfl⟩; clear CB))
          go_ret
          exact ⟨ret_int HC.out.symm, rfl⟩
        · have hc : cmpN a b = 1 := by
            unfold cmpN
            have h2 : b < a := by
              rcases Nat.lt_or_ge b a with h | h
              · exact h
              · have := Nat.div_le_div_right (c := 4294967296 ^ k) h
                have e1 := HD1.out
                have e2 := HD2.out
                omega
            rw [if_neg (by omega), if_pos h2]
          have HC := Lib.hid hc
          clear hc
          have d1 : decide ((da : Int) < (db : Int)) = false := decide_eq_false (by omega); have d1' : decide (da < db) = false := decide_eq_false (by omega)
          have d2 : decide ((db : Int) < (da : Int)) = true := decide_eq_true (by omega); have d2' : decide (db < da) = true := decide_eq_true (by omega)
          go_wp2_with (go_at_call 88; first | (refine (CA.out _ _ HA.out).mono ?_; rintro e w' ⟨rfl, rfl⟩; clear CA) | (refine (CB.out _ _ HB.out).mono ?_; rintro e w' ⟨rfl, rfl⟩; clear CB))
          go_ret
          exact ⟨ret_int HC.out.symm, rfl⟩
        · have H1 := Lib.hid h1
          have d1 : decide ((da : Int) < (db : Int)) = false := decide_eq_false (by omega); have d1' : decide (da < db) = false := decide_eq_false (by omega)
          have d2 : decide ((db : Int) < (da : Int)) = false := decide_eq_false (by omega); have d2' : decide (db < da) = false := decide_eq_false (by omega)
          clear h1
          go_wp2_with (go_at_call 88; first | (refine (CA.out _ _ HA.out).mono ?_; rintro e w' ⟨rfl, rfl⟩; clear CA) | (refine (CB.out _ _ HB.out).mono ?_; rintro e w' ⟨rfl, rfl⟩; clear CB))
          go_roundw
          case rel => exact ⟨k, rfl, by omega, Lib.hid (by rw [HD1.out, HD2.out, H1.out]), by first | rfl | trivial⟩
          case measure => simp [intOf]
end natW
end Go.Proofs.YtllbpanfhlbbgaaDoor
