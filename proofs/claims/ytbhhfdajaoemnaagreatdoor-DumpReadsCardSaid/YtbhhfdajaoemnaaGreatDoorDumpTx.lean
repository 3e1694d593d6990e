/- Plain: a trace's line printed, a text parsed; there and back. No program in sight. -/
import Derived.Test.YtbhhfdajaoemnaaGreatDoorDumpLaw
namespace Go.Bus.dumpK
open Go.Bus.hexK Go.Bus.textK Go.Lib
set_option linter.unusedVariables false
structure Ln where
  time : Nat
  port : List UInt8
  id : Nat
  wide : Bool
  data : List Int
  deriving DecidableEq
def letB (c : UInt8) : Bool := (decide (97 ≤ c.toNat) && decide (c.toNat ≤ 122)) || (decide (65 ≤ c.toNat) && decide (c.toNat ≤ 90)) || decide (c.toNat = 95)
def nameB (l : List UInt8) : Bool := decide (l.length ≤ 64) && (match l with
  | [] => false
  | c :: r => letB c && r.all fun c => letB c || isDig c)
def most (wide : Bool) : Nat := if wide then 536870911 else 2047
def wid (wide : Bool) : Nat := if wide then 8 else 3
def secs (t : Nat) : List UInt8 := decDigits (t / 1000000)
def dataT (d : List Int) : List UInt8 := d.flatMap fun c => numN 16 2 c.toNat
def lineD (l : Ln) : List UInt8 := 40 :: (secs l.time ++ 46 :: (numN 10 6 (l.time % 1000000) ++ 41 :: 32 :: (l.port ++ 32 :: (numN 16 (wid l.wide) l.id ++ 35 :: dataT l.data))))
/-- What is wrong with a line: the error's number; 0: nothing. -/
def wrong (l : Ln) : Int := if nameB l.port = false then 11 else if most l.wide < l.id then 26 else if 8 < l.data.length then 15 else 0
structure Ln.Ok (l : Ln) : Prop where
  time : l.time < 18446744073709551616
  id : l.id < 4294967296
  data : ∀ c ∈ l.data, 0 ≤ c ∧ c < 256
/-! ## cutting -/
def cutAt (c : UInt8) : List UInt8 → Option (List UInt8 × List UInt8)
  | [] => none
  | x :: r => if x = c then some ([], r) else match cutAt c r with
    | none => none
    | some p => some (x :: p.1, p.2)
theorem cutAt_app (c : UInt8) (r : List UInt8) : ∀ (a : List UInt8), c ∉ a → cutAt c (a ++ c :: r) = some (a, r)
  | [], _ => by simp [cutAt]
  | x :: a, h => by
    have hx : x ≠ c := fun e => h (by rw [e]; exact List.mem_cons_self ..)
    rw [List.cons_append, cutAt, if_neg hx, cutAt_app c r a (fun e => h (List.mem_cons_of_mem _ e))]
theorem cutAt_some {c : UInt8} : ∀ {l a r : List UInt8}, cutAt c l = some (a, r) → l = a ++ c :: r ∧ c ∉ a
  | [], a, r, h => by cases h
  | x :: l, a, r, h => by
    rw [cutAt] at h
    by_cases hx : x = c
    · rw [if_pos hx] at h
      cases h
      exact ⟨by rw [hx]; rfl, by simp⟩
    · rw [if_neg hx] at h
      cases e : cutAt c l with
      | none => rw [e] at h; cases h
      | some p =>
        rw [e] at h
        obtain ⟨p1, p2⟩ := p
        cases h
        obtain ⟨h1, h2⟩ := cutAt_some e
        exact ⟨by rw [h1]; rfl, by intro hm; rcases List.mem_cons.1 hm with e | e; exact hx e.symm; exact h2 e⟩
structure Pcs where
  a : List UInt8
  b : List UInt8
  c : List UInt8
  d : List UInt8
  e : List UInt8
/-- A line's pieces, whatever they are; none: a sign is lacking. -/
def pieces (S : List UInt8) : Option Pcs :=
  match S with
  | [] => none
  | x :: r0 => if x = 40 then
      match cutAt 46 r0 with
      | none => none
      | some (a, r1) => match cutAt 41 r1 with
        | none => none
        | some (b, r2) => match r2 with
          | [] => none
          | y :: r3 => if y = 32 then
              match cutAt 32 r3 with
              | none => none
              | some (c, r4) => match cutAt 35 r4 with
                | none => none
                | some (d, e) => some ⟨a, b, c, d, e⟩
            else none
    else none
def shaped (p : Pcs) : Bool := good p.a && decide (p.b.length = 6) && allD 10 p.b && !p.c.isEmpty && (decide (p.d.length = 3) || decide (p.d.length = 8)) && allD 16 p.d && decide (p.e.length % 2 = 0) && allD 16 p.e
def joinP (p : Pcs) : List UInt8 := 40 :: (p.a ++ 46 :: (p.b ++ 41 :: 32 :: (p.c ++ 32 :: (p.d ++ 35 :: p.e))))
theorem pieces_join {S : List UInt8} {p : Pcs} (h : pieces S = some p) : S = joinP p ∧ (46 : UInt8) ∉ p.a ∧ (41 : UInt8) ∉ p.b ∧ (32 : UInt8) ∉ p.c ∧ (35 : UInt8) ∉ p.d := by
  unfold pieces at h
  cases S with
  | nil => cases h
  | cons x r0 =>
    simp only at h
    by_cases hx : x = 40
    · rw [if_pos hx] at h
      cases e1 : cutAt 46 r0 with
      | none => rw [e1] at h; cases h
      | some p1 =>
        obtain ⟨a, r1⟩ := p1
        rw [e1] at h
        simp only at h
        cases e2 : cutAt 41 r1 with
        | none => rw [e2] at h; cases h
        | some p2 =>
          obtain ⟨b, r2⟩ := p2
          rw [e2] at h
          simp only at h
          cases r2 with
          | nil => cases h
          | cons y r3 =>
            simp only at h
            by_cases hy : y = 32
            · rw [if_pos hy] at h
              cases e3 : cutAt 32 r3 with
              | none => rw [e3] at h; cases h
              | some p3 =>
                obtain ⟨c, r4⟩ := p3
                rw [e3] at h
                simp only at h
                cases e4 : cutAt 35 r4 with
                | none => rw [e4] at h; cases h
                | some p4 =>
                  obtain ⟨d, e⟩ := p4
                  rw [e4] at h
                  simp only at h
                  cases h
                  obtain ⟨h1, h1'⟩ := cutAt_some e1
                  obtain ⟨h2, h2'⟩ := cutAt_some e2
                  obtain ⟨h3, h3'⟩ := cutAt_some e3
                  obtain ⟨h4, h4'⟩ := cutAt_some e4
                  refine ⟨?_, h1', h2', h3', h4'⟩
                  unfold joinP
                  rw [hx, h1, h2, hy, h3, h4]
            · rw [if_neg hy] at h; cases h
    · rw [if_neg hx] at h; cases h
theorem join_pieces {p : Pcs} (h1 : (46 : UInt8) ∉ p.a) (h2 : (41 : UInt8) ∉ p.b) (h3 : (32 : UInt8) ∉ p.c) (h4 : (35 : UInt8) ∉ p.d) : pieces (joinP p) = some p := by
  unfold joinP pieces
  simp only
  rw [if_pos trivial, cutAt_app _ _ _ h1]
  simp only
  rw [cutAt_app _ _ _ h2]
  simp only
  rw [if_pos trivial, cutAt_app _ _ _ h3]
  simp only
  rw [cutAt_app _ _ _ h4]
def pairs : List UInt8 → List Int
  | x :: y :: r => ((dv x * 16 + dv y : Nat) : Int) :: pairs r
  | _ => []
/-- What is wrong with a text, or its line. -/
def parseF (S : List UInt8) : Except Int Ln :=
  match pieces S with
  | none => .error 4
  | some p => if shaped p = false then .error 4 else
    if 18446744073709551616 ≤ valN 10 (p.a ++ p.b) then .error 9 else
    if nameB p.c = false then .error 11 else
    if most (decide (p.d.length = 8)) < valN 16 p.d then .error 26 else
    if 16 < p.e.length then .error 15 else
    .ok ⟨valN 10 (p.a ++ p.b), p.c, valN 16 p.d, decide (p.d.length = 8), pairs p.e⟩
theorem pairs_len : ∀ (n : Nat) (l : List UInt8), l.length = n → 2 * (pairs l).length = l.length - l.length % 2 ∧ (∀ c ∈ pairs l, allD 16 l = true → 0 ≤ c ∧ c < 256) := by
  intro n
  induction n using Nat.strongRecOn with
  | ind n ih =>
    intro l hl
    match l, hl with
    | [], _ => exact ⟨rfl, fun c h => by cases h⟩
    | [x], _ => exact ⟨rfl, fun c h => by cases h⟩
    | x :: y :: r, hl =>
      have hr : r.length < n := by simp at hl; omega
      obtain ⟨i1, i2⟩ := ih r.length hr r rfl
      refine ⟨by simp only [pairs, List.length_cons]; omega, ?_⟩
      intro c hc ha
      unfold allD at ha
      rw [List.all_cons, List.all_cons, Bool.and_eq_true, Bool.and_eq_true] at ha
      rcases List.mem_cons.1 hc with rfl | hc
      · have h1 := (isD_dv ha.1).1
        have h2 := (isD_dv ha.2.1).1
        omega
      · exact i2 c hc ha.2.2
theorem data_pairs : ∀ (n : Nat) (l : List UInt8), l.length = n → n % 2 = 0 → allD 16 l = true → dataT (pairs l) = l := by
  intro n
  induction n using Nat.strongRecOn with
  | ind n ih =>
    intro l hl h2 ha
    match l, hl with
    | [], _ => rfl
    | [x], hl => simp at hl; omega
    | x :: y :: r, hl =>
      have hr : r.length < n := by simp at hl; omega
      unfold allD at ha
      rw [List.all_cons, List.all_cons, Bool.and_eq_true, Bool.and_eq_true] at ha
      have hi := ih r.length hr r rfl (by simp at hl; omega) ha.2.2
      obtain ⟨h1, h1'⟩ := isD_dv ha.1
      obtain ⟨h2, h2'⟩ := isD_dv ha.2.1
      unfold dataT at hi ⊢
      rw [pairs, List.flatMap_cons, hi]
      have e : ((dv x * 16 + dv y : Nat) : Int).toNat = dv x * 16 + dv y := Int.toNat_natCast _
      rw [e]
      have e1 : (dv x * 16 + dv y) / 16 = dv x := by omega
      have e2 : (dv x * 16 + dv y) % 16 = dv y := by omega
      have e3 : numN 16 2 (dv x * 16 + dv y) = [x, y] := by
        show [hexU ((dv x * 16 + dv y) / 16 % 16), hexU ((dv x * 16 + dv y) % 16)] = [x, y]
        rw [e1, e2, Nat.mod_eq_of_lt h1, h1', h2']
      rw [e3]; rfl
theorem pairs_data : ∀ (d : List Int), (∀ c ∈ d, 0 ≤ c ∧ c < 256) → pairs (dataT d) = d ∧ allD 16 (dataT d) = true ∧ (dataT d).length = 2 * d.length
  | [], _ => ⟨rfl, rfl, rfl⟩
  | c :: d, h => by
    obtain ⟨i1, i2, i3⟩ := pairs_data d fun x hx => h x (List.mem_cons_of_mem _ hx)
    obtain ⟨c0, c1⟩ := h c (List.mem_cons_self ..)
    have hc : c.toNat < 256 := by omega
    have hn : numN 16 2 c.toNat = [hexU (c.toNat / 16 % 16), hexU (c.toNat % 16)] := rfl
    unfold dataT at i1 i2 i3 ⊢
    rw [List.flatMap_cons, hn, List.cons_append, List.cons_append, List.nil_append]
    refine ⟨?_, ?_, by simp [i3]; omega⟩
    · show ((dv (hexU (c.toNat / 16 % 16)) * 16 + dv (hexU (c.toNat % 16)) : Nat) : Int) :: pairs _ = c :: d
      rw [i1, dv_hexU (by omega), dv_hexU (by omega)]
      congr 1; omega
    · show allD 16 (hexU (c.toNat / 16 % 16) :: hexU (c.toNat % 16) :: _) = true
      unfold allD at i2 ⊢
      rw [List.all_cons, List.all_cons, i2, isD_hexU (by omega) (by decide), isD_hexU (by omega) (by decide)]; rfl
theorem mem_allD {b : Nat} {l : List UInt8} {c : UInt8} (h : allD b l = true) (hc : isD b c = false) : c ∉ l := by
  intro hm
  unfold allD at h
  have := List.all_eq_true.1 h c hm
  rw [hc] at this; cases this
theorem name_mem {l : List UInt8} {c : UInt8} (h : nameB l = true) (hc : letB c = false) (hd : isDig c = false) : c ∉ l := by
  intro hm
  unfold nameB at h
  cases l with
  | nil => cases hm
  | cons x r =>
    simp only [Bool.and_eq_true] at h
    rcases List.mem_cons.1 hm with rfl | hm
    · rw [h.2.1] at hc; cases hc
    · have := List.all_eq_true.1 h.2.2 c hm
      rw [hc, hd] at this; cases this
def toP (l : Ln) : Pcs := ⟨secs l.time, numN 10 6 (l.time % 1000000), l.port, numN 16 (wid l.wide) l.id, dataT l.data⟩
theorem line_join (l : Ln) : lineD l = joinP (toP l) := rfl
theorem right_of {l : Ln} (h : wrong l = 0) : nameB l.port = true ∧ l.id ≤ most l.wide ∧ l.data.length ≤ 8 := by
  unfold wrong at h
  split at h
  · cases h
  · rename_i h1
    split at h
    · cases h
    · rename_i h2
      split at h
      · cases h
      · rename_i h3
        exact ⟨by simpa using h1, by omega, by omega⟩
theorem most_lt (w : Bool) : most w < 16 ^ wid w := by cases w <;> decide
/-- What is printed is read. -/
theorem there {l : Ln} (ho : l.Ok) (h : wrong l = 0) : parseF (lineD l) = .ok l := by
  obtain ⟨hn, hi, hd⟩ := right_of h
  have hda := allD_numN (b := 10) (by decide) (by decide) 6 (l.time % 1000000)
  have hia := allD_numN (b := 16) (by decide) (by decide) (wid l.wide) l.id
  have hsa : (secs l.time).all isDig = true := dec_all _
  obtain ⟨d1, d2, d3⟩ := pairs_data l.data ho.data
  have hp : pieces (lineD l) = some (toP l) := by
    rw [line_join]
    refine join_pieces ?_ ?_ ?_ ?_
    · exact mem_allD (b := 10) (by rw [allD_dig]; exact hsa) (by decide)
    · exact mem_allD hda (by decide)
    · exact name_mem hn (by decide) (by decide)
    · exact mem_allD hia (by decide)
  have hw : wid l.wide = 3 ∨ wid l.wide = 8 := by cases l.wide <;> decide
  have hne : l.port.isEmpty = false := by
    unfold nameB at hn
    cases hpt : l.port with
    | nil => rw [hpt] at hn; simp at hn
    | cons x r => rfl
  have hs : shaped (toP l) = true := by
    unfold shaped toP
    simp only [numN_len, hda, hia, d2, hne, d3, dec_good, secs]
    rcases hw with e | e <;> rw [e] <;> simp <;> omega
  have hv : valN 10 (secs l.time ++ numN 10 6 (l.time % 1000000)) = l.time := by
    rw [valN_append, numN_len, valN_numN (by decide) (by decide) 6 _ (by have := Nat.mod_lt l.time (show 0 < 1000000 by decide); omega), valN_val _ _ rfl hsa]
    unfold secs
    rw [dec_val]
    have : (10 : Nat) ^ 6 = 1000000 := by decide
    rw [this, Nat.mul_comm, Nat.div_add_mod]
  have hiv : valN 16 (numN 16 (wid l.wide) l.id) = l.id := valN_numN (by decide) (by decide) _ _ (Nat.lt_of_le_of_lt hi (most_lt _))
  have hwd : decide ((numN 16 (wid l.wide) l.id).length = 8) = l.wide := by rw [numN_len]; cases l.wide <;> rfl
  unfold parseF
  rw [hp]
  simp only [hs]
  rw [if_neg (by simp)]
  unfold toP
  simp only [hv, hiv, hwd, d1, d3]
  rw [if_neg (by have := ho.time; omega), if_neg (by simp [hn]), if_neg (by omega), if_neg (by omega)]
/-- What is read has that very form. -/
theorem back {S : List UInt8} {l : Ln} (h : parseF S = .ok l) : lineD l = S ∧ wrong l = 0 ∧ l.Ok := by
  unfold parseF at h
  cases hp : pieces S with
  | none => rw [hp] at h; cases h
  | some p =>
    rw [hp] at h
    simp only at h
    split at h
    · cases h
    rename_i hs
    split at h
    · cases h
    rename_i hv
    split at h
    · cases h
    rename_i hn
    split at h
    · cases h
    rename_i hi
    split at h
    · cases h
    rename_i he
    cases h
    have hs' : shaped p = true := by simpa using hs
    unfold shaped at hs'
    simp only [Bool.and_eq_true] at hs'
    obtain ⟨⟨⟨⟨⟨⟨⟨s1, s2⟩, s3⟩, s4⟩, s5⟩, s6⟩, s7⟩, s8⟩ := hs'
    have s2 := of_decide_eq_true s2
    have s7 := of_decide_eq_true s7
    have ha := good_all s1
    have h1 := (pieces_join hp).1
    obtain ⟨b1, b2⟩ := numN_valN (b := 10) (by decide) 6 p.b s2 s3
    have hw : p.d.length = wid (decide (p.d.length = 8)) := by
      rw [Bool.or_eq_true] at s5
      rcases s5 with e | e
      · have e := of_decide_eq_true e; rw [e]; rfl
      · have e := of_decide_eq_true e; rw [e]; rfl
    obtain ⟨d1, d2⟩ := numN_valN (b := 16) (by decide) _ p.d hw s6
    have e10 : (10 : Nat) ^ 6 = 1000000 := by decide
    rw [e10] at b2
    have hv1 : valN 10 (p.a ++ p.b) = valN 10 p.a * 1000000 + valN 10 p.b := by rw [valN_append, s2, e10]
    have hq : valN 10 (p.a ++ p.b) / 1000000 = valN 10 p.a := by rw [hv1]; omega
    have hm : valN 10 (p.a ++ p.b) % 1000000 = valN 10 p.b := by rw [hv1]; omega
    have hsec : secs (valN 10 (p.a ++ p.b)) = p.a := by
      unfold secs
      rw [hq, valN_val _ _ rfl ha]
      exact textK.back s1
    have hdt := data_pairs _ p.e rfl s7 s8
    obtain ⟨l1, l2⟩ := pairs_len _ p.e rfl
    refine ⟨?_, ?_, ?_⟩
    · rw [h1, line_join]
      unfold toP
      simp only [hsec, hm, b1, d1, hdt]
    · unfold wrong
      simp only
      rw [if_neg hn, if_neg hi, if_neg (by omega)]
    · refine ⟨by show valN 10 (p.a ++ p.b) < _; omega, ?_, fun c hc => l2 c hc s8⟩
      show valN 16 p.d < 4294967296
      have : most (decide (p.d.length = 8)) ≤ 536870911 := by unfold most; split <;> omega
      omega
end Go.Bus.dumpK
