/- What phys.ToPhys and phys.ToRaw answer, of any signal. No condition. -/
import Derived.Test.YtllbpanfhlbbgaaDoorPhysT
namespace Go.Proofs.YtllbpanfhlbbgaaDoor
open Go.RowKit Go.Bus Go.Rt Go.Bus.dbK Go.Bus.rawK
set_option linter.unusedVariables false
set_option linter.unusedSimpArgs false
namespace physW
open ratW
def tpV (s : Sig) (u : Int) : Value := match toP s u with
  | .ok p => .tuple #[.agg #[.int .i64 p.1, .int .i64 p.2], .nilIface]
  | .error k => .tuple #[.agg #[.int .i64 0, .int .i64 0], ErV k]
def trV (s : Sig) (n d : Int) : Value := match toR s n d with
  | .ok v => .tuple #[.int .u64 v, .nilIface]
  | .error k => .tuple #[.int .u64 0, ErV k]
theorem tpV_ok {s : Sig} {u : Int} {p : Int × Int} (h : toP s u = .ok p) : tpV s u = .tuple #[.agg #[.int .i64 p.1, .int .i64 p.2], .nilIface] := by unfold tpV; rw [h]
theorem tpV_er {s : Sig} {u k : Int} (h : toP s u = .error k) : tpV s u = .tuple #[.agg #[.int .i64 0, .int .i64 0], ErV k] := by unfold tpV; rw [h]
theorem trV_ok {s : Sig} {n d v : Int} (h : toR s n d = .ok v) : trV s n d = .tuple #[.int .u64 v, .nilIface] := by unfold trV; rw [h]
theorem trV_er {s : Sig} {n d k : Int} (h : toR s n d = .error k) : trV s n d = .tuple #[.int .u64 0, ErV k] := by unfold trV; rw [h]
theorem erc0 {k : Int} (h : k = 0) : ercV k = .nilIface := by unfold ercV; rw [if_pos h]
theorem erc1 {k : Int} (h : ¬ k = 0) : ercV k = ErV k := by unfold ercV; rw [if_neg h]
def csOf (s : Sig) (v : Value) : Array Value := #[.int .i64 s.line, .int .i64 s.col, .string s.name, .int .i64 s.role, .int .u64 s.branch, .int .i64 s.start, .int .i64 s.size, .bool s.mot, .bool s.sgn, .int .i64 s.sn, .int .i64 s.sd, .int .i64 s.on, .int .i64 s.od, .int .i64 s.mn, .int .i64 s.md, .int .i64 s.xn, .int .i64 s.xd, .string s.unit, v]
theorem sigV_cs (s : Sig) (v : Value) : sigV s v = .agg (csOf s v) := rfl
theorem cs_size (s : Sig) (v : Value) : Hid ((csOf s v).size = 19) := Lib.hid rfl
theorem cs_info (s : Sig) (v : Value) : Hid ((Tryd.prog.info? 29).map (·.size) = some (csOf s v).size) := Lib.hid (by rw [show (csOf s v).size = 19 from rfl]; kernel_rfl)
theorem cs_one (s : Sig) (A : Option Addr) (n c : Nat) : Hid ((csOf s (.slice A n c)).all (·.oneCell') = true) := Lib.hid (by unfold csOf; simp [Value.oneCell'])
theorem mulV_of {an ad bn bd : Int} {p : Int × Int} (ha : rightB an ad = true) (hb : rightB bn bd = true) (h : mulO an ad bn bd = some p) : mulV an ad bn bd = .tuple #[.agg #[.int .i64 p.1, .int .i64 p.2], .nilIface] := by
  unfold mulV; rw [ha, hb, h]; rfl
theorem mulV_no {an ad bn bd : Int} (ha : rightB an ad = true) (hb : rightB bn bd = true) (h : mulO an ad bn bd = none) : mulV an ad bn bd = .tuple #[.agg #[.int .i64 0, .int .i64 0], ErV 9] := by
  unfold mulV; rw [ha, hb, h]; rfl
theorem divV_of {an ad bn bd : Int} {p : Int × Int} (ha : rightB an ad = true) (hb : rightB bn bd = true) (h0 : bn ≠ 0) (h : divO an ad bn bd = some p) : divV an ad bn bd = .tuple #[.agg #[.int .i64 p.1, .int .i64 p.2], .nilIface] := by
  unfold divV; rw [ha, hb, h, if_neg h0]; rfl
theorem divV_no {an ad bn bd : Int} (ha : rightB an ad = true) (hb : rightB bn bd = true) (h0 : bn ≠ 0) (h : divO an ad bn bd = none) : divV an ad bn bd = .tuple #[.agg #[.int .i64 0, .int .i64 0], ErV 9] := by
  unfold divV; rw [ha, hb, h, if_neg h0]; rfl
theorem sumV_of' {less : Bool} {an ad bn bd : Int} {p : Int × Int} (ha : rightB an ad = true) (hb : rightB bn bd = true) (h : sumO less an ad bn bd = some p) : sumV less an ad bn bd = .tuple #[.agg #[.int .i64 p.1, .int .i64 p.2], .nilIface] := by
  unfold sumV; rw [ha, hb, h]; rfl
theorem sumV_no {less : Bool} {an ad bn bd : Int} (ha : rightB an ad = true) (hb : rightB bn bd = true) (h : sumO less an ad bn bd = none) : sumV less an ad bn bd = .tuple #[.agg #[.int .i64 0, .int .i64 0], ErV 9] := by
  unfold sumV; rw [ha, hb, h]; rfl
theorem rndV_of {n d : Int} (h : rightB n d = true) : rndV n d = .tuple #[.int .i64 (rndZ n d), .nilIface] := by unfold rndV; rw [h]; rfl
theorem sg_parts {s : Sig} (h : sgR s = true) : rightB s.sn s.sd = true ∧ rightB s.on s.od = true := by
  unfold sgR at h; simp only [Bool.and_eq_true] at h; exact ⟨h.1.1.1, h.1.1.2⟩

theorem toP_val (s : Sig) (A : Option Addr) (m c : Nat) (u : Int) (w : World) (ok : RatsOk s) (u0 : 0 ≤ u) (u1 : u < 18446744073709551616) : Cl1 8 #[sigV s (.slice A m c), .int .u64 u] (tpV s u) w := by
  have R1 : Hid (Cl 27 #[.agg (csOf s (.slice A m c))] (ercV (rgE s))) := hidf fun w => right_sig s _ w ok
  have F1 : Hid (∀ w, Calls Tryd.prog 28 #[.int .u64 u, .int .i64 s.size, .bool s.sgn] w fun e w' => e = .returned (.bool (fitsB u s.size s.sgn)) ∧ w = w') := hidf fun w => rawW.fits_any _ _ _ w u0 u1
  have HN := cs_size s (.slice A m c)
  have HI := cs_info s (.slice A m c)
  have H1 := cs_one s A m c
  rw [sigV_cs]
  by_cases g1 : rgE s = 0
  case neg =>
    rw [erc1 g1] at R1
    rw [tpV_er (k := rgE s) (by unfold toP; rw [if_pos g1])]
    exact phys_1 (sz := 0) (on := 0) (od := 0) (sn := 0) (sd := 0) (q1 := 0) (q2 := 0) (r1 := 0) (r2 := 0) (sg := true) _ w HN HI H1 R1
  case pos =>
  rw [erc0 g1] at R1
  obtain ⟨hs, hz⟩ := rg_no g1
  obtain ⟨p1, p2⟩ := sg_parts hs
  by_cases g2 : fitsB u s.size s.sgn = false
  · rw [g2] at F1
    rw [tpV_er (k := 18) (by unfold toP; rw [if_neg (by omega), if_pos g2])]
    exact phys_2 (k := 0) (on := 0) (od := 0) (sn := 0) (sd := 0) (q1 := 0) (q2 := 0) (r1 := 0) (r2 := 0) _ w HN HI H1 R1 rfl rfl F1
  have g2' : fitsB u s.size s.sgn = true := by simpa using g2
  rw [g2'] at F1
  by_cases g3 : s.sgn = false ∧ 9223372036854775807 < u
  · rw [tpV_er (k := 9) (by unfold toP; rw [if_neg (by omega), if_neg g2, if_pos g3])]
    have hg : (csOf s (.slice A m c))[8]? = some (.bool false) := by rw [← g3.1]; rfl
    rw [g3.1] at F1
    exact phys_3 (k := 0) (on := 0) (od := 0) (sn := 0) (sd := 0) (q1 := 0) (q2 := 0) (r1 := 0) (r2 := 0) _ w HN HI H1 R1 rfl hg F1 (decide_eq_true g3.2)
  obtain ⟨w1, w2, w3⟩ := wrap_back u0 u1
  have hk : IntKind.i64.wrap u = wrap64 u := by unfold wrap64; rw [IntKind.wrap_i64]
  have M1 : Hid (Cl 29 #[.agg #[.int .i64 s.sn, .int .i64 s.sd], .agg #[.int .i64 (wrap64 u), .int .i64 1]] (mulV s.sn s.sd (wrap64 u) 1)) := hidf fun w => mul_val s.sn s.sd (wrap64 u) 1 w ok.sn.1 ok.sn.2 ok.sd w2 w3 (by omega)
  have key : ∀ {r : Except Int (Int × Int)}, (match mulO s.sn s.sd (wrap64 u) 1 with
      | none => .error 9
      | some p => match sumO false p.1 p.2 s.on s.od with
        | none => .error 9
        | some r => if inB s r.1 r.2 then .ok r else .error 18) = r → toP s u = r := by
    intro r h; unfold toP; rw [if_neg (by omega), if_neg g2, if_neg g3]; exact h
  cases e1 : mulO s.sn s.sd (wrap64 u) 1 with
  | none =>
    rw [mulV_no p1 (right_one _) e1] at M1
    rw [tpV_er (k := 9) (key (by rw [e1]))]
    cases hg : s.sgn
    · rw [hg] at F1
      exact phys_4f (on := 0) (od := 0) (q1 := 0) (q2 := 0) (r1 := 0) (r2 := 0) _ w HN HI H1 R1 rfl (by rw [← hg]; rfl) F1 (decide_eq_false (fun h => g3 ⟨hg, h⟩)) hk rfl rfl M1
    · rw [hg] at F1
      exact phys_4t (on := 0) (od := 0) (q1 := 0) (q2 := 0) (r1 := 0) (r2 := 0) _ w HN HI H1 R1 rfl (by rw [← hg]; rfl) F1 hk rfl rfl M1
  | some p =>
  obtain ⟨q1, q2⟩ := p
  rw [mulV_of p1 (right_one _) e1] at M1
  obtain ⟨m1, m2, m3, m4, m5, m6⟩ := fitR_right e1
  have A1 : Hid (Cl 30 #[.agg #[.int .i64 q1, .int .i64 q2], .agg #[.int .i64 s.on, .int .i64 s.od]] (sumV false q1 q2 s.on s.od)) := hidf fun w => add_val q1 q2 s.on s.od w m3 m4 m6 ok.on.1 ok.on.2 ok.od
  cases e2 : sumO false q1 q2 s.on s.od with
  | none =>
    rw [sumV_no m1 p2 e2] at A1
    rw [tpV_er (k := 9) (key (by rw [e1]; simp only [e2]))]
    cases hg : s.sgn
    · rw [hg] at F1
      exact phys_5f (r1 := 0) (r2 := 0) _ w HN HI H1 R1 rfl (by rw [← hg]; rfl) F1 (decide_eq_false (fun h => g3 ⟨hg, h⟩)) hk rfl rfl M1 rfl rfl A1
    · rw [hg] at F1
      exact phys_5t (r1 := 0) (r2 := 0) _ w HN HI H1 R1 rfl (by rw [← hg]; rfl) F1 hk rfl rfl M1 rfl rfl A1
  | some r =>
  obtain ⟨r1, r2⟩ := r
  rw [sumV_of' m1 p2 e2] at A1
  obtain ⟨k1, k2, k3, k4, k5, k6⟩ := fitR_right e2
  have I1 : Hid (Cl 31 #[.agg (csOf s (.slice A m c)), .agg #[.int .i64 r1, .int .i64 r2]] (.bool (inB s r1 r2))) := hidf fun w => in_any s _ r1 r2 w ok k3 k4 k6
  cases hi : inB s r1 r2
  · rw [hi] at I1
    rw [tpV_er (k := 18) (key (by rw [e1]; simp only [e2, hi]; rfl))]
    cases hg : s.sgn
    · rw [hg] at F1
      exact phys_6f _ w HN HI H1 R1 rfl (by rw [← hg]; rfl) F1 (decide_eq_false (fun h => g3 ⟨hg, h⟩)) hk rfl rfl M1 rfl rfl A1 I1
    · rw [hg] at F1
      exact phys_6t _ w HN HI H1 R1 rfl (by rw [← hg]; rfl) F1 hk rfl rfl M1 rfl rfl A1 I1
  · rw [hi] at I1
    rw [tpV_ok (p := (r1, r2)) (key (by rw [e1]; simp only [e2, hi, if_true]))]
    cases hg : s.sgn
    · rw [hg] at F1
      exact phys_7f _ w HN HI H1 R1 rfl (by rw [← hg]; rfl) F1 (decide_eq_false (fun h => g3 ⟨hg, h⟩)) hk rfl rfl M1 rfl rfl A1 I1
    · rw [hg] at F1
      exact phys_7t _ w HN HI H1 R1 rfl (by rw [← hg]; rfl) F1 hk rfl rfl M1 rfl rfl A1 I1

theorem toR_val (s : Sig) (A : Option Addr) (m c : Nat) (n d : Int) (w : World) (ok : RatsOk s) (n1 : -9223372036854775808 ≤ n) (n2 : n < 9223372036854775808) (n3 : d < 9223372036854775808) : Cl1 12 #[sigV s (.slice A m c), .agg #[.int .i64 n, .int .i64 d]] (trV s n d) w := by
  have P1 : Hid (Cl 39 #[.agg #[.int .i64 n, .int .i64 d]] (.bool (rightB n d))) := hidf fun w => right_any n d w n1 n2 n3
  have R1 : Hid (Cl 27 #[.agg (csOf s (.slice A m c))] (ercV (rgE s))) := hidf fun w => right_sig s _ w ok
  have I1 : Hid (Cl 31 #[.agg (csOf s (.slice A m c)), .agg #[.int .i64 n, .int .i64 d]] (.bool (inB s n d))) := hidf fun w => in_any s _ n d w ok n1 n2 n3
  have HN := cs_size s (.slice A m c)
  have HI := cs_info s (.slice A m c)
  have H1 := cs_one s A m c
  rw [sigV_cs]
  by_cases g0 : rightB n d = false
  · rw [g0] at P1
    rw [trV_er (k := 1) (by unfold toR; rw [if_pos g0])]
    exact raw_1 (on := 0) (od := 0) (sn := 0) (sd := 0) (q1 := 0) (q2 := 0) (r1 := 0) (r2 := 0) (z := 0) _ w HN HI H1 P1
  have g0' : rightB n d = true := by simpa using g0
  rw [g0'] at P1
  by_cases g1 : rgE s = 0
  case neg =>
    rw [erc1 g1] at R1
    rw [trV_er (k := rgE s) (by unfold toR; rw [if_neg g0, if_pos g1])]
    exact raw_2 (on := 0) (od := 0) (sn := 0) (sd := 0) (q1 := 0) (q2 := 0) (r1 := 0) (r2 := 0) (z := 0) _ w HN HI H1 P1 R1
  case pos =>
  rw [erc0 g1] at R1
  obtain ⟨hs, hz⟩ := rg_no g1
  obtain ⟨p1, p2⟩ := sg_parts hs
  by_cases g2 : inB s n d = false
  · rw [g2] at I1
    rw [trV_er (k := 18) (by unfold toR; rw [if_neg g0, if_neg (by omega), if_pos g2])]
    exact raw_3 (on := 0) (od := 0) (sn := 0) (sd := 0) (q1 := 0) (q2 := 0) (r1 := 0) (r2 := 0) (z := 0) _ w HN HI H1 P1 R1 I1
  have g2' : inB s n d = true := by simpa using g2
  rw [g2'] at I1
  have key : ∀ {r : Except Int Int}, (match sumO true n d s.on s.od with
      | none => .error 9
      | some q => match divO q.1 q.2 s.sn s.sd with
        | none => .error 9
        | some r => if hasB s (rndZ r.1 r.2) then .ok (rndZ r.1 r.2 % 18446744073709551616) else .error 18) = r → toR s n d = r := by
    intro r h; unfold toR; rw [if_neg g0, if_neg (by omega), if_neg g2]; exact h
  have S1 : Hid (Cl 40 #[.agg #[.int .i64 n, .int .i64 d], .agg #[.int .i64 s.on, .int .i64 s.od]] (sumV true n d s.on s.od)) := hidf fun w => sub_val n d s.on s.od w n1 n2 n3 ok.on.1 ok.on.2 ok.od
  cases e1 : sumO true n d s.on s.od with
  | none =>
    rw [sumV_no g0' p2 e1] at S1
    rw [trV_er (k := 9) (key (by rw [e1]))]
    exact raw_4 (sn := 0) (sd := 0) (q1 := 0) (q2 := 0) (r1 := 0) (r2 := 0) (z := 0) _ w HN HI H1 P1 R1 I1 rfl rfl S1
  | some q =>
  obtain ⟨q1, q2⟩ := q
  rw [sumV_of' g0' p2 e1] at S1
  obtain ⟨m1, m2, m3, m4, m5, m6⟩ := fitR_right e1
  have D1 : Hid (Cl 41 #[.agg #[.int .i64 q1, .int .i64 q2], .agg #[.int .i64 s.sn, .int .i64 s.sd]] (divV q1 q2 s.sn s.sd)) := hidf fun w => div_val q1 q2 s.sn s.sd w m3 m4 m6 ok.sn.1 ok.sn.2 ok.sd
  cases e2 : divO q1 q2 s.sn s.sd with
  | none =>
    rw [divV_no m1 p1 hz e2] at D1
    rw [trV_er (k := 9) (key (by rw [e1]; simp only [e2]))]
    exact raw_5 (r1 := 0) (r2 := 0) (z := 0) _ w HN HI H1 P1 R1 I1 rfl rfl S1 rfl rfl D1
  | some r =>
  obtain ⟨r1, r2⟩ := r
  rw [divV_of m1 p1 hz e2] at D1
  obtain ⟨k1, k2, k3, k4, k5, k6⟩ := fitR_right e2
  have N1 : Hid (Cl 42 #[.agg #[.int .i64 r1, .int .i64 r2]] (.tuple #[.int .i64 (rndZ r1 r2), .nilIface])) := hidf fun w => by rw [← rndV_of k1]; exact round_val r1 r2 w k3 k4 k6
  obtain ⟨z1, z2⟩ := rndZ_rng k5 k3 k4
  have B1 : Hid (Cl 43 #[.agg (csOf s (.slice A m c)), .int .i64 (rndZ r1 r2)] (.bool (hasB s (rndZ r1 r2)))) := hidf fun w => has_any s _ _ w z1 z2
  cases hh : hasB s (rndZ r1 r2)
  · rw [hh] at B1
    rw [trV_er (k := 18) (key (by rw [e1]; simp only [e2, hh]; rfl))]
    exact raw_7 _ w HN HI H1 P1 R1 I1 rfl rfl S1 rfl rfl D1 N1 B1
  · rw [hh] at B1
    rw [trV_ok (v := rndZ r1 r2 % 18446744073709551616) (key (by rw [e1]; simp only [e2, hh, if_true]))]
    exact raw_8 (by rw [IntKind.wrap_u64]) _ w HN HI H1 P1 R1 I1 rfl rfl S1 rfl rfl D1 N1 B1
end physW
end Go.Proofs.YtllbpanfhlbbgaaDoor
