/- busbarref0.SameTexts, SameRows, SameSignal(s), SameMessage(s), SameTable(s), SameStations: two that read as one are found the same. No condition. -/
import Derived.Test.YtdibfkcddcjiiaaDbOpen
import Derived.Deep.RegionHeld3
import Derived.Deep.QuietTactic
import Derived.BigQuiet
import Derived.Outline
import Derived.StillTailTactics
namespace Go.Proofs.Ytdibfkcddcjiiaa
open Go.RowKit Go.Bus Go.Bus.cellK Go.Bus.dbK
set_option linter.unusedVariables false
set_option linter.unusedSimpArgs false
namespace sameK
theorem wpStill_load_mid {P : Program} {ops : Array Oper} {w : World} {Q : Act → Prop} {a : Act} {o : Oper} {rest : List Oper} (hgd : o.guard = none) (ty : TypeId) (x : Operand) (ho : o.op = .load ty x)
    (b off : Nat) (hx : a.eval x = .pointer (some ⟨b, off, none⟩)) (cs : List Value) (d : TypeDesc) (hc : w.rangeAt b off cs)
    (hu : P.underlying ty = some d) (hd : d.isRow = true) (hi : (P.info? ty).map (·.size) = some cs.length)
    (h : wpStill P ops w Q rest (a.put o.dst (.agg cs.toArray))) : wpStill P ops w Q (o :: rest) a := by
  unfold wpStill
  rw [if_pos (by simp [Region.wanted, hgd])]
  unfold Oper.still execOp
  simp only [ho, hx, Instr.loadAt, Instr.sureAddr, Sem.run_bind, Sem.run_pure, Result.andThen_ok, run_loadVar_mid w b off ty cs d hc hu hd hi]
  rw [Oper.stillUpon_value]
  exact h
def Yes (w : World) (e : Ending) (w' : World) : Prop := e = .returned (.bool true) ∧ Below w.heap.size w w'
set_option maxRecDepth 100000 in
set_option maxHeartbeats 1000000 in
theorem sameTexts (u v : Value) (l : List ByteArray) (F G : Foot) (w : World) (hu : SlK 1 strE w F u l) (hv : SlK 1 strE w G v l) :
    Calls Try.prog 55 #[u, v] w fun e w' => e = .returned (.bool true) ∧ ∃ n, w' = w.drewN n := by
  obtain ⟨A1, c1, rfl, n1, m1⟩ := hu.form
  obtain ⟨A2, c2, rfl, n2, m2⟩ := hv.form
  unfold maxLen at m1 m2
  have HU := Lib.hid hu; have HV := Lib.hid hv
  clear hu hv
  go_enter Try.func55, Try.ntmps55
  go_wp2
  go_loopw [5] (fun i wr => ∃ k n : Nat, k ≤ l.length ∧ i = .int .i64 k ∧ wr = w.drewN n) (fun i _ => l.length - (intOf i).toNat)
  case atStart => exact ⟨0, 0, Nat.zero_le _, rfl, rfl⟩
  case round =>
    obtain ⟨k, n, hk, rfl, rfl⟩ := hrel
    by_cases hlt : k < l.length
    · obtain ⟨b, off, cs, h1, _, _, hr, he⟩ := HU.out.at_ hlt
      obtain ⟨b', off', cs', h1', _, _, hr', he'⟩ := HV.out.at_ hlt
      subst h1 h1'
      rw [show cs = [.string l[k]] from he] at hr
      rw [show cs' = [.string l[k]] from he'] at hr'
      have c1 : w.cell? ⟨b, off + k, none⟩ = some (.string l[k]) := by have := hr 0 _ rfl; rwa [Nat.mul_one] at this
      have c2 : w.cell? ⟨b', off' + k, none⟩ = some (.string l[k]) := by have := hr' 0 _ rfl; rwa [Nat.mul_one] at this
      generalize l[k] = x at *
      have hb1 : (0 : Int) ≤ (k : Int) := Int.natCast_nonneg _
      have hb2 : (k : Int) < (l.length : Int) := by omega
      clear hr hr' he he'
      go_wp2_with fail
      go_quiet (fail)
      go_wp2
      go_roundw
      case rel => exact ⟨k + 1, _, by omega, by go_num, rfl⟩
      case measure => simp [intOf]; omega
    · obtain rfl : k = l.length := by omega
      go_wp2
      go_ret
      exact ⟨rfl, _, rfl⟩

set_option maxRecDepth 100000 in
set_option maxHeartbeats 4000000 in
theorem sameSignal (s : Sig) (cs cs' : List Value) (F G : Foot) (w : World) (h : sigE w F cs s) (h' : sigE w G cs' s) (hF : ∀ b, F b → b < w.heap.size) (hG : ∀ b, G b → b < w.heap.size) :
    Calls Try.prog 72 #[.agg cs.toArray, .agg cs'.toArray] w (Yes w) := by
  obtain ⟨u, rfl, hu⟩ := h
  obtain ⟨v, rfl, hv⟩ := h'
  have HU := Lib.hid (fun (w1 : World) (hb : Below w.heap.size w w1) => hu.belowF strE_mono hF hb)
  have HV := Lib.hid (fun (w1 : World) (hb : Below w.heap.size w w1) => hv.belowF strE_mono hG hb)
  clear hu hv hF hG
  show Calls Try.prog 72 #[.agg #[.int .i64 s.line, .int .i64 s.col, .string s.name, .int .i64 s.role, .int .u64 s.branch, .int .i64 s.start, .int .i64 s.size, .bool s.mot, .bool s.sgn, .int .i64 s.sn, .int .i64 s.sd, .int .i64 s.on, .int .i64 s.od, .int .i64 s.mn, .int .i64 s.md, .int .i64 s.xn, .int .i64 s.xd, .string s.unit, u], .agg #[.int .i64 s.line, .int .i64 s.col, .string s.name, .int .i64 s.role, .int .u64 s.branch, .int .i64 s.start, .int .i64 s.size, .bool s.mot, .bool s.sgn, .int .i64 s.sn, .int .i64 s.sd, .int .i64 s.on, .int .i64 s.od, .int .i64 s.mn, .int .i64 s.md, .int .i64 s.xn, .int .i64 s.xd, .string s.unit, v]] w (Yes w)
  go_enter Try.func72, Try.ntmps72
  go_wp2_with (go_at_call 55; refine (sameTexts u v s.to F G _ (HU.out _ (by exact (by repeat' (first | (with_reducible assumption) | (with_reducible refine Below.setCell ?_ ?_ _) | (with_reducible refine Below.alloc ?_ ?_ _) | (with_reducible refine Below.drew ?_) | (with_reducible refine below_drewN ?_ _) | (with_reducible exact Below.refl _ _) | (show _ ≤ _; (try simp); (try omega); done) | exact Below.refl _ _ | assumption)))) (HV.out _ (by exact (by repeat' (first | (with_reducible assumption) | (with_reducible refine Below.setCell ?_ ?_ _) | (with_reducible refine Below.alloc ?_ ?_ _) | (with_reducible refine Below.drew ?_) | (with_reducible refine below_drewN ?_ _) | (with_reducible exact Below.refl _ _) | (show _ ≤ _; (try simp); (try omega); done) | exact Below.refl _ _ | assumption))))).mono ?_; rintro e w1 ⟨rfl, n, rfl⟩)
  go_ret
  exact ⟨rfl, (by repeat' (first | (with_reducible assumption) | (with_reducible refine Below.setCell ?_ ?_ _) | (with_reducible refine Below.alloc ?_ ?_ _) | (with_reducible refine Below.drew ?_) | (with_reducible refine below_drewN ?_ _) | (with_reducible exact Below.refl _ _) | (show _ ≤ _; (try simp); (try omega); done) | exact Below.refl _ _ | assumption))⟩

set_option maxRecDepth 100000 in
set_option maxHeartbeats 4000000 in
theorem sameSignals (u v : Value) (l : List Sig) (F G : Foot) (w : World) (hu : SlK 19 sigE w F u l) (hv : SlK 19 sigE w G v l) (hF : ∀ b, F b → b < w.heap.size) (hG : ∀ b, G b → b < w.heap.size) :
    Calls Try.prog 46 #[u, v] w (Yes w) := by
  obtain ⟨A1, c1, rfl, n1, m1⟩ := hu.form
  obtain ⟨A2, c2, rfl, n2, m2⟩ := hv.form
  unfold maxLen at m1 m2
  have HU := Lib.hid (fun (w1 : World) (hb : Below w.heap.size w w1) => hu.belowF sigE_mono hF hb)
  have HV := Lib.hid (fun (w1 : World) (hb : Below w.heap.size w w1) => hv.belowF sigE_mono hG hb)
  have HF := Lib.hid hF; have HG := Lib.hid hG
  clear hu hv hF hG
  have hi1 : (Try.prog.info? 119).map (·.size) = some 19 := by kernel_rfl
  have HI1 := Lib.hid hi1; clear hi1
  go_enter Try.func46, Try.ntmps46
  go_wp2
  go_loopw [5] (fun i wr => ∃ k : Nat, k ≤ l.length ∧ i = .int .i64 k ∧ Hid (Below w.heap.size w wr)) (fun i _ => l.length - (intOf i).toNat)
  case atStart => exact ⟨0, Nat.zero_le _, rfl, Below.refl _ _⟩
  case round =>
    obtain ⟨k, hk, rfl, hb⟩ := hrel
    by_cases hlt : k < l.length
    · obtain ⟨b, off, cs, h1, hFb, hl1, hr, he⟩ := (HU.out _ hb.out).at_ hlt
      obtain ⟨b', off', cs', h1', hGb, hl2, hr', he'⟩ := (HV.out _ hb.out).at_ hlt
      subst h1 h1'
      have hsz : w.heap.size ≤ wr.heap.size := hb.out.size
      generalize l[k] = x at *
      have HE := Lib.hid he; have HE' := Lib.hid he'
      have HR := Lib.hid hr; have HR' := Lib.hid hr'
      have HL := Lib.hid (show some 19 = some cs.length by rw [hl1]); have HL' := Lib.hid (show some 19 = some cs'.length by rw [hl2])
      have hb1 : (0 : Int) ≤ (k : Int) := Int.natCast_nonneg _
      have hb2 : (k : Int) < (l.length : Int) := by omega
      clear hl1 hl2 he he' hr hr' hFb hGb
      go_wp2_with fail
      go_still_tail 8, (by kernel_rfl)
      refine wpStill_load_mid rfl 119 _ rfl b (off + k * 19) rfl cs _ (by exact HR.out) Try.underlying119 rfl (HI1.out.trans HL.out) ?_
      repeat still_step
      refine wpStill_load_mid rfl 119 _ rfl b' (off' + k * 19) rfl cs' _ (by exact HR'.out) Try.underlying119 rfl (HI1.out.trans HL'.out) ?_
      refine wpStill_nil ?_
      change wpList _ _ _ _ _ wr.drew
      go_wp2_with fail
      refine (sameSignal x cs cs' F G _ (by exact HE.out) (by exact HE'.out) (fun b hb => Nat.lt_of_lt_of_le (HF.out b hb) (by exact hsz)) (fun b hb => Nat.lt_of_lt_of_le (HG.out b hb) (by exact hsz))).mono ?_
      rintro e w2 ⟨rfl, hb2⟩
      have hb3 : Below w.heap.size w w2 := hb.out.trans (Below.trans ((Below.refl _ _).drew) (hb2.mono (by exact hsz)))
      have HB2 := Lib.hid hb3; clear hb2 hb3
      go_wp2
      go_roundw
      case rel => exact ⟨k + 1, by omega, by go_num, HB2⟩
      case measure => simp [intOf]; omega
    · obtain rfl : k = l.length := by omega
      go_wp2
      go_ret
      exact ⟨rfl, hb.out⟩

set_option maxRecDepth 100000 in
set_option maxHeartbeats 1000000 in
theorem sameRows (u v : Value) (l : List RowD) (F G : Foot) (w : World) (hu : SlK 2 rowE w F u l) (hv : SlK 2 rowE w G v l) :
    Calls Try.prog 56 #[u, v] w fun e w' => e = .returned (.bool true) ∧ ∃ n, w' = w.drewN n := by
  obtain ⟨A1, c1, rfl, n1, m1⟩ := hu.form
  obtain ⟨A2, c2, rfl, n2, m2⟩ := hv.form
  unfold maxLen at m1 m2
  have HU := Lib.hid hu; have HV := Lib.hid hv
  clear hu hv
  go_enter Try.func56, Try.ntmps56
  go_wp2
  go_loopw [5] (fun i wr => ∃ k n : Nat, k ≤ l.length ∧ i = .int .i64 k ∧ wr = w.drewN n) (fun i _ => l.length - (intOf i).toNat)
  case atStart => exact ⟨0, 0, Nat.zero_le _, rfl, rfl⟩
  case round =>
    obtain ⟨k, n, hk, rfl, rfl⟩ := hrel
    by_cases hlt : k < l.length
    · obtain ⟨b, off, cs, h1, _, _, hr, he⟩ := HU.out.at_ hlt
      obtain ⟨b', off', cs', h1', _, _, hr', he'⟩ := HV.out.at_ hlt
      subst h1 h1'
      generalize l[k] = x at *
      rw [show cs = rowCells x from he] at hr
      rw [show cs' = rowCells x from he'] at hr'
      have c1 : w.cell? ⟨b, off + k * 2, none⟩ = some (.int .i64 x.val) := hr 0 _ rfl
      have c2 : w.cell? ⟨b, off + k * 2 + 1, none⟩ = some (.string x.text) := hr 1 _ rfl
      have c3 : w.cell? ⟨b', off' + k * 2, none⟩ = some (.int .i64 x.val) := hr' 0 _ rfl
      have c4 : w.cell? ⟨b', off' + k * 2 + 1, none⟩ = some (.string x.text) := hr' 1 _ rfl
      have hb1 : (0 : Int) ≤ (k : Int) := Int.natCast_nonneg _
      have hb2 : (k : Int) < (l.length : Int) := by omega
      clear hr hr' he he'
      go_wp2_with fail
      go_quiet (fail)
      go_wp2
      go_roundw
      case rel => exact ⟨k + 1, _, by omega, by go_num, rfl⟩
      case measure => simp [intOf]; omega
    · obtain rfl : k = l.length := by omega
      go_wp2
      go_ret
      exact ⟨rfl, _, rfl⟩

set_option maxRecDepth 100000 in
set_option maxHeartbeats 4000000 in
theorem sameTable (t : Tab) (cs cs' : List Value) (F G : Foot) (w : World) (h : tabE w F cs t) (h' : tabE w G cs' t) (hF : ∀ b, F b → b < w.heap.size) (hG : ∀ b, G b → b < w.heap.size) :
    Calls Try.prog 25 #[.agg cs.toArray, .agg cs'.toArray] w (Yes w) := by
  obtain ⟨u, rfl, hu⟩ := h
  obtain ⟨v, rfl, hv⟩ := h'
  have HU := Lib.hid (fun (w1 : World) (hb : Below w.heap.size w w1) => hu.belowF rowE_mono hF hb)
  have HV := Lib.hid (fun (w1 : World) (hb : Below w.heap.size w w1) => hv.belowF rowE_mono hG hb)
  clear hu hv hF hG
  show Calls Try.prog 25 #[.agg #[.int .i64 t.line, .int .i64 t.col, .int .u32 t.id, .bool t.wide, .string t.signal, u], .agg #[.int .i64 t.line, .int .i64 t.col, .int .u32 t.id, .bool t.wide, .string t.signal, v]] w (Yes w)
  go_enter Try.func25, Try.ntmps25
  go_wp2_with (go_at_call 56; refine (sameRows u v t.rows F G _ (HU.out _ (by exact (by repeat' (first | (with_reducible assumption) | (with_reducible refine Below.setCell ?_ ?_ _) | (with_reducible refine Below.alloc ?_ ?_ _) | (with_reducible refine Below.drew ?_) | (with_reducible refine below_drewN ?_ _) | (with_reducible exact Below.refl _ _) | (show _ ≤ _; (try simp); (try omega); done) | exact Below.refl _ _ | assumption)))) (HV.out _ (by exact (by repeat' (first | (with_reducible assumption) | (with_reducible refine Below.setCell ?_ ?_ _) | (with_reducible refine Below.alloc ?_ ?_ _) | (with_reducible refine Below.drew ?_) | (with_reducible refine below_drewN ?_ _) | (with_reducible exact Below.refl _ _) | (show _ ≤ _; (try simp); (try omega); done) | exact Below.refl _ _ | assumption))))).mono ?_; rintro e w1 ⟨rfl, n, rfl⟩)
  go_ret
  exact ⟨rfl, (by repeat' (first | (with_reducible assumption) | (with_reducible refine Below.setCell ?_ ?_ _) | (with_reducible refine Below.alloc ?_ ?_ _) | (with_reducible refine Below.drew ?_) | (with_reducible refine below_drewN ?_ _) | (with_reducible exact Below.refl _ _) | (show _ ≤ _; (try simp); (try omega); done) | exact Below.refl _ _ | assumption))⟩

set_option maxRecDepth 100000 in
set_option maxHeartbeats 4000000 in
theorem sameStations (t : Sta) (cs cs' : List Value) (F G : Foot) (w : World) (h : staE w F cs t) (h' : staE w G cs' t) (hF : ∀ b, F b → b < w.heap.size) (hG : ∀ b, G b → b < w.heap.size) :
    Calls Try.prog 24 #[.agg cs.toArray, .agg cs'.toArray] w (Yes w) := by
  obtain ⟨u, rfl, hu⟩ := h
  obtain ⟨v, rfl, hv⟩ := h'
  have HU := Lib.hid (fun (w1 : World) (hb : Below w.heap.size w w1) => hu.belowF strE_mono hF hb)
  have HV := Lib.hid (fun (w1 : World) (hb : Below w.heap.size w w1) => hv.belowF strE_mono hG hb)
  clear hu hv hF hG
  show Calls Try.prog 24 #[.agg #[.int .i64 t.line, .int .i64 t.col, u], .agg #[.int .i64 t.line, .int .i64 t.col, v]] w (Yes w)
  go_enter Try.func24, Try.ntmps24
  go_wp2_with (go_at_call 55; refine (sameTexts u v t.names F G _ (HU.out _ (by exact (by repeat' (first | (with_reducible assumption) | (with_reducible refine Below.setCell ?_ ?_ _) | (with_reducible refine Below.alloc ?_ ?_ _) | (with_reducible refine Below.drew ?_) | (with_reducible refine below_drewN ?_ _) | (with_reducible exact Below.refl _ _) | (show _ ≤ _; (try simp); (try omega); done) | exact Below.refl _ _ | assumption)))) (HV.out _ (by exact (by repeat' (first | (with_reducible assumption) | (with_reducible refine Below.setCell ?_ ?_ _) | (with_reducible refine Below.alloc ?_ ?_ _) | (with_reducible refine Below.drew ?_) | (with_reducible refine below_drewN ?_ _) | (with_reducible exact Below.refl _ _) | (show _ ≤ _; (try simp); (try omega); done) | exact Below.refl _ _ | assumption))))).mono ?_; rintro e w1 ⟨rfl, n, rfl⟩)
  go_ret
  exact ⟨rfl, (by repeat' (first | (with_reducible assumption) | (with_reducible refine Below.setCell ?_ ?_ _) | (with_reducible refine Below.alloc ?_ ?_ _) | (with_reducible refine Below.drew ?_) | (with_reducible refine below_drewN ?_ _) | (with_reducible exact Below.refl _ _) | (show _ ≤ _; (try simp); (try omega); done) | exact Below.refl _ _ | assumption))⟩

set_option maxRecDepth 100000 in
set_option maxHeartbeats 4000000 in
theorem sameMessage (t : Msg) (cs cs' : List Value) (F G : Foot) (w : World) (h : msgE w F cs t) (h' : msgE w G cs' t) (hF : ∀ b, F b → b < w.heap.size) (hG : ∀ b, G b → b < w.heap.size) :
    Calls Try.prog 13 #[.agg cs.toArray, .agg cs'.toArray] w (Yes w) := by
  obtain ⟨u, rfl, hu⟩ := h
  obtain ⟨v, rfl, hv⟩ := h'
  have HU := Lib.hid (fun (w1 : World) (hb : Below w.heap.size w w1) => hu.belowF sigE_mono hF hb)
  have HV := Lib.hid (fun (w1 : World) (hb : Below w.heap.size w w1) => hv.belowF sigE_mono hG hb)
  have HF := Lib.hid hF; have HG := Lib.hid hG
  clear hu hv hF hG
  show Calls Try.prog 13 #[.agg #[.int .i64 t.line, .int .i64 t.col, .int .u32 t.id, .bool t.wide, .string t.name, .int .i64 t.size, .string t.sender, u], .agg #[.int .i64 t.line, .int .i64 t.col, .int .u32 t.id, .bool t.wide, .string t.name, .int .i64 t.size, .string t.sender, v]] w (Yes w)
  go_enter Try.func13, Try.ntmps13
  go_wp2_with (go_at_call 46; refine (sameSignals u v t.sigs F G _ (HU.out _ (by exact (by repeat' (first | (with_reducible assumption) | (with_reducible refine Below.setCell ?_ ?_ _) | (with_reducible refine Below.alloc ?_ ?_ _) | (with_reducible refine Below.drew ?_) | (with_reducible refine below_drewN ?_ _) | (with_reducible exact Below.refl _ _) | (show _ ≤ _; (try simp); (try omega); done) | exact Below.refl _ _ | assumption)))) (HV.out _ (by exact (by repeat' (first | (with_reducible assumption) | (with_reducible refine Below.setCell ?_ ?_ _) | (with_reducible refine Below.alloc ?_ ?_ _) | (with_reducible refine Below.drew ?_) | (with_reducible refine below_drewN ?_ _) | (with_reducible exact Below.refl _ _) | (show _ ≤ _; (try simp); (try omega); done) | exact Below.refl _ _ | assumption)))) (fun b hb => by have := HF.out b hb; simp; omega) (fun b hb => by have := HG.out b hb; simp; omega)).mono ?_; rintro e w1 ⟨rfl, hb⟩; have HB := Lib.hid hb; clear hb)
  have hB : Below w.heap.size w w1 := Below.trans (by repeat' (first | (with_reducible assumption) | (with_reducible refine Below.setCell ?_ ?_ _) | (with_reducible refine Below.alloc ?_ ?_ _) | (with_reducible refine Below.drew ?_) | (with_reducible refine below_drewN ?_ _) | (with_reducible exact Below.refl _ _) | (show _ ≤ _; (try simp); (try omega); done) | exact Below.refl _ _ | assumption)) (HB.out.mono (by simp; omega))
  go_ret
  exact ⟨rfl, hB⟩

end sameK
end Go.Proofs.Ytdibfkcddcjiiaa
