/- busbarref0.SameLines: two rows of lines that read as one are found the same; the elements of rows of lines. No condition. -/
import Derived.Test.YtbhhfdajaoemnaaDoorDumpLs
import Derived.Test.YtbhhfdajaoemnaaDoorDumpWk
import Derived.Test.YtbhhfdajaoemnaaDoorRes
import Derived.Deep.RegionHeld3
import Derived.Deep.QuietTactic
import Derived.BigQuiet
import Derived.Outline
import Derived.StillTailTactics
namespace Go.Proofs.YtbhhfdajaoemnaaDoor
open Go.RowKit Go.Bus Go.Bus.cellK Go.Bus.dumpK Go.Bus.textK
set_option linter.unusedVariables false
set_option linter.unusedSimpArgs false
namespace dumpW
theorem slk_sl {w : World} {B : Nat} {v : Value} {l : List Int} (h : Sl w B (Value.int .u8) v l) : SlK 1 byE w (Old B) v l := by
  obtain ⟨A, cap, rfl, hl, hc, hx⟩ := h
  refine ⟨l.map (Value.int .u8), ⟨A, cap, rfl, hl, hc, by simp, fun h0 => ?_⟩, fun i x hi => part_one (by rw [List.getElem?_map, hi]; rfl)⟩
  obtain ⟨b, off, rfl, hb, hcell⟩ := hx h0
  refine ⟨b, off, rfl, hb, fun j u hj => ?_⟩
  rw [List.getElem?_map] at hj
  cases hq : l[j]? with
  | none => rw [hq] at hj; cases hj
  | some x => rw [hq] at hj; cases hj; exact hcell j x hq
def YesL (w : World) (e : Ending) (w' : World) : Prop := e = .returned (.bool true) ∧ Below w.heap.size w w'
theorem same_el (l : Ln) (cs cs' : List Value) (F G : Foot) (w : World) (h : lineR w F cs l) (h' : lineR w G cs' l) (hF : ∀ b, F b → b < w.heap.size) (hG : ∀ b, G b → b < w.heap.size) :
    Calls Tryd.prog 15 #[.agg cs.toArray, .agg cs'.toArray] w (YesL w) := by
  obtain ⟨u, rfl, hu⟩ := h
  obtain ⟨v, rfl, hv⟩ := h'
  exact same_line l u v w (by_sl (hu.more byE_mono hF)) (by_sl (hv.more byE_mono hG))
theorem wpStill_load_mid {P : Program} {ops : Array Oper} {w : World} {Q : Act → Prop} {a : Act} {o : Oper} {rest : List Oper} (hgd : o.guard = none) (ty : TypeId) (x : Operand) (ho : o.op = .load ty x)
    (b off : Nat) (hx : a.eval x = .pointer (some ⟨b, off, none⟩)) (cs : List Value) (d : TypeDesc) (hc : w.rangeAt b off cs)
    (hu : P.underlying ty = some d) (hd : d.isRow = true) (hi : (P.info? ty).map (·.size) = some cs.length)
    (h : wpStill P ops w Q rest (a.put o.dst (.agg cs.toArray))) : wpStill P ops w Q (o :: rest) a := by
  unfold wpStill
  rw [if_pos (by simp [Region.wanted, hgd])]
  unfold Oper.still execOp
  simp only [ho, hx, Instr.loadAt, Instr.sureAddr, Sem.run_bind, Sem.run_pure, Result.andThen_ok, run_loadVar_mid w b off ty cs d hc hu hd hi]
  rw [Oper.stillUpon_value]
  exact h
set_option maxRecDepth 100000 in
set_option maxHeartbeats 4000000 in
theorem same_lines (u v : Value) (l : List Ln) (F G : Foot) (w : World) (hu : SlK 5 lineR w F u l) (hv : SlK 5 lineR w G v l) (hF : ∀ b, F b → b < w.heap.size) (hG : ∀ b, G b → b < w.heap.size) :
    Calls Tryd.prog 7 #[u, v] w (YesL w) := by
  obtain ⟨A1, c1, rfl, n1, m1⟩ := hu.form
  obtain ⟨A2, c2, rfl, n2, m2⟩ := hv.form
  unfold maxLen at m1 m2
  have HU := Lib.hid (fun (w1 : World) (hb : Below w.heap.size w w1) => hu.belowF lineR_mono hF hb)
  have HV := Lib.hid (fun (w1 : World) (hb : Below w.heap.size w w1) => hv.belowF lineR_mono hG hb)
  have HF := Lib.hid hF; have HG := Lib.hid hG
  clear hu hv hF hG
  have hi1 : (Tryd.prog.info? 34).map (·.size) = some 5 := by kernel_rfl
  have HI1 := Lib.hid hi1; clear hi1
  go_enter Tryd.func7, Tryd.ntmps7
  go_wp2
  go_loopw [5] (fun i wr => ∃ k : Nat, k ≤ l.length ∧ i = .int .i64 k ∧ Hid (Below w.heap.size w wr)) (fun i _ => l.length - (intOf i).toNat)
  case atStart => exact ⟨0, Nat.zero_le _, rfl, Below.refl _ _⟩
  case round =>
    obtain ⟨k, hk, rfl, hb⟩ := hrel
    by_cases hlt : k < l.length
    · obtain ⟨b, off, cs, h1, hFb, hl1, hr, he⟩ := (HU.out _ hb.out).at_ hlt
      obtain ⟨b', off', cs', h1', hGb, hl2, hr', he'⟩ := (HV.out _ hb.out).at_ hlt
      subst h1 h1'
      have hsz : w.heap.size ≤ wr.heap.size := hb.out.size
      generalize l[k] = x at *
      have HE := Lib.hid he; have HE' := Lib.hid he'
      have HR := Lib.hid hr; have HR' := Lib.hid hr'
      have HL := Lib.hid (show some 5 = some cs.length by rw [hl1]); have HL' := Lib.hid (show some 5 = some cs'.length by rw [hl2])
      have hb1 : (0 : Int) ≤ (k : Int) := Int.natCast_nonneg _
      have hb2 : (k : Int) < (l.length : Int) := by omega
      clear hl1 hl2 he he' hr hr' hFb hGb
      go_wp2_with fail
      go_still_tail 8, (by kernel_rfl)
      refine wpStill_load_mid rfl 34 _ rfl b (off + k * 5) rfl cs _ (by exact HR.out) Tryd.underlying34 rfl (HI1.out.trans HL.out) ?_
      repeat still_step
      refine wpStill_load_mid rfl 34 _ rfl b' (off' + k * 5) rfl cs' _ (by exact HR'.out) Tryd.underlying34 rfl (HI1.out.trans HL'.out) ?_
      refine wpStill_nil ?_
      change wpList _ _ _ _ _ wr.drew
      go_wp2_with fail
      refine (same_el x cs cs' F G _ (by exact HE.out) (by exact HE'.out) (fun b hb => Nat.lt_of_lt_of_le (HF.out b hb) (by exact hsz)) (fun b hb => Nat.lt_of_lt_of_le (HG.out b hb) (by exact hsz))).mono ?_
      rintro e w2 ⟨rfl, hb2⟩
      have hb3 : Below w.heap.size w w2 := hb.out.trans (Below.trans ((Below.refl _ _).drew) (hb2.mono (by exact hsz)))
      have HB2 := Lib.hid hb3; clear hb2 hb3
      go_wp2
      go_roundw
      case rel => exact ⟨k + 1, by omega, by go_num, HB2⟩
      case measure => simp [intOf]; omega
    · obtain rfl : k = l.length := by omega
      go_wp2
      go_ret
      exact ⟨rfl, hb.out⟩
end dumpW
end Go.Proofs.YtbhhfdajaoemnaaDoor
