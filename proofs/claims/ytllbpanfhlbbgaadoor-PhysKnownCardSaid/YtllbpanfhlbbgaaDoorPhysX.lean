/- Walks of phys.Text and phys.Value. Condition: no list of more than 2^47 bytes. -/
import Derived.Test.YtllbpanfhlbbgaaDoorPhysV
import Derived.Test.YtllbpanfhlbbgaaDoorDbData
import Derived.Maps.OwnSet
import Derived.Maps.StringElems
import Derived.Maps.Views
import Derived.Lib.SlicesS
namespace Go.Bus.textK
open Go.Bus.dbK Go.Maps
variable {H : Type}
def findV (l : List RowD) (key : Int) : Option ByteArray := (l.find? (fun r => r.val == key)).map (·.text)
def txtV (l : List RowD) (key : Int) : ByteArray := (findV l key).getD ⟨#[]⟩
def stepT (D : DataW H) (r : RowD) : DataW H := if Maps.has D (.int .i64 r.val) then D else D.put (.int .i64 r.val) (.lit (.string r.text.data.toList))
def mapT (l : List RowD) : DataW H := l.foldl stepT (.map [])
theorem mapT_snoc (l : List RowD) (r : RowD) : mapT (H := H) (l ++ [r]) = stepT (mapT l) r := by unfold mapT; rw [List.foldl_append]; rfl
theorem stepT_no {D : DataW H} {r : RowD} (h : Maps.has D (.int .i64 r.val) = false) : stepT D r = D.put (.int .i64 r.val) (.lit (.string r.text.data.toList)) := by unfold stepT; rw [if_neg (by rw [h]; simp)]
theorem stepT_yes {D : DataW H} {r : RowD} (h : Maps.has D (.int .i64 r.val) = true) : stepT D r = D := by unfold stepT; rw [if_pos h]
theorem stepT_is {D : DataW H} (h : IsMap D) (r : RowD) : IsMap (stepT D r) := by
  unfold stepT; split
  · exact h
  · exact h.put _ _
theorem fold_is : ∀ (l : List RowD) (D : DataW H), IsMap D → IsMap (l.foldl stepT D)
  | [], _, h => h
  | r :: l, _, h => fold_is l _ (stepT_is h r)
theorem mapT_is (l : List RowD) : IsMap (mapT (H := H) l) := fold_is l _ isMap_empty
theorem findV_snoc (l : List RowD) (r : RowD) (key : Int) : findV (l ++ [r]) key = match findV l key with | some t => some t | none => if r.val = key then some r.text else none := by
  unfold findV
  rw [List.find?_append]
  cases h : l.find? (fun r => r.val == key) with
  | some x => simp
  | none => by_cases hk : r.val = key <;> simp [hk]
theorem lit_ne {a b : Int} (h : a ≠ b) : (Lit.int .i64 a) ≠ .int .i64 b := by intro e; exact h (by injection e)
theorem map_law (key : Int) : ∀ (n : Nat) (l : List RowD), l.length = n → Maps.has (mapT (H := H) l) (.int .i64 key) = (findV l key).isSome ∧ ∀ z, (mapT (H := H) l).atKey (.int .i64 key) z = match findV l key with | some t => .lit (.string t.data.toList) | none => z := by
  intro n
  induction n with
  | zero =>
    intro l hl
    obtain rfl := List.eq_nil_of_length_eq_zero hl
    exact ⟨rfl, fun z => rfl⟩
  | succ n ih =>
    intro l hl
    obtain ⟨l', r, rfl⟩ : ∃ l' r, l = l' ++ [r] := ⟨l.dropLast, l.getLast (by intro e; subst e; simp at hl), (List.dropLast_concat_getLast _).symm⟩
    obtain ⟨i1, i2⟩ := ih l' (by simp at hl; omega)
    rw [mapT_snoc, findV_snoc]
    unfold stepT
    by_cases hk : r.val = key
    · rw [hk]
      cases hf : findV l' key with
      | some t =>
        rw [hf] at i1 i2
        have i1' : Maps.has (mapT (H := H) l') (.int .i64 key) = true := i1
        rw [if_pos i1']
        exact ⟨i1', i2⟩
      | none =>
        rw [hf] at i1 i2
        have i1' : Maps.has (mapT (H := H) l') (.int .i64 key) = false := i1
        rw [if_neg (by rw [i1']; simp), if_pos rfl]
        exact ⟨has_put_same (mapT_is l') (show WideAt.IsKeyLit (.int .i64 key) from trivial) _, fun z => atKey_put_same (mapT_is l') (show WideAt.IsKeyLit (.int .i64 key) from trivial) _ z⟩
    · have e : (match findV l' key with | some t => some t | none => if r.val = key then some r.text else none) = findV l' key := by
        cases findV l' key <;> simp [hk]
      rw [e]
      split
      · exact ⟨i1, i2⟩
      · refine ⟨(has_put_other (lit_ne (fun h => hk h.symm)) _).trans i1, fun z => (atKey_put_other (lit_ne (fun h => hk h.symm)) _ z).trans (i2 z)⟩
theorem map_has (l : List RowD) (key : Int) : Maps.has (mapT (H := H) l) (.int .i64 key) = (findV l key).isSome := (map_law key _ l rfl).1
theorem map_at (l : List RowD) (key : Int) : (mapT (H := H) l).atKey (.int .i64 key) (.lit (.string [])) = .lit (.string (txtV l key).data.toList) := by
  rw [(map_law key _ l rfl).2]
  unfold txtV
  cases findV l key <;> rfl
end Go.Bus.textK
namespace Go.Bus
open Go.RowKit Go.Maps
/-- A whole struct out of a block known whole, behind a guard that lets it by. -/
theorem wpList_load_if {P : Program} {w : World} {T : Nat} {cs : Array Value} {d : TypeDesc} {ops : Array Oper} {rest : List Oper} {op : Oper} {a : Act} {Q : Exit → Act → World → Prop} (hw : Region.wanted op (yielded ops a.tmps) = true) (ty : TypeId) (x : Operand) (ho : op.op = .load ty x) (g : Nat) (hx : a.eval x = .pointer (some ⟨g, 0, none⟩)) (hg : Has w g T cs)
    (hu : P.underlying ty = some d) (hd : d.isRow = true) (hi : (P.info? ty).map (·.size) = some cs.size) (h : wpList P ops Q rest (a.put op.dst (.agg cs)) w) : wpList P ops Q (op :: rest) a w :=
  wpList_step fun K hK => by
    rw [if_pos hw]
    unfold Oper.wp execOp
    simp only [ho, hx, Instr.loadAt, Instr.sureAddr, Sem.run_bind, Sem.run_pure, Result.andThen_ok, load_has (P := P) hg hu hd hi]
    exact hK _ _ h
theorem wpList_look_str {H : Type} {P : Program} (w : World) {ops : Array Oper} {rest : List Oper} {o : Oper} {a : Act} {Q : Exit → Act → World → Prop} (hg : o.guard = none) (m x : Operand) (t : TypeId) (hop : o.op = Op.lookup t m x true)
    (k e : TypeId) (K : Keyed P k) (ht : P.underlying t = some (.map k e)) (he : P.underlying e = some .string) (hz : (zeroValue e).run P w = .ok (.string ⟨#[]⟩) w) (b n : Nat) (D : DataW H)
    (hm : a.eval m = .map (some b)) (hown : w.ownsMap P k (plainElem P e) b n D) (key : Value) (kl : Lit) (hx : a.eval x = key) (hkey : keyOf P k key = some kl) (bb : Bool) (txt : ByteArray) (hbb : Maps.has D kl = bb) (htx : D.atKey kl (.lit (.string [])) = .lit (.string txt.data.toList))
    (hK : wpList P ops Q rest (a.put o.dst (.tuple #[.string txt, .bool bb])) w) : wpList P ops Q (o :: rest) a w :=
  wpList_lookup_own_ok w hg m x t hop k e K ht (plainElem P e) hz (.lit (.string [])) [] (plainElem_string he (by decide)) b n D hm hown key kl hx hkey (fun v ps hv => by
    obtain ⟨s, rfl, hs, _⟩ := plainElem_string_inv he hv
    have h1 := congrArg Prod.fst hs
    simp only [htx] at h1
    have h2 : s = txt := by
      have : txt.data.toList = s.data.toList := by simpa using h1
      cases s; cases txt
      simp only at this
      rw [Array.toList_inj.1 this]
    rw [h2, hbb]
    exact hK)
end Go.Bus
namespace Go.Proofs.YtllbpanfhlbbgaaDoor
open Go.RowKit Go.Bus Go.Rt Go.Bus.dbK Go.Bus.rawK Go.Bus.cellK Go.Bus.textK Go.Maps
set_option linter.unusedVariables false
set_option linter.unusedSimpArgs false
namespace physW
open ratW
theorem keyI : Keyed Tryd.prog 2 := int_keyed Tryd.underlying2
theorem zeroS (w : World) : (zeroValue 9).run Tryd.prog w = .ok (.string ⟨#[]⟩) w := by kernel_rfl
def bigB (s : Sig) (v : Int) : Bool := !fitsB v s.size s.sgn || (!s.sgn && decide (9223372036854775807 < v))
def textO (l : List RowD) (s : Sig) (v : Int) : Option ByteArray := if bigB s v then none else findV l (wrap64 v)
def textV (l : List RowD) (s : Sig) (v : Int) : Value := .tuple #[.string ((textO l s v).getD ⟨#[]⟩), .bool (textO l s v).isSome]

set_option maxRecDepth 100000 in
set_option maxHeartbeats 2000000 in
theorem text_no {v sz : Int} {sg fb : Bool} (L : Value) (cs : Array Value) (w : World) (HN : Hid (cs.size = 19)) (g6 : cs[6]? = some (.int .i64 sz)) (g8 : cs[8]? = some (.bool sg)) (C2 : Hid (∀ w, Calls Tryd.prog 28 #[.int .u64 v, .int .i64 sz, .bool sg] w fun e w' => e = .returned (.bool fb) ∧ w = w'))
    (hb : (!fb || (!sg && decide (9223372036854775807 < v))) = true) :
    Cl1 18 #[L, .agg cs, .int .u64 v] (.tuple #[.string ⟨#[]⟩, .bool false]) w := by
  have c6 : (w.alloc (.cells cs 29)).cell? ⟨w.heap.size, 6, none⟩ = some (.int .i64 sz) := ((Has.new w _ cs).cell 6).trans g6
  have c8 : (w.alloc (.cells cs 29)).cell? ⟨w.heap.size, 8, none⟩ = some (.bool sg) := ((Has.new w _ cs).cell 8).trans g8
  clear g6 g8
  cases fb
  · go_enter Tryd.func18, Tryd.ntmps18
    go_wp2_with (go_at_call 28; refine (C2.out _).mono ?_; rintro e w' ⟨rfl, rfl⟩)
    go_ret2
    exact ⟨rfl, (by repeat' (first | (with_reducible assumption) | (with_reducible refine Below.setCell ?_ ?_ _) | (with_reducible refine Below.alloc ?_ ?_ _) | (with_reducible refine Below.drew ?_) | (with_reducible refine below_drewN ?_ _) | (with_reducible exact Below.refl _ _) | (show _ ≤ _; (try simp); (try omega); done) | exact Below.refl _ _ | assumption))⟩
  · cases sg
    · have ov : decide (9223372036854775807 < v) = true := by simpa using hb
      clear hb
      go_enter Tryd.func18, Tryd.ntmps18
      go_wp2_with (go_at_call 28; refine (C2.out _).mono ?_; rintro e w' ⟨rfl, rfl⟩)
      go_ret2
      exact ⟨rfl, (by repeat' (first | (with_reducible assumption) | (with_reducible refine Below.setCell ?_ ?_ _) | (with_reducible refine Below.alloc ?_ ?_ _) | (with_reducible refine Below.drew ?_) | (with_reducible refine below_drewN ?_ _) | (with_reducible exact Below.refl _ _) | (show _ ≤ _; (try simp); (try omega); done) | exact Below.refl _ _ | assumption))⟩
    · exact absurd hb (by simp)
set_option maxRecDepth 100000 in
set_option maxHeartbeats 4000000 in
theorem text_go {H : Type} {v sz key : Int} {sg : Bool} (L : Value) (l : List RowD) (cs : Array Value) (w : World) (HN : Hid (cs.size = 19)) (g6 : cs[6]? = some (.int .i64 sz)) (g8 : cs[8]? = some (.bool sg)) (C2 : Hid (∀ w, Calls Tryd.prog 28 #[.int .u64 v, .int .i64 sz, .bool sg] w fun e w' => e = .returned (.bool true) ∧ w = w'))
    (hb : (!sg && decide (9223372036854775807 < v)) = false) (wk : IntKind.i64.wrap v = key) (hkw : (Lit.int .i64 key).wf = true) (hs : SlK 2 rowE w (Old w.heap.size) L l) (hok : ∀ r ∈ l, (Lit.int .i64 r.val).wf = true ∧ r.text.size ≤ maxLen) :
    Cl1 18 #[L, .agg cs, .int .u64 v] (.tuple #[.string (txtV l key), .bool (findV l key).isSome]) w := by
  obtain ⟨A, cap, rfl, n1, n2⟩ := hs.form
  have n3 : cap ≤ 9223372036854775807 := by unfold maxLen at n2; omega
  have HV := Lib.hid (fun (w1 : World) (hb : Below w.heap.size w w1) => hs.below rowE_mono hb)
  have HK := Lib.hid hok
  have n4 := Lib.hid n2
  clear hs hok n2
  have c6 : (w.alloc (.cells cs 29)).cell? ⟨w.heap.size, 6, none⟩ = some (.int .i64 sz) := ((Has.new w _ cs).cell 6).trans g6
  have c8 : (w.alloc (.cells cs 29)).cell? ⟨w.heap.size, 8, none⟩ = some (.bool sg) := ((Has.new w _ cs).cell 8).trans g8
  clear g6 g8
  have hmm : ∀ (n : Int) (w : World), (Instr.makeMap 78 (some (.int .i64 n))).run Tryd.prog w = .ok (.map (some w.heap.size)) (w.alloc (.map #[] 0)) := fun n w => by kernel_rfl
  have HM := Lib.hid hmm; clear hmm
  cases sg
  rotate_left
  all_goals
    try (have ov : decide (9223372036854775807 < v) = false := by simpa using hb)
    clear hb
    go_enter Tryd.func18, Tryd.ntmps18
    go_wp2_with (first | simp only [HM.out] | (go_at_call 28; refine (C2.out _).mono ?_; rintro e w' ⟨rfl, rfl⟩))
    go_loopw [36] (fun i wr => ∃ k : Nat, i = .int .i64 k ∧ k ≤ l.length ∧ Hid (wr.ownsMap Tryd.prog 2 (plainElem Tryd.prog 9) (w.heap.size + 1) k (mapT (H := H) (l.take k))) ∧ Hid (Below w.heap.size w wr)) (fun i _ => l.length - (intOf i).toNat)
    case atStart => exact ⟨0, rfl, Nat.zero_le _, Lib.hid (show World.ownsMap (H := H) _ _ _ _ _ _ (DataW.map []) from by simpa using World.ownsMap_made (w.alloc (.cells cs 29)) _ _ _), Lib.hid (by repeat' (first | (with_reducible assumption) | (with_reducible refine Below.setCell ?_ ?_ _) | (with_reducible refine Below.alloc ?_ ?_ _) | (with_reducible refine Below.drew ?_) | (with_reducible refine below_drewN ?_ _) | (with_reducible exact Below.refl _ _) | (show _ ≤ _; (try simp); (try omega); done) | exact Below.refl _ _ | assumption))⟩
    case round =>
      obtain ⟨k, rfl, hk, HO, HB⟩ := hrel
      by_cases hlt : k < l.length
      · obtain ⟨b, off, cs', hA, hbo, hcl, hr, he⟩ := (HV.out _ HB.out).at_ hlt
        subst hA
        have hts := take_snoc l k hlt
        have hwf := HK.out _ (List.getElem_mem hlt)
        generalize l[k] = x at *
        have hcx : cs' = rowCells x := he
        subst hcx
        have hsz := HB.out.size
        have hlo := HO.out.lt
        have c0 : wr.cell? ⟨b, off + k * 2, none⟩ = some (.int .i64 x.val) := hr 0 _ rfl
        have c1 : wr.cell? ⟨b, off + k * 2 + 1, none⟩ = some (.string x.text) := hr 1 _ rfl
        have HTS := Lib.hid hts
        have HW := Lib.hid hwf
        have hbw : b < wr.heap.size := Nat.lt_of_lt_of_le hbo hsz
        clear hr he hcl hts hwf hbo
        have HX := Lib.hid (keyOf_int_mk Tryd.underlying2 HW.out.1)
        have HT := Lib.hid (map_at (H := H) (l.take k) x.val)
        cases hh : Maps.has (mapT (H := H) (l.take k)) (.int .i64 x.val)
        · have HH := Lib.hid hh; clear hh
          go_wp2_with (first
            | (at_lookup; refine wpList_look_str _ rfl _ _ 78 rfl 2 9 keyI Tryd.underlying78 Tryd.underlying9 (zeroS _) (w.heap.size + 1) k _ rfl (HO.out.alloc _) _ _ rfl HX.out false (txtV (l.take k) x.val) HH.out HT.out ?_)
            | (at_mapUpdate; refine wpList_mapUpdate_own _ rfl _ _ _ 78 rfl 2 9 keyI Tryd.underlying78 _ (w.heap.size + 1) k _ rfl (HO.out.alloc _) (by have := n4.out; omega) _ _ _ rfl rfl HX.out _ [] (plainElem_string Tryd.underlying9 HW.out.2) ?_))
          intro w1 ho1 hg1
          have hD : (mapT (H := H) (l.take (k + 1))) = (mapT (l.take k)).put (.int .i64 x.val) (.lit (.string x.text.data.toList)) := by
            rw [HTS.out, mapT_snoc, stepT_no HH.out]
          have HO1 : Hid (w1.ownsMap Tryd.prog 2 (plainElem Tryd.prog 9) (w.heap.size + 1) (k + 1) (mapT (H := H) (l.take (k + 1)))) := Lib.hid (by rw [hD]; exact ho1)
          have HB1 : Hid (Below w.heap.size w w1) := Lib.hid (Below.grown (HB.out.alloc (by omega) _) hg1 (by simp; omega) (fun r hr => by cases hr; omega))
          clear ho1 hg1 hD HO HB
          go_wp2
          go_roundw
          case rel => exact ⟨k + 1, by go_num, by omega, HO1, HB1⟩
          case measure => simp [intOf]; omega
        · have HH := Lib.hid hh; clear hh
          go_wp2_with (first
            | (at_lookup; refine wpList_look_str _ rfl _ _ 78 rfl 2 9 keyI Tryd.underlying78 Tryd.underlying9 (zeroS _) (w.heap.size + 1) k _ rfl (HO.out.alloc _) _ _ rfl HX.out true (txtV (l.take k) x.val) HH.out HT.out ?_))
          have hD : (mapT (H := H) (l.take (k + 1))) = mapT (l.take k) := by
            rw [HTS.out, mapT_snoc, stepT_yes HH.out]
          go_roundw
          case rel => exact ⟨k + 1, by go_num, by omega, Lib.hid (by rw [hD]; exact (HO.out.alloc _).mono (by omega)), Lib.hid (HB.out.alloc (by omega) _)⟩
          case measure => simp [intOf]; omega
      · obtain rfl : k = l.length := by omega
        have ho := HO.out
        rw [List.take_of_length_le (Nat.le_refl _)] at ho
        have HO2 := Lib.hid ho
        clear ho HO
        have HX := Lib.hid (keyOf_int_mk (P := Tryd.prog) Tryd.underlying2 hkw)
        have HT := Lib.hid (map_at (H := H) l key)
        have HH := Lib.hid (map_has (H := H) l key)
        go_wp2_with (first
          | (at_lookup; refine wpList_look_str _ rfl _ _ 78 rfl 2 9 keyI Tryd.underlying78 Tryd.underlying9 (zeroS _) (w.heap.size + 1) l.length _ rfl HO2.out _ _ rfl HX.out _ (txtV l key) HH.out HT.out ?_))
        go_ret2
        exact ⟨rfl, HB.out⟩
def valO (l : List RowD) (s : Sig) (t : ByteArray) : Option Int := (l.find? (fun r => decide (r.text = t) && hasB s r.val)).map (fun r => r.val % 18446744073709551616)
def valV (l : List RowD) (s : Sig) (t : ByteArray) : Value := .tuple #[.int .u64 ((valO l s t).getD 0), .bool (valO l s t).isSome]
theorem text_val (l : List RowD) (L : Value) (s : Sig) (A : Option Addr) (m c : Nat) (v : Int) (w : World) (v0 : 0 ≤ v) (v1 : v < 18446744073709551616) (hs : SlK 2 rowE w (Old w.heap.size) L l) (hok : ∀ r ∈ l, RowOk r) :
    Cl1 18 #[L, sigV s (.slice A m c), .int .u64 v] (textV l s v) w := by
  have F1 : Hid (∀ w, Calls Tryd.prog 28 #[.int .u64 v, .int .i64 s.size, .bool s.sgn] w fun e w' => e = .returned (.bool (fitsB v s.size s.sgn)) ∧ w = w') := hidf fun w => rawW.fits_any _ _ _ w v0 v1
  have HN := cs_size s (.slice A m c)
  rw [sigV_cs]
  unfold textV textO
  by_cases hb : bigB s v = true
  · rw [if_pos hb]
    exact text_no L _ w HN rfl rfl F1 hb
  · have hb' : bigB s v = false := by simpa using hb
    rw [if_neg hb]
    unfold bigB at hb'
    rw [Bool.or_eq_false_iff] at hb'
    have hf : fitsB v s.size s.sgn = true := by simpa using hb'.1
    rw [hf] at F1
    obtain ⟨w1, w2, w3⟩ := wrap_back v0 v1
    exact text_go (H := Unit) L l _ w HN rfl rfl F1 hb'.2 (by unfold wrap64; rw [IntKind.wrap_i64]) (WalkArith.wf_i64 ⟨w2, by omega⟩) hs (fun r hr => ⟨WalkArith.wf_i64 (hok r hr).val, Nat.le_trans (hok r hr).text (by unfold maxLen; omega)⟩)
def hitB (s : Sig) (t : ByteArray) (r : RowD) : Bool := decide (r.text = t) && hasB s r.val
theorem drop_find {l : List RowD} {k : Nat} {p : RowD → Bool} (hk : k < l.length) (h : (l.drop k).find? p = l.find? p) : (p l[k] = true → l.find? p = some l[k]) ∧ (p l[k] = false → (l.drop (k + 1)).find? p = l.find? p) := by
  rw [List.drop_eq_getElem_cons hk, List.find?_cons] at h
  refine ⟨fun e => ?_, fun e => ?_⟩
  · rw [e] at h; exact h.symm
  · rw [e] at h; exact h
theorem ret_u {l : List RowD} {s : Sig} {t : ByteArray} {x : RowD} {u : Int} (h : l.find? (hitB s t) = some x) (hu : x.val % 18446744073709551616 = u) : Ending.returned (.tuple #[.int .u64 u, .bool true]) = Ending.returned (valV l s t) := by
  have : valO l s t = some u := by unfold valO; rw [show l.find? (fun r => decide (r.text = t) && hasB s r.val) = some x from h, ← hu]; rfl
  unfold valV; rw [this]; rfl
theorem ret_n {l : List RowD} {s : Sig} {t : ByteArray} (h : l.find? (hitB s t) = none) : Ending.returned (.tuple #[.int .u64 0, .bool false]) = Ending.returned (valV l s t) := by
  have : valO l s t = none := by unfold valO; rw [show l.find? (fun r => decide (r.text = t) && hasB s r.val) = none from h]; rfl
  unfold valV; rw [this]; rfl

set_option maxRecDepth 100000 in
set_option maxHeartbeats 4000000 in
theorem val_go (L : Value) (l : List RowD) (s : Sig) (t : ByteArray) (cs : Array Value) (w : World) (HN : Hid (cs.size = 19)) (HI : Hid ((Tryd.prog.info? 29).map (·.size) = some cs.size)) (H1 : Hid (cs.all (·.oneCell') = true))
    (C3 : Hid (∀ n : Int, I64 n → Cl 43 #[.agg cs, .int .i64 n] (.bool (hasB s n)))) (hs : SlK 2 rowE w (Old w.heap.size) L l) (hok : ∀ r ∈ l, RowOk r) :
    Cl1 19 #[L, .agg cs, .string t] (valV l s t) w := by
  obtain ⟨A, cap, rfl, n1, n2⟩ := hs.form
  have n3 : cap ≤ 9223372036854775807 := by unfold maxLen at n2; omega
  have HV := Lib.hid (fun (w1 : World) (hb : Below w.heap.size w w1) => hs.below rowE_mono hb)
  have HK := Lib.hid hok
  clear hs hok n2
  go_enter Tryd.func19, Tryd.ntmps19
  go_wp2
  go_loopw [12] (fun i wr => ∃ k : Nat, i = .int .i64 k ∧ k ≤ l.length ∧ Hid ((l.drop k).find? (hitB s t) = l.find? (hitB s t)) ∧ Hid (Has wr w.heap.size 29 cs) ∧ Hid (Below w.heap.size w wr)) (fun i _ => l.length - (intOf i).toNat)
  case atStart => exact ⟨0, rfl, Nat.zero_le _, Lib.hid rfl, Lib.hid (Has.new w _ cs), Lib.hid (by repeat' (first | (with_reducible assumption) | (with_reducible refine Below.setCell ?_ ?_ _) | (with_reducible refine Below.alloc ?_ ?_ _) | (with_reducible refine Below.drew ?_) | (with_reducible refine below_drewN ?_ _) | (with_reducible exact Below.refl _ _) | (show _ ≤ _; (try simp); (try omega); done) | exact Below.refl _ _ | assumption))⟩
  case round =>
    obtain ⟨k, rfl, hk, HD, HS, HB⟩ := hrel
    have hB := HB.out
    by_cases hlt : k < l.length
    · obtain ⟨b, off, cs', hA, hbo, hcl, hr, he⟩ := (HV.out _ HB.out).at_ hlt
      subst hA
      obtain ⟨hd1, hd2⟩ := drop_find hlt HD.out
      have hokx := HK.out _ (List.getElem_mem hlt)
      generalize l[k] = x at *
      have hcx : cs' = rowCells x := he
      subst hcx
      have hsz := HB.out.size
      have hlo := HS.out.lt
      have c0 : wr.cell? ⟨b, off + k * 2, none⟩ = some (.int .i64 x.val) := hr 0 _ rfl
      have c1 : wr.cell? ⟨b, off + k * 2 + 1, none⟩ = some (.string x.text) := hr 1 _ rfl
      have HOK := Lib.hid hokx
      have HD1 := Lib.hid hd1
      have HD2 := Lib.hid hd2
      have hbw : b < wr.heap.size := Nat.lt_of_lt_of_le hbo hsz
      clear hr he hcl hokx hbo hd1 hd2 HD
      by_cases ht : x.text = t
      · have hte : (x.text.toList == t.toList) = true := (Lib.bytes_beq_iff _ _).2 ht
        have HP : Hid (hitB s t x = hasB s x.val) := Lib.hid (by unfold hitB; rw [decide_eq_true ht, Bool.true_and])
        have C4 := Lib.hid (C3.out x.val HOK.out.val)
        clear ht
        go_wp2_with (show wpList _ _ _ (⟨some 16, _, _, _, _, _⟩ :: _) _ _; refine ?roundEnd)
        refine wpList_step (fun K hK => ?_)
        go_simp
        refine hK _ _ ?_
        clear hK
        refine wpList_step (fun K hK => ?_)
        go_simp
        refine hK _ _ ?_
        clear hK
        refine wpList_step (fun K hK => ?_)
        go_simp
        refine hK _ _ ?_
        clear hK
        refine wpList_step (fun K hK => ?_)
        go_simp
        refine hK _ _ ?_
        clear hK
        refine wpList_step (fun K hK => ?_)
        go_simp
        refine hK _ _ ?_
        clear hK
        refine wpList_load_if (by rfl) 29 _ rfl w.heap.size rfl (by exact HS.out.alloc _) Tryd.underlying29 rfl HI.out ?_
        refine wpList_step (fun K hK => ?_)
        go_simp
        refine hK _ _ ?_
        clear hK
        refine wpList_step (fun K hK => ?_)
        go_simp
        refine hK _ _ ?_
        clear hK
        cases hh : hasB s x.val
        · rw [hh] at C4 HP
          clear hh
          go_wp2_with (first
            | (go_at_call 43; refine (C4.out _).mono ?_; rintro e w1 ⟨rfl, hb1⟩; have hz1 := hb1.size; (try simp at hz1); have HS1 := Lib.hid (Has.below (by exact HS.out.alloc _) hb1 (by (try simp); (try omega))); have HB1 : Hid (Below w.heap.size w w1) := Lib.hid (Below.trans (by repeat' (first | (with_reducible assumption) | (with_reducible refine Below.setCell ?_ ?_ _) | (with_reducible refine Below.alloc ?_ ?_ _) | (with_reducible refine Below.drew ?_) | (with_reducible refine below_drewN ?_ _) | (with_reducible exact Below.refl _ _) | (show _ ≤ _; (try simp); (try omega); done) | exact Below.refl _ _ | assumption)) (hb1.mono (by (try simp); (try omega)))); clear hb1))
          go_roundw
          case rel => exact ⟨k + 1, by go_num, by omega, Lib.hid (HD2.out HP.out), HS1, HB1⟩
          case measure => simp [intOf]; omega
        · rw [hh] at C4 HP
          clear hh
          have wk : IntKind.u64.wrap x.val = x.val % 18446744073709551616 := by rw [IntKind.wrap_u64]
          obtain ⟨u, hu⟩ : ∃ u, x.val % 18446744073709551616 = u := ⟨_, rfl⟩
          rw [hu] at wk
          have HU := Lib.hid hu
          clear hu
          go_wp2_with (first
            | (go_at_call 43; refine (C4.out _).mono ?_; rintro e w1 ⟨rfl, hb1⟩; have hz1 := hb1.size; (try simp at hz1); have HR1 := Lib.hid (Has.below (by exact Has.new wr _ _) hb1 (by (try simp); (try omega))); have HB1 : Hid (Below w.heap.size w w1) := Lib.hid (Below.trans (by repeat' (first | (with_reducible assumption) | (with_reducible refine Below.setCell ?_ ?_ _) | (with_reducible refine Below.alloc ?_ ?_ _) | (with_reducible refine Below.drew ?_) | (with_reducible refine below_drewN ?_ _) | (with_reducible exact Below.refl _ _) | (show _ ≤ _; (try simp); (try omega); done) | exact Below.refl _ _ | assumption)) (hb1.mono (by (try simp); (try omega)))); clear hb1; have d0 : w1.cell? ⟨wr.heap.size, 0, none⟩ = some (.int .i64 x.val) := HR1.out.cell 0))
          go_ret2
          exact ⟨ret_u (HD1.out HP.out) HU.out, HB1.out⟩
      · have hte : (x.text.toList == t.toList) = false := (Lib.bytes_beq_false_iff _ _).2 ht
        have HP : Hid (hitB s t x = false) := Lib.hid (by unfold hitB; rw [decide_eq_false ht, Bool.false_and])
        clear ht
        go_wp2
        go_roundw
        case rel => exact ⟨k + 1, by go_num, by omega, Lib.hid (HD2.out HP.out), Lib.hid (HS.out.alloc _), Lib.hid (HB.out.alloc (by omega) _)⟩
        case measure => simp [intOf]; omega
    · obtain rfl : k = l.length := by omega
      have hn := HD.out
      rw [List.drop_length] at hn
      have HN2 : Hid (l.find? (hitB s t) = none) := Lib.hid hn.symm
      clear hn HD
      go_wp2
      go_ret2
      exact ⟨ret_n HN2.out, HB.out⟩
theorem val_val (l : List RowD) (L : Value) (s : Sig) (A : Option Addr) (m c : Nat) (t : ByteArray) (w : World) (hs : SlK 2 rowE w (Old w.heap.size) L l) (hok : ∀ r ∈ l, RowOk r) :
    Cl1 19 #[L, sigV s (.slice A m c), .string t] (valV l s t) w := by
  rw [sigV_cs]
  exact val_go L l s t _ w (cs_size s _) (cs_info s _) (cs_one s A m c) (hidf fun n hn w => has_any s _ n w hn.1 (by have := hn.2; omega)) hs hok
end physW
end Go.Proofs.YtllbpanfhlbbgaaDoor
