/- dump.File's plain law and its result: lines of a trace in a row of the call's own. No condition. -/
import Derived.Test.YtbhhfdajaoemnaaGreatDoorDumpNl
import Derived.Test.YtbhhfdajaoemnaaGreatDoorDumpPa
import Derived.Test.YtbhhfdajaoemnaaGreatDoorDumpFl
import Derived.Test.YtbhhfdajaoemnaaGreatDoorCells
namespace Go.Bus.dumpK
open Go.Bus.textK Go.Lib
set_option linter.unusedVariables false
theorem cutN_len (c : UInt8) : ∀ S : List UInt8, (cutN c S).length ≤ S.length + 1
  | [] => by simp [cutN]
  | x :: r => by
    have ih := cutN_len c r
    obtain ⟨h, t, e⟩ := cutN_ne c r
    rw [cutN]
    split
    · simp; omega
    · rw [e] at ih ⊢; simp at ih ⊢; omega
theorem cutN_mem (c : UInt8) : ∀ (S : List UInt8) (x : List UInt8), x ∈ cutN c S → x.length ≤ S.length
  | [], x, h => by
    simp [cutN] at h; subst h; simp
  | y :: r, x, h => by
    rw [cutN] at h
    split at h
    · rcases List.mem_cons.1 h with rfl | h
      · simp
      · have := cutN_mem c r x h
        simp; omega
    · obtain ⟨a, t, e⟩ := cutN_ne c r
      have ih := cutN_mem c r
      rw [e] at h ih
      rcases List.mem_cons.1 h with rfl | h
      · have := ih a (List.mem_cons_self ..)
        simp; omega
      · have := ih x (List.mem_cons_of_mem _ h)
        simp; omega
theorem linesF_mem {S x : List UInt8} (h : x ∈ linesF S) : x.length ≤ S.length := by
  unfold linesF at h
  split at h
  · exact cutN_mem 10 S x (List.dropLast_subset _ h)
  · exact cutN_mem 10 S x h
theorem linesF_get {S : List UInt8} {j : Nat} (h : j < (linesF S).length) : ∃ h' : j < (cutN 10 S).length, (linesF S)[j] = (cutN 10 S)[j] := by
  unfold linesF at h ⊢
  split at h
  · rename_i hc
    simp only [hc, if_true] 
    rw [List.length_dropLast] at h
    exact ⟨by omega, by rw [List.getElem_dropLast]⟩
  · rename_i hc
    simp only [hc, if_false]
    exact ⟨h, by simp⟩
/-- How far the reading has come. -/
def GoI (L : List (List UInt8)) (k : Nat) (done : List Ln) : Prop := goF L 0 = (match goF (L.drop k) k with | .error e => .error e | .ok r => .ok (done ++ r))
theorem goI_start (L : List (List UInt8)) : GoI L 0 [] := by
  unfold GoI
  rw [List.drop_zero]
  cases goF L 0 <;> rfl
theorem goI_next {L : List (List UInt8)} {k : Nat} {done : List Ln} {l : Ln} (hk : k < L.length) (h : GoI L k done) (hp : parseF L[k] = .ok l) : GoI L (k + 1) (done ++ [l]) := by
  unfold GoI at h ⊢
  rw [h, List.drop_eq_getElem_cons hk, goF, hp]
  simp only
  cases goF (L.drop (k + 1)) (k + 1) with
  | error e => rfl
  | ok r => simp
theorem goI_bad {L : List (List UInt8)} {k : Nat} {done : List Ln} {no : Int} (hk : k < L.length) (h : GoI L k done) (hp : parseF L[k] = .error no) : goF L 0 = .error (no, k + 1) := by
  unfold GoI at h
  rw [h, List.drop_eq_getElem_cons hk, goF, hp]
theorem goI_done {L : List (List UInt8)} {done : List Ln} (h : GoI L L.length done) : goF L 0 = .ok done := by
  unfold GoI at h
  rw [h, List.drop_length, goF]
  simp
end Go.Bus.dumpK
namespace Go.Proofs.YtbhhfdajaoemnaaGreatDoor
open Go.RowKit Go.Bus Go.Bus.cellK Go.Bus.dumpK Go.Bus.textK
set_option linter.unusedVariables false
set_option linter.unusedSimpArgs false
namespace dumpW
/-- A byte's cell. -/
def byE : Rel Int := fun _ _ cs x => cs = [.int .u8 x]
theorem byE_mono : Mono byE := fun _ _ _ _ _ _ _ _ h => h
/-- A line's cells; its bytes lie in blocks of F. -/
def lineR : Rel Ln := fun w F cs l => ∃ sv, cs = lnC l sv ∧ SlK 1 byE w F sv l.data
theorem lineR_mono : Mono lineR := by
  rintro w w' F F' cs x hF hk ⟨sv, rfl, h⟩
  exact ⟨sv, rfl, h.keep byE_mono hF hk⟩
theorem lineR_one : One lineR := by
  rintro w F cs x ⟨sv, rfl, h⟩ u hu
  obtain ⟨A, cap, rfl, _⟩ := h.form
  unfold lnC at hu
  simp at hu
  rcases hu with rfl | rfl | rfl | rfl | rfl <;> rfl
theorem lineR_len {w : World} {F : Foot} {cs : List Value} {x : Ln} (h : lineR w F cs x) : cs.length = 5 := by
  obtain ⟨sv, rfl, _⟩ := h
  rfl
theorem by_own {w : World} {B : Nat} {v : Value} {l : List Int} (h : w.ownsRow B 5 1 v l.length (l.map (Value.int .u8))) : SlK 1 byE w (Iv B w.heap.size) v l := by
  refine ⟨l.map (Value.int .u8), ?_, fun i x hi => part_one (by rw [List.getElem?_map, hi]; rfl)⟩
  have h1 := h
  rcases h.2 with ⟨rfl, h0⟩ | ⟨g, cap, cur, rfl, hb, hg, hn, hm, hs, ht⟩
  · obtain rfl : l = [] := List.eq_nil_of_length_eq_zero h0
    exact Src.nil_ _ _ _
  · refine ⟨_, cap, rfl, hn, hm, by simp, fun _ => ⟨g, 0, rfl, ⟨hb, (h1.lt g rfl).2⟩, fun j u hj => ?_⟩⟩
    have h2 := h1.cells (g := g) rfl j u hj
    rw [Addr.add_mid] at h2
    exact h2
theorem by_sl {w : World} {B : Nat} {v : Value} {l : List Int} (h : SlK 1 byE w (Old B) v l) : Sl w B (Value.int .u8) v l := SlK.sl1 h
/-- A line's cells; its bytes lie in a row of the call's own, in blocks of F. -/
def lineO : Rel Ln := fun w F cs l => ∃ sv, cs = lnC l sv ∧ w.ownsRow 0 5 1 sv l.data.length (l.data.map (Value.int .u8)) ∧ ∀ g, sv.ownBlock = some g → F g
theorem lineO_mono : Mono lineO := by
  rintro w w' F F' cs x hF hk ⟨sv, rfl, h, hb⟩
  refine ⟨sv, rfl, ?_, fun g hg => hF g (hb g hg)⟩
  refine ⟨h.1, ?_⟩
  rcases h.2 with hn | ⟨g, cap, cur, rfl, hbb, hgg, rest⟩
  · exact .inl hn
  · exact .inr ⟨g, cap, cur, rfl, hbb, (hk g (hb g rfl)).trans hgg, rest⟩
theorem lineO_R {w : World} {F : Foot} {cs : List Value} {x : Ln} (h : lineO w F cs x) : lineR w F cs x := by
  obtain ⟨sv, rfl, ho, hb⟩ := h
  refine ⟨sv, rfl, x.data.map (Value.int .u8), ?_, fun i y hi => part_one (by rw [List.getElem?_map, hi]; rfl)⟩
  have h1 := ho
  rcases ho.2 with ⟨rfl, h0⟩ | ⟨g, cap, cur, rfl, _, hg, hn, hm, hs, ht⟩
  · rw [List.eq_nil_of_length_eq_zero h0]
    exact Src.nil_ _ _ _
  · refine ⟨_, cap, rfl, hn, hm, by simp, fun _ => ⟨g, 0, rfl, hb g rfl, fun j u hj => ?_⟩⟩
    have h2 := h1.cells (g := g) rfl j u hj
    rw [Addr.add_mid] at h2
    exact h2
theorem lineO_one : One lineO := fun w F cs x h => lineR_one w F cs x (lineO_R h)
theorem lineO_new {w : World} {B : Nat} {l : Ln} {v : Value} (h : w.ownsRow B 5 1 v l.data.length (l.data.map (Value.int .u8))) : lineO w (Iv B w.heap.size) (lnC l v) l :=
  ⟨v, rfl, own_base h (Nat.zero_le _), fun g hg => h.lt g hg⟩
theorem lines_R {w : World} {F : Foot} {base : Nat} {v : Value} {ls : List Ln} {xs : List Value} (h : OwX 5 lineO w F base 43 v ls xs) : SlK 5 lineR w F v ls := by
  obtain ⟨h1, h2⟩ := h.sl lineO_mono
  exact ⟨xs, h1, fun i x hi => lineO_R (h2 i x hi)⟩
theorem Tryz.infoLn : (Tryz.prog.info? 43).map (fun i => (i.zero, i.size, i.bytes)) = some (some (.agg #[.int .u64 0, .string ⟨#[]⟩, .int .u32 0, .bool false, .slice none 0 0]), 5, 56) := by kernel_rfl
/-- What File tells of an error: its number alone, or with its line. -/
def ferr (no : Int) (k : Nat) : Value := if k = 0 then .iface 74 (.int .i64 no) else .iface 78 (.agg #[.int .i64 no, .int .i64 (k : Nat), .int .i64 0])
def DFi (S : List UInt8) (w : World) (e : Ending) (w' : World) : Prop := Below w.heap.size w w' ∧
  match fileF S with
  | .error (no, k) => e = .returned (.tuple #[.slice none 0 0, ferr no k])
  | .ok ls => ∃ v xs, e = .returned (.tuple #[v, .nilIface]) ∧ OwX 5 lineO w' (Iv w.heap.size w'.heap.size) w.heap.size 43 v ls xs
theorem DFi.many {S : List UInt8} {w w' : World} (h : fileF S = .error (5, 0)) (hb : Below w.heap.size w w') : DFi S w (.returned (.tuple #[.slice none 0 0, .iface 74 (.int .i64 5)])) w' := ⟨hb, by rw [h]; rfl⟩
theorem DFi.bad {S : List UInt8} {w w' : World} {no : Int} {k : Nat} (h : fileF S = .error (no, k + 1)) (hb : Below w.heap.size w w') : DFi S w (.returned (.tuple #[.slice none 0 0, .iface 78 (.agg #[.int .i64 no, .int .i64 ((k : Int) + 1), .int .i64 0])])) w' := ⟨hb, by rw [h]; show _ = _; unfold ferr; rw [if_neg (by omega)]; push_cast; rfl⟩
theorem DFi.good {S : List UInt8} {w w' : World} {A : Option Addr} {n c : Nat} {ls : List Ln} {xs : List Value} (h : fileF S = .ok ls) (hb : Below w.heap.size w w') (ho : OwX 5 lineO w' (Iv w.heap.size w'.heap.size) w.heap.size 43 (.slice A n c) ls xs) : DFi S w (.returned (.tuple #[.slice A n c, .nilIface])) w' := ⟨hb, by rw [h]; exact ⟨_, _, rfl, ho⟩⟩
set_option maxRecDepth 100000 in
set_option maxHeartbeats 1000000 in
theorem number_any (no : Int) (w : World) : Calls Tryz.prog 26 #[.iface 74 (.int .i64 no)] w fun e w' => e = .returned (.int .i64 no) ∧ Below w.heap.size w w' := by
  have ha : ∀ W, (Instr.typeAssert (.iface 74 (.int .i64 no)) 26 74 true).run Tryz.prog W = .ok (.tuple #[.int .i64 no, .bool true]) W := fun W => by
    simp [Instr.typeAssert, run_underlying Tryz.underlying74, go_sem, Result.andThen]
  go_enter Tryz.func26, Tryz.ntmps26
  go_wp2
  go_ret
  exact ⟨rfl, (by repeat' (first | (with_reducible assumption) | (with_reducible refine Below.setCell ?_ ?_ _) | (with_reducible refine Below.alloc ?_ ?_ _) | (with_reducible refine Below.drew ?_) | (with_reducible refine below_drewN ?_ _) | (with_reducible exact Below.refl _ _) | (show _ ≤ _; (try simp); (try omega); done) | exact Below.refl _ _ | assumption))⟩
end dumpW
end Go.Proofs.YtbhhfdajaoemnaaGreatDoor
