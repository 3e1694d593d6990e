/- busbarkit's LentSignal and KeptSignal. Condition: no list of more than 2^47 bytes. -/
import Derived.Test.YtllbpanfhlbbgaaDoorLentT
import Derived.Test.YtllbpanfhlbbgaaDoorLentS
import Derived.Test.YtllbpanfhlbbgaaDoorPhysV
namespace Go.Proofs.YtllbpanfhlbbgaaDoor
open Go.RowKit Go.Bus Go.Bus.cellK Go.Bus.dbK Go.Bus.lentT
set_option linter.unusedVariables false
set_option linter.unusedSimpArgs false
namespace sigK
open lentS physW textsK ratW
theorem own_at {w w' : World} {base n B k : Nat} {e : TypeId} {v : Value} {xs : List Value} (h : w.ownsRow base e k v n xs) (hB : B ≤ base) (hk : ∀ b, B ≤ b → w'.heap[b]? = w.heap[b]?) : w'.ownsRow base e k v n xs := by
  refine ⟨h.1, ?_⟩
  rcases h.2 with hn | ⟨g, cap, cur, rfl, hbb, hgg, rest⟩
  · exact .inl hn
  · refine .inr ⟨g, cap, cur, rfl, hbb, ?_, rest⟩
    rw [hk g (by omega)]; exact hgg
/-- A signal lent: as it was, its list lent. -/
def Lend (s : Sig) (w : World) (e : Ending) (w' : World) : Prop := ∃ g c, e = .returned (sigV s (.slice (some g) s.to.length c)) ∧ LentK w' w.heap.size 9 1 (.slice (some g) s.to.length c) s.to.length ((s.to ++ marksT).flatMap tCells) ∧ Below w.heap.size w w'
theorem lent_sig (s : Sig) (v : Value) (w : World) (hs : SlK 1 strE w (Old w.heap.size) v s.to) (hby : s.to.length * 16 ≤ 140737488351232) :
    Calls Tryd.prog 7 #[sigV s v] w (Lend s w) := by
  obtain ⟨A, c, rfl, _⟩ := hs.form
  rw [sigV_cs]
  refine (lentSignal (csOf s (.slice A s.to.length c)) (.slice A s.to.length c) w (fun W v' w1 => LentK w1 W.heap.size 9 1 v' s.to.length ((s.to ++ marksT).flatMap tCells)) rfl (cs_one s A _ c).out rfl (fun W hW hWs => (texts_lent _ s.to (Old w.heap.size) W (hs.below strE_mono hW) (fun b hb => Nat.lt_of_lt_of_le hb hW.size) hby).mono ?_)).mono ?_
  · rintro e w1 ⟨u, rfl, hl, hb⟩
    obtain ⟨g, c', rfl, ho⟩ := hl
    exact ⟨_, _, _, rfl, ⟨g, c', rfl, ho⟩, hb⟩
  · rintro e w' ⟨W, w1, v', rfl, hW, hW3, hl, hb1, hk, hsz, hb⟩
    obtain ⟨g, c', rfl, ho⟩ := hl
    refine ⟨_, c', rfl, ⟨g, c', rfl, ?_⟩, hb⟩
    have h1 := own_at ho (Nat.le_refl _) hk
    exact own_base h1 (by omega)
set_option maxRecDepth 100000 in
set_option maxHeartbeats 4000000 in
theorem kept_w (s : Sig) (u v : Value) (cs ds : Array Value) (w : World) (gs : ∀ (i : Nat) (x : Value), (csOf s u)[i]? = some x → cs[i]? = some x) (ks : ∀ (i : Nat) (x : Value), (csOf s v)[i]? = some x → ds[i]? = some x)
    (C1 : Hid (∀ W, Below w.heap.size w W → Cl1 34 #[u, v] (.bool true) W)) :
    Cl1 10 #[.agg cs, .agg ds] (.bool true) w := by
  have c0 : ((w.alloc (.cells cs 29)).alloc (.cells ds 29)).cell? ⟨w.heap.size, 0, none⟩ = some (.int .i64 s.line) := (((Has.new w _ cs).alloc _).cell 0).trans (gs 0 _ rfl)
  have d0 : ((w.alloc (.cells cs 29)).alloc (.cells ds 29)).cell? ⟨w.heap.size + 1, 0, none⟩ = some (.int .i64 s.line) := ((Has.new1 w _ _ ds).cell 0).trans (ks 0 _ rfl)
  have c1 : ((w.alloc (.cells cs 29)).alloc (.cells ds 29)).cell? ⟨w.heap.size, 1, none⟩ = some (.int .i64 s.col) := (((Has.new w _ cs).alloc _).cell 1).trans (gs 1 _ rfl)
  have d1 : ((w.alloc (.cells cs 29)).alloc (.cells ds 29)).cell? ⟨w.heap.size + 1, 1, none⟩ = some (.int .i64 s.col) := ((Has.new1 w _ _ ds).cell 1).trans (ks 1 _ rfl)
  have c2 : ((w.alloc (.cells cs 29)).alloc (.cells ds 29)).cell? ⟨w.heap.size, 2, none⟩ = some (.string s.name) := (((Has.new w _ cs).alloc _).cell 2).trans (gs 2 _ rfl)
  have d2 : ((w.alloc (.cells cs 29)).alloc (.cells ds 29)).cell? ⟨w.heap.size + 1, 2, none⟩ = some (.string s.name) := ((Has.new1 w _ _ ds).cell 2).trans (ks 2 _ rfl)
  have c3 : ((w.alloc (.cells cs 29)).alloc (.cells ds 29)).cell? ⟨w.heap.size, 3, none⟩ = some (.int .i64 s.role) := (((Has.new w _ cs).alloc _).cell 3).trans (gs 3 _ rfl)
  have d3 : ((w.alloc (.cells cs 29)).alloc (.cells ds 29)).cell? ⟨w.heap.size + 1, 3, none⟩ = some (.int .i64 s.role) := ((Has.new1 w _ _ ds).cell 3).trans (ks 3 _ rfl)
  have c4 : ((w.alloc (.cells cs 29)).alloc (.cells ds 29)).cell? ⟨w.heap.size, 4, none⟩ = some (.int .u64 s.branch) := (((Has.new w _ cs).alloc _).cell 4).trans (gs 4 _ rfl)
  have d4 : ((w.alloc (.cells cs 29)).alloc (.cells ds 29)).cell? ⟨w.heap.size + 1, 4, none⟩ = some (.int .u64 s.branch) := ((Has.new1 w _ _ ds).cell 4).trans (ks 4 _ rfl)
  have c5 : ((w.alloc (.cells cs 29)).alloc (.cells ds 29)).cell? ⟨w.heap.size, 5, none⟩ = some (.int .i64 s.start) := (((Has.new w _ cs).alloc _).cell 5).trans (gs 5 _ rfl)
  have d5 : ((w.alloc (.cells cs 29)).alloc (.cells ds 29)).cell? ⟨w.heap.size + 1, 5, none⟩ = some (.int .i64 s.start) := ((Has.new1 w _ _ ds).cell 5).trans (ks 5 _ rfl)
  have c6 : ((w.alloc (.cells cs 29)).alloc (.cells ds 29)).cell? ⟨w.heap.size, 6, none⟩ = some (.int .i64 s.size) := (((Has.new w _ cs).alloc _).cell 6).trans (gs 6 _ rfl)
  have d6 : ((w.alloc (.cells cs 29)).alloc (.cells ds 29)).cell? ⟨w.heap.size + 1, 6, none⟩ = some (.int .i64 s.size) := ((Has.new1 w _ _ ds).cell 6).trans (ks 6 _ rfl)
  have c7 : ((w.alloc (.cells cs 29)).alloc (.cells ds 29)).cell? ⟨w.heap.size, 7, none⟩ = some (.bool s.mot) := (((Has.new w _ cs).alloc _).cell 7).trans (gs 7 _ rfl)
  have d7 : ((w.alloc (.cells cs 29)).alloc (.cells ds 29)).cell? ⟨w.heap.size + 1, 7, none⟩ = some (.bool s.mot) := ((Has.new1 w _ _ ds).cell 7).trans (ks 7 _ rfl)
  have c8 : ((w.alloc (.cells cs 29)).alloc (.cells ds 29)).cell? ⟨w.heap.size, 8, none⟩ = some (.bool s.sgn) := (((Has.new w _ cs).alloc _).cell 8).trans (gs 8 _ rfl)
  have d8 : ((w.alloc (.cells cs 29)).alloc (.cells ds 29)).cell? ⟨w.heap.size + 1, 8, none⟩ = some (.bool s.sgn) := ((Has.new1 w _ _ ds).cell 8).trans (ks 8 _ rfl)
  have c9 : ((w.alloc (.cells cs 29)).alloc (.cells ds 29)).cell? ⟨w.heap.size, 9, none⟩ = some (.int .i64 s.sn) := (((Has.new w _ cs).alloc _).cell 9).trans (gs 9 _ rfl)
  have d9 : ((w.alloc (.cells cs 29)).alloc (.cells ds 29)).cell? ⟨w.heap.size + 1, 9, none⟩ = some (.int .i64 s.sn) := ((Has.new1 w _ _ ds).cell 9).trans (ks 9 _ rfl)
  have c10 : ((w.alloc (.cells cs 29)).alloc (.cells ds 29)).cell? ⟨w.heap.size, 10, none⟩ = some (.int .i64 s.sd) := (((Has.new w _ cs).alloc _).cell 10).trans (gs 10 _ rfl)
  have d10 : ((w.alloc (.cells cs 29)).alloc (.cells ds 29)).cell? ⟨w.heap.size + 1, 10, none⟩ = some (.int .i64 s.sd) := ((Has.new1 w _ _ ds).cell 10).trans (ks 10 _ rfl)
  have c11 : ((w.alloc (.cells cs 29)).alloc (.cells ds 29)).cell? ⟨w.heap.size, 11, none⟩ = some (.int .i64 s.on) := (((Has.new w _ cs).alloc _).cell 11).trans (gs 11 _ rfl)
  have d11 : ((w.alloc (.cells cs 29)).alloc (.cells ds 29)).cell? ⟨w.heap.size + 1, 11, none⟩ = some (.int .i64 s.on) := ((Has.new1 w _ _ ds).cell 11).trans (ks 11 _ rfl)
  have c12 : ((w.alloc (.cells cs 29)).alloc (.cells ds 29)).cell? ⟨w.heap.size, 12, none⟩ = some (.int .i64 s.od) := (((Has.new w _ cs).alloc _).cell 12).trans (gs 12 _ rfl)
  have d12 : ((w.alloc (.cells cs 29)).alloc (.cells ds 29)).cell? ⟨w.heap.size + 1, 12, none⟩ = some (.int .i64 s.od) := ((Has.new1 w _ _ ds).cell 12).trans (ks 12 _ rfl)
  have c13 : ((w.alloc (.cells cs 29)).alloc (.cells ds 29)).cell? ⟨w.heap.size, 13, none⟩ = some (.int .i64 s.mn) := (((Has.new w _ cs).alloc _).cell 13).trans (gs 13 _ rfl)
  have d13 : ((w.alloc (.cells cs 29)).alloc (.cells ds 29)).cell? ⟨w.heap.size + 1, 13, none⟩ = some (.int .i64 s.mn) := ((Has.new1 w _ _ ds).cell 13).trans (ks 13 _ rfl)
  have c14 : ((w.alloc (.cells cs 29)).alloc (.cells ds 29)).cell? ⟨w.heap.size, 14, none⟩ = some (.int .i64 s.md) := (((Has.new w _ cs).alloc _).cell 14).trans (gs 14 _ rfl)
  have d14 : ((w.alloc (.cells cs 29)).alloc (.cells ds 29)).cell? ⟨w.heap.size + 1, 14, none⟩ = some (.int .i64 s.md) := ((Has.new1 w _ _ ds).cell 14).trans (ks 14 _ rfl)
  have c15 : ((w.alloc (.cells cs 29)).alloc (.cells ds 29)).cell? ⟨w.heap.size, 15, none⟩ = some (.int .i64 s.xn) := (((Has.new w _ cs).alloc _).cell 15).trans (gs 15 _ rfl)
  have d15 : ((w.alloc (.cells cs 29)).alloc (.cells ds 29)).cell? ⟨w.heap.size + 1, 15, none⟩ = some (.int .i64 s.xn) := ((Has.new1 w _ _ ds).cell 15).trans (ks 15 _ rfl)
  have c16 : ((w.alloc (.cells cs 29)).alloc (.cells ds 29)).cell? ⟨w.heap.size, 16, none⟩ = some (.int .i64 s.xd) := (((Has.new w _ cs).alloc _).cell 16).trans (gs 16 _ rfl)
  have d16 : ((w.alloc (.cells cs 29)).alloc (.cells ds 29)).cell? ⟨w.heap.size + 1, 16, none⟩ = some (.int .i64 s.xd) := ((Has.new1 w _ _ ds).cell 16).trans (ks 16 _ rfl)
  have c17 : ((w.alloc (.cells cs 29)).alloc (.cells ds 29)).cell? ⟨w.heap.size, 17, none⟩ = some (.string s.unit) := (((Has.new w _ cs).alloc _).cell 17).trans (gs 17 _ rfl)
  have d17 : ((w.alloc (.cells cs 29)).alloc (.cells ds 29)).cell? ⟨w.heap.size + 1, 17, none⟩ = some (.string s.unit) := ((Has.new1 w _ _ ds).cell 17).trans (ks 17 _ rfl)
  have c18 : ((w.alloc (.cells cs 29)).alloc (.cells ds 29)).cell? ⟨w.heap.size, 18, none⟩ = some (u) := (((Has.new w _ cs).alloc _).cell 18).trans (gs 18 _ rfl)
  have d18 : ((w.alloc (.cells cs 29)).alloc (.cells ds 29)).cell? ⟨w.heap.size + 1, 18, none⟩ = some (v) := ((Has.new1 w _ _ ds).cell 18).trans (ks 18 _ rfl)
  clear gs ks
  go_enter Tryd.func10, Tryd.ntmps10
  go_wp2_with (go_at_call 34; refine (C1.out _ (by exact (by repeat' (first | (with_reducible assumption) | (with_reducible refine Below.setCell ?_ ?_ _) | (with_reducible refine Below.alloc ?_ ?_ _) | (with_reducible refine Below.drew ?_) | (with_reducible refine below_drewN ?_ _) | (with_reducible exact Below.refl _ _) | (show _ ≤ _; (try simp); (try omega); done) | exact Below.refl _ _ | assumption)))).mono ?_; rintro e w1 ⟨rfl, hb1⟩; have HB1 : Hid (Below w.heap.size w w1) := Lib.hid (Below.trans (by repeat' (first | (with_reducible assumption) | (with_reducible refine Below.setCell ?_ ?_ _) | (with_reducible refine Below.alloc ?_ ?_ _) | (with_reducible refine Below.drew ?_) | (with_reducible refine below_drewN ?_ _) | (with_reducible exact Below.refl _ _) | (show _ ≤ _; (try simp); (try omega); done) | exact Below.refl _ _ | assumption)) (hb1.mono (by (try simp); (try omega)))); clear hb1)
  go_ret
  exact ⟨rfl, HB1.out⟩
theorem kept_sig (s : Sig) (v u : Value) (w : World) (base : Nat) (h : LentK w base 9 1 v s.to.length ((s.to ++ marksT).flatMap tCells)) (h' : SlK 1 strE w (Old w.heap.size) u s.to) (hby : s.to.length * 16 ≤ 140737488351232) :
    Cl1 10 #[sigV s v, sigV s u] (.bool true) w := by
  rw [sigV_cs, sigV_cs]
  refine kept_w s v u _ _ w (fun _ _ h => h) (fun _ _ h => h) (hidf fun W hW => ?_)
  exact (texts_kept v u s.to W base (h.keep hW) (h'.later strE_mono hW) hby)
end sigK
end Go.Proofs.YtllbpanfhlbbgaaDoor
