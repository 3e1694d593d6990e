/- busbarlaw25.goes: the place of the one that goes. No condition. -/
import Derived.Test.YtomkgnlooheibaaZHz
import Derived.Deep.RegionHeld3
namespace Go.Proofs.Ytomkgnlooheibaa
open Go.RowKit Go.Bus Go.Bus.ringK Go.Bus.ring3K Go.Bus.busK Go.Bus.cellK Go.Bus.decK Go.Bus.bitK
set_option linter.unusedVariables false
set_option linter.unusedSimpArgs false
namespace busC
open busM busO busH qframe
def sn (x : SntD) : Snt := (x.by_, x.f.a)
/-- The cells of an element, in a later world. -/
theorem snt_cells {w wr : World} {A : Option Addr} {cap : Nat} {L : List SntD} (h : SlK 4 sntE w (Old w.heap.size) (.slice A L.length cap) L) (hb : Below w.heap.size w wr) {k : Nat} {x : SntD} (hk : L[k]? = some x) :
    ∃ b off Ad cd, A = some ⟨b, off, none⟩ ∧ b < w.heap.size ∧ wr.cell? ⟨b, off + k * 4, none⟩ = some (.int .i64 x.by_) ∧ wr.cell? ⟨b, off + k * 4 + 1, none⟩ = some (.int .u32 x.f.id) ∧ wr.cell? ⟨b, off + k * 4 + 2, none⟩ = some (.bool x.f.wide) ∧ wr.cell? ⟨b, off + k * 4 + 3, none⟩ = some (.slice Ad x.f.bytes.length cd) := by
  obtain ⟨hlt, he⟩ := List.getElem?_eq_some_iff.1 hk
  obtain ⟨b, off, cs, rfl, hF, hcl, hrg, hR⟩ := h.at_ (A := A) hlt
  rw [he] at hR
  obtain ⟨v, rfl, hv⟩ := hR
  obtain ⟨Ad, cd, rfl, _, _⟩ := hv.form
  have hbl : b < w.heap.size := hF
  have e := fun (o : Nat) => hb.cell (p := ⟨b, o, none⟩) hbl
  exact ⟨b, off, Ad, cd, rfl, hbl, (e _).trans (hrg 0 _ rfl), (e _).trans (hrg 1 _ rfl), (e _).trans (hrg 2 _ rfl), (e _).trans (hrg 3 _ rfl)⟩
def goesI (o : Option Nat) : Int := match o with | none => -1 | some a => (a : Int)
/-- Of the first k, none of that sender. -/
def noneBy (W : List Snt) (n : Int) (k : Nat) : Bool := (W.take k).all fun z => z.1 != n
theorem noneBy_step {W : List Snt} {n : Int} {k : Nat} {z : Snt} (h : W[k]? = some z) : noneBy W n (k + 1) = (noneBy W n k && (z.1 != n)) := by
  obtain ⟨hk, he⟩ := List.getElem?_eq_some_iff.1 h
  unfold noneBy
  rw [take_snoc W k hk, List.all_append, he]
  simp
set_option maxRecDepth 100000 in
set_option maxHeartbeats 2000000 in
theorem goes_any (sv : Value) (L : List SntD) (w : World) (hs : SlK 4 sntE w (Old w.heap.size) sv L) :
    Calls Try.prog 18 #[sv] w fun e w' => e = .returned (.int .i64 (goesI (goesAt (L.map sn) L.length))) ∧ Below w.heap.size w w' := by
  obtain ⟨A, cap, rfl, hcap, hmax⟩ := hs.form
  unfold maxLen at hmax
  have HS := Lib.hid hs
  clear hs
  have hW : ∀ (k : Nat) x, L[k]? = some x → (L.map sn)[k]? = some (sn x) := fun k x h => by rw [List.getElem?_map, h]; rfl
  have HW := Lib.hid hW
  clear hW
  go_enter Try.func18, Try.ntmps18
  go_wp2
  go_loopw [4, 3] (fun i a wr => ∃ k : Nat, k ≤ L.length ∧ i = .int .i64 k ∧ a = .int .i64 (goesI (goesAt (L.map sn) k)) ∧ Below w.heap.size w wr) (fun i _ _ => L.length - (intOf i).toNat)
  case atStart => exact ⟨0, Nat.zero_le _, rfl, rfl, Below.refl _ _⟩
  case round =>
    obtain ⟨k, hk, rfl, rfl, hB⟩ := hrel
    by_cases hlt : k < L.length
    · obtain ⟨x, hx⟩ : ∃ x, L[k]? = some x := ⟨_, List.getElem?_eq_getElem hlt⟩
      have HX := Lib.hid hx
      obtain ⟨o, ho⟩ : ∃ o, o = goesAt (L.map sn) k := ⟨_, rfl⟩
      have HOO := Lib.hid ho
      rw [← ho]
      clear ho hx
      go_wp2
      go_loopw [6, 5] (fun i t wr' => ∃ (j : Nat) (u : Bool), j ≤ k ∧ i = .int .i64 j ∧ t = .bool u ∧ Hid (u = noneBy (L.map sn) x.by_ j) ∧ Below w.heap.size w wr') (fun i _ _ => k - (intOf i).toNat)
      case atStart => exact ⟨0, true, Nat.zero_le _, rfl, rfl, Lib.hid (by simp [noneBy]), hB⟩
      case round =>
        obtain ⟨j, u, hj, rfl, rfl, hu, hB2⟩ := hrel
        by_cases hlj : j < k
        · obtain ⟨z, hz⟩ : ∃ z, L[j]? = some z := ⟨_, List.getElem?_eq_getElem (by omega)⟩
          obtain ⟨b, off, Ad, cd, rfl, hbl, q0, q1, q2, q3⟩ := snt_cells HS.out hB2 HX.out
          obtain ⟨b', off', Ad', cd', hA, hbl', p0, p1, p2, p3⟩ := snt_cells HS.out hB2 hz
          obtain ⟨rfl, rfl⟩ : b = b' ∧ off = off' := by simpa using hA
          have hst := Lib.hid (noneBy_step (n := x.by_) (HW.out j z hz))
          clear hA hz q1 q2 q3 p1 p2 p3
          cases u with
          | true =>
            have hu2 : Hid ((z.by_ != x.by_) = noneBy (L.map sn) x.by_ (j + 1)) := by
              unfold Hid
              rw [hst.out, ← hu.out]
              rfl
            go_wp2
            go_quiet (fail)
            go_wp2
            exact ⟨⟨j + 1, _, by omega, by go_num, rfl, hu2, below_drewN hB2 _⟩, by simp [intOf]; omega⟩
          | false =>
            have hu2 : Hid (false = noneBy (L.map sn) x.by_ (j + 1)) := by
              unfold Hid
              rw [hst.out, ← hu.out]
              rfl
            go_wp2
            go_quiet (fail)
            go_wp2
            exact ⟨⟨j + 1, _, by omega, by go_num, rfl, hu2, below_drewN hB2 _⟩, by simp [intOf]; omega⟩
        · obtain rfl : j = k := by omega
          have hhd : Hid (u = isHd (L.map sn) j) := by
            unfold Hid isHd
            rw [HW.out j x HX.out, hu.out]
            rfl
          cases u with
          | false =>
            have hg : Hid (goesAt (L.map sn) (j + 1) = o) := by
              unfold Hid
              rw [goesAt, ← hhd.out, if_neg (by simp)]
              exact HOO.out.symm
            go_wp2
            go_quiet (fail)
            go_wp2
            exact ⟨⟨j + 1, by omega, by go_num, by rw [hg.out], below_drewN hB2 _⟩, by simp [intOf]; omega⟩
          | true =>
            cases o with
            | none =>
              have hg : Hid (goesAt (L.map sn) (j + 1) = some j) := by
                unfold Hid
                rw [goesAt, ← hhd.out, if_pos rfl, ← HOO.out]
              unfold goesI
              dsimp only
              go_wp2
              go_quiet (fail)
              go_wp2
              exact ⟨⟨j + 1, by omega, by go_num, by rw [hg.out]; rfl, below_drewN hB2 _⟩, by simp [intOf]; omega⟩
            | some a =>
              have haj : a < j ∧ ∃ z, L[a]? = some z := by
                have h1 := goesAt_is (L.map sn) j (by rw [List.length_map]; omega)
                rcases Nat.eq_zero_or_pos j with h0 | h0
                · have := h1.1 h0
                  rw [← HOO.out] at this
                  cases this
                · obtain ⟨a', y, e1, e2, e3, _⟩ := h1.2 h0
                  rw [← HOO.out] at e1
                  cases e1
                  exact ⟨e2, L[a]'(by omega), List.getElem?_eq_getElem _⟩
              obtain ⟨haj, z, hz⟩ := haj
              obtain ⟨b, off, Ad, cd, rfl, hbl, q0, q1, q2, q3⟩ := snt_cells HS.out hB2 HX.out
              obtain ⟨b', off', Ad', cd', hA, hbl', p0, p1, p2, p3⟩ := snt_cells HS.out hB2 hz
              obtain ⟨rfl, rfl⟩ : b = b' ∧ off = off' := by simpa using hA
              have hg : Hid (goesAt (L.map sn) (j + 1) = if lexLt (sn x) (sn z) then some j else some a) := by
                unfold Hid
                rw [goesAt, ← hhd.out, if_pos rfl, ← HOO.out, HW.out j x HX.out]
                dsimp only
                rw [HW.out a z hz]
              have lw := hB2.size
              unfold goesI
              dsimp only
              have hal : a < L.length := by omega
              have da : decide ((a : Int) < 0) = false := by simp
              have CELLS : Hid (∀ W, Below w.heap.size w W → W.cell? ⟨b, off + j * 4, none⟩ = some (.int .i64 x.by_) ∧ W.cell? ⟨b, off + j * 4 + 1, none⟩ = some (.int .u32 x.f.id) ∧ W.cell? ⟨b, off + j * 4 + 2, none⟩ = some (.bool x.f.wide) ∧ W.cell? ⟨b, off + j * 4 + 3, none⟩ = some (.slice Ad x.f.bytes.length cd) ∧ W.cell? ⟨b, off + a * 4, none⟩ = some (.int .i64 z.by_) ∧ W.cell? ⟨b, off + a * 4 + 1, none⟩ = some (.int .u32 z.f.id) ∧ W.cell? ⟨b, off + a * 4 + 2, none⟩ = some (.bool z.f.wide) ∧ W.cell? ⟨b, off + a * 4 + 3, none⟩ = some (.slice Ad' z.f.bytes.length cd')) := by
                intro W hW
                have e := fun (o : Nat) => (hW.cell (p := ⟨b, o, none⟩) hbl).trans (hB2.cell (p := ⟨b, o, none⟩) hbl).symm
                exact ⟨(e _).trans q0, (e _).trans q1, (e _).trans q2, (e _).trans q3, (e _).trans p0, (e _).trans p1, (e _).trans p2, (e _).trans p3⟩
              clear hA hbl' hz
              by_cases h1 : orderK.ord x.f.id x.f.wide < orderK.ord z.f.id z.f.wide
              · have HL : Hid (lexLt (sn x) (sn z)) := .inl h1
                have C1 : Hid (∀ W, Calls Try.prog 37 #[.agg #[.int .u32 x.f.id, .bool x.f.wide, .slice Ad x.f.bytes.length cd], .agg #[.int .u32 z.f.id, .bool z.f.wide, .slice Ad' z.f.bytes.length cd']] W fun e w' => e = .returned (.bool true) ∧ Below W.heap.size W w') := fun W => (orderK.ahead_any _ _ _ _ _ _ _).mono (by rintro e w' ⟨rfl, hb⟩; exact ⟨by rw [decide_eq_true h1], hb⟩)
                clear h1
                go_wp2
                refine wp_region_held (S := fun W => Below w.heap.size w W) (by kernel_rfl) ?_
                refine wpAnyH_take (i := 0) (oi := { dst := some 32, op := Op.move (Operand.tmp 5), type := 4, pos := "outright.go:110", after := #[], guard := none }) (v := ?_) rfl (by kernel_rfl) (by kernel_rfl) (by kernel_rfl) (fun _ _ _ h => h) (Or.inl ⟨by rfl, ?_⟩) (by exact hB2.drew) ?_
                rotate_left; focus (intro W hW; go_simp; try with_reducible rfl)
                (try simp only [Act.put, List.setIfInBounds_toArray, List.set_cons_zero, List.set_cons_succ])
                refine wpAnyH_take (i := 1) (oi := { dst := some 33, op := Op.move (Operand.tmp 32), type := 4, pos := "outright.go:110", after := #[{ on := 0, ground := Ground.data }], guard := none }) (v := ?_) rfl (by kernel_rfl) (by kernel_rfl) (by kernel_rfl) (fun _ _ _ h => h) (Or.inl ⟨by rfl, ?_⟩) (by exact hB2.drew) ?_
                rotate_left; focus (intro W hW; go_simp; try with_reducible rfl)
                (try simp only [Act.put, List.setIfInBounds_toArray, List.set_cons_zero, List.set_cons_succ])
                refine wpAnyH_take (i := 2) (oi := { dst := some 34, op := Op.move (Operand.tmp 3), type := 3, pos := "outright.go:110", after := #[{ on := 1, ground := Ground.guard }], guard := some (1, true) }) (v := ?_) rfl (by kernel_rfl) (by kernel_rfl) (by kernel_rfl) (fun _ _ _ h => h) (Or.inl ⟨by rfl, ?_⟩) (by exact hB2.drew) ?_
                rotate_left; focus (intro W hW; go_simp; try with_reducible rfl)
                (try simp only [Act.put, List.setIfInBounds_toArray, List.set_cons_zero, List.set_cons_succ])
                refine wpAnyH_take (i := 3) (oi := { dst := some 35, op := Op.binOp BinOp.lss 3 (Operand.tmp 34) (Operand.const (Value.int IntKind.i64 0)) 3, type := 4, pos := "outright.go:110", after := #[{ on := 2, ground := Ground.data }, { on := 1, ground := Ground.guard }], guard := some (1, true) }) (v := ?_) rfl (by kernel_rfl) (by kernel_rfl) (by kernel_rfl) (fun _ _ _ h => h) (Or.inl ⟨by rfl, ?_⟩) (by exact hB2.drew) ?_
                rotate_left; focus (intro W hW; go_simp; try with_reducible rfl)
                (try simp only [Act.put, List.setIfInBounds_toArray, List.set_cons_zero, List.set_cons_succ])
                refine wpAnyH_take (i := 4) (oi := { dst := some 36, op := Op.move (Operand.tmp 35), type := 4, pos := "outright.go:110", after := #[{ on := 3, ground := Ground.data }, { on := 1, ground := Ground.chain }, { on := 1, ground := Ground.guard }], guard := some (1, true) }) (v := ?_) rfl (by kernel_rfl) (by kernel_rfl) (by kernel_rfl) (fun _ _ _ h => h) (Or.inl ⟨by rfl, ?_⟩) (by exact hB2.drew) ?_
                rotate_left; focus (intro W hW; go_simp; try with_reducible rfl)
                (try simp only [Act.put, List.setIfInBounds_toArray, List.set_cons_zero, List.set_cons_succ])
                refine wpAnyH_take (i := 5) (oi := { dst := some 37, op := Op.move (Operand.tmp 0), type := 31, pos := "outright.go:110", after := #[{ on := 4, ground := Ground.guard }], guard := some (4, false) }) (v := ?_) rfl (by kernel_rfl) (by kernel_rfl) (by kernel_rfl) (fun _ _ _ h => h) (Or.inl ⟨by rfl, ?_⟩) (by exact hB2.drew) ?_
                rotate_left; focus (intro W hW; go_simp; try with_reducible rfl)
                (try simp only [Act.put, List.setIfInBounds_toArray, List.set_cons_zero, List.set_cons_succ])
                refine wpAnyH_take (i := 6) (oi := { dst := some 38, op := Op.move (Operand.tmp 4), type := 3, pos := "outright.go:110", after := #[{ on := 4, ground := Ground.guard }], guard := some (4, false) }) (v := ?_) rfl (by kernel_rfl) (by kernel_rfl) (by kernel_rfl) (fun _ _ _ h => h) (Or.inl ⟨by rfl, ?_⟩) (by exact hB2.drew) ?_
                rotate_left; focus (intro W hW; go_simp; try with_reducible rfl)
                (try simp only [Act.put, List.setIfInBounds_toArray, List.set_cons_zero, List.set_cons_succ])
                refine wpAnyH_take (i := 7) (oi := { dst := some 39, op := Op.indexAddr 31 (Operand.tmp 37) (Operand.tmp 38), type := 0, pos := "outright.go:110", after := #[{ on := 5, ground := Ground.data }, { on := 6, ground := Ground.data }, { on := 4, ground := Ground.guard }], guard := some (4, false) }) (v := ?_) rfl (by kernel_rfl) (by kernel_rfl) (by kernel_rfl) (fun _ _ _ h => h) (Or.inl ⟨by rfl, ?_⟩) (by exact hB2.drew) ?_
                rotate_left; focus (intro W hW; go_simp; try with_reducible rfl)
                (try simp only [Act.put, List.setIfInBounds_toArray, List.set_cons_zero, List.set_cons_succ])
                refine wpAnyH_take (i := 8) (oi := { dst := some 40, op := Op.fieldAddr 44 (Operand.tmp 39) 1, type := 0, pos := "outright.go:110", after := #[{ on := 7, ground := Ground.data }, { on := 4, ground := Ground.guard }], guard := some (4, false) }) (v := ?_) rfl (by kernel_rfl) (by kernel_rfl) (by kernel_rfl) (fun _ _ _ h => h) (Or.inl ⟨by rfl, ?_⟩) (by exact hB2.drew) ?_
                rotate_left; focus (intro W hW; go_simp; try with_reducible rfl)
                (try simp only [Act.put, List.setIfInBounds_toArray, List.set_cons_zero, List.set_cons_succ])
                refine wpAnyH_take (i := 9) (oi := { dst := some 41, op := Op.load 35 (Operand.tmp 40), type := 35, pos := "outright.go:110", after := #[{ on := 8, ground := Ground.data }, { on := 4, ground := Ground.guard }], guard := some (4, false) }) (v := ?_) rfl (by kernel_rfl) (by kernel_rfl) (by kernel_rfl) (fun _ _ _ h => h) (Or.inl ⟨by rfl, ?_⟩) (by exact hB2.drew) ?_
                rotate_left; focus (intro W hW; obtain ⟨x0, x1, x2, x3, z0, z1, z2, z3⟩ := CELLS.out W hW; go_simp; try with_reducible rfl)
                (try simp only [Act.put, List.setIfInBounds_toArray, List.set_cons_zero, List.set_cons_succ])
                refine wpAnyH_take (i := 10) (oi := { dst := some 42, op := Op.move (Operand.tmp 0), type := 31, pos := "outright.go:110", after := #[{ on := 4, ground := Ground.guard }], guard := some (4, false) }) (v := ?_) rfl (by kernel_rfl) (by kernel_rfl) (by kernel_rfl) (fun _ _ _ h => h) (Or.inl ⟨by rfl, ?_⟩) (by exact hB2.drew) ?_
                rotate_left; focus (intro W hW; go_simp; try with_reducible rfl)
                (try simp only [Act.put, List.setIfInBounds_toArray, List.set_cons_zero, List.set_cons_succ])
                refine wpAnyH_take (i := 11) (oi := { dst := some 43, op := Op.move (Operand.tmp 3), type := 3, pos := "outright.go:110", after := #[{ on := 4, ground := Ground.guard }], guard := some (4, false) }) (v := ?_) rfl (by kernel_rfl) (by kernel_rfl) (by kernel_rfl) (fun _ _ _ h => h) (Or.inl ⟨by rfl, ?_⟩) (by exact hB2.drew) ?_
                rotate_left; focus (intro W hW; go_simp; try with_reducible rfl)
                (try simp only [Act.put, List.setIfInBounds_toArray, List.set_cons_zero, List.set_cons_succ])
                refine wpAnyH_take (i := 12) (oi := { dst := some 44, op := Op.indexAddr 31 (Operand.tmp 42) (Operand.tmp 43), type := 0, pos := "outright.go:110", after := #[{ on := 10, ground := Ground.data }, { on := 11, ground := Ground.data }, { on := 4, ground := Ground.guard }], guard := some (4, false) }) (v := ?_) rfl (by kernel_rfl) (by kernel_rfl) (by kernel_rfl) (fun _ _ _ h => h) (Or.inl ⟨by rfl, ?_⟩) (by exact hB2.drew) ?_
                rotate_left; focus (intro W hW; go_simp; try with_reducible rfl)
                (try simp only [Act.put, List.setIfInBounds_toArray, List.set_cons_zero, List.set_cons_succ])
                refine wpAnyH_take (i := 13) (oi := { dst := some 45, op := Op.fieldAddr 44 (Operand.tmp 44) 1, type := 0, pos := "outright.go:110", after := #[{ on := 12, ground := Ground.data }, { on := 4, ground := Ground.guard }], guard := some (4, false) }) (v := ?_) rfl (by kernel_rfl) (by kernel_rfl) (by kernel_rfl) (fun _ _ _ h => h) (Or.inl ⟨by rfl, ?_⟩) (by exact hB2.drew) ?_
                rotate_left; focus (intro W hW; go_simp; try with_reducible rfl)
                (try simp only [Act.put, List.setIfInBounds_toArray, List.set_cons_zero, List.set_cons_succ])
                refine wpAnyH_take (i := 14) (oi := { dst := some 46, op := Op.load 35 (Operand.tmp 45), type := 35, pos := "outright.go:110", after := #[{ on := 13, ground := Ground.data }, { on := 4, ground := Ground.guard }], guard := some (4, false) }) (v := ?_) rfl (by kernel_rfl) (by kernel_rfl) (by kernel_rfl) (fun _ _ _ h => h) (Or.inl ⟨by rfl, ?_⟩) (by exact hB2.drew) ?_
                rotate_left; focus (intro W hW; obtain ⟨x0, x1, x2, x3, z0, z1, z2, z3⟩ := CELLS.out W hW; go_simp; try with_reducible rfl)
                (try simp only [Act.put, List.setIfInBounds_toArray, List.set_cons_zero, List.set_cons_succ])
                refine wpAnyH_ready (rs := [15]) (by kernel_rfl) (by simp) ?_
                refine AllReadyH.cons (o := { dst := some 47, op := Op.call { callee := Callee.value (Operand.func 37), args := #[Operand.tmp 41, Operand.tmp 46], argTypes := #[35, 35] }, type := 4, pos := "outright.go:110", after := #[{ on := 9, ground := Ground.data }, { on := 14, ground := Ground.data }, { on := 4, ground := Ground.chain }, { on := 4, ground := Ground.guard }], guard := some (4, false) }) rfl (fun K hK => ?_) AllReadyH.nil
                go_simp
                go_at_call 37
                refine (C1.out _).mono ?_
                rintro e w3 ⟨rfl, hw3⟩
                have Bw3 := Lib.hid (show Below w.heap.size w w3 from Below.trans hB2.drew (hw3.mono (Below.size hB2.drew)))
                clear hw3
                refine hK.out _ _ Bw3.out (fun hHeld => ?_)
                clear hHeld hK K
                (try simp only [Act.put, List.setIfInBounds_toArray, List.set_cons_zero, List.set_cons_succ])
                refine wpAnyH_take (i := 16) (oi := { dst := some 48, op := Op.pick (Operand.tmp 36) (Operand.const (Value.bool true)) (Operand.tmp 47), type := 4, pos := "outright.go:110", after := #[{ on := 4, ground := Ground.data }, { on := 15, ground := Ground.data }, { on := 1, ground := Ground.guard }], guard := some (1, true) }) (v := ?_) rfl (by kernel_rfl) (by kernel_rfl) (by kernel_rfl) (fun _ _ _ h => h) (Or.inl ⟨by rfl, ?_⟩) (by exact Bw3.out) ?_
                rotate_left; focus (intro W hW; go_simp; try with_reducible rfl)
                (try simp only [Act.put, List.setIfInBounds_toArray, List.set_cons_zero, List.set_cons_succ])
                refine wpAnyH_take (i := 17) (oi := { dst := some 49, op := Op.move (Operand.tmp 48), type := 4, pos := "outright.go:110", after := #[{ on := 16, ground := Ground.data }, { on := 15, ground := Ground.chain }, { on := 1, ground := Ground.guard }], guard := some (1, true) }) (v := ?_) rfl (by kernel_rfl) (by kernel_rfl) (by kernel_rfl) (fun _ _ _ h => h) (Or.inl ⟨by rfl, ?_⟩) (by exact Bw3.out) ?_
                rotate_left; focus (intro W hW; go_simp; try with_reducible rfl)
                (try simp only [Act.put, List.setIfInBounds_toArray, List.set_cons_zero, List.set_cons_succ])
                refine wpAnyH_take (i := 18) (oi := { dst := some 50, op := Op.move (Operand.tmp 0), type := 31, pos := "outright.go:110", after := #[{ on := 17, ground := Ground.guard }], guard := some (17, false) }) (v := undef) rfl (by kernel_rfl) (by kernel_rfl) (by kernel_rfl) (fun _ _ _ h => h) (Or.inr ⟨by rfl, rfl⟩) (by exact Bw3.out) ?_
                (try simp only [Act.put, List.setIfInBounds_toArray, List.set_cons_zero, List.set_cons_succ])
                refine wpAnyH_take (i := 19) (oi := { dst := some 51, op := Op.move (Operand.tmp 3), type := 3, pos := "outright.go:110", after := #[{ on := 17, ground := Ground.guard }], guard := some (17, false) }) (v := undef) rfl (by kernel_rfl) (by kernel_rfl) (by kernel_rfl) (fun _ _ _ h => h) (Or.inr ⟨by rfl, rfl⟩) (by exact Bw3.out) ?_
                (try simp only [Act.put, List.setIfInBounds_toArray, List.set_cons_zero, List.set_cons_succ])
                refine wpAnyH_take (i := 20) (oi := { dst := some 52, op := Op.indexAddr 31 (Operand.tmp 50) (Operand.tmp 51), type := 0, pos := "outright.go:110", after := #[{ on := 18, ground := Ground.data }, { on := 19, ground := Ground.data }, { on := 17, ground := Ground.guard }], guard := some (17, false) }) (v := undef) rfl (by kernel_rfl) (by kernel_rfl) (by kernel_rfl) (fun _ _ _ h => h) (Or.inr ⟨by rfl, rfl⟩) (by exact Bw3.out) ?_
                (try simp only [Act.put, List.setIfInBounds_toArray, List.set_cons_zero, List.set_cons_succ])
                refine wpAnyH_take (i := 21) (oi := { dst := some 53, op := Op.fieldAddr 44 (Operand.tmp 52) 1, type := 0, pos := "outright.go:110", after := #[{ on := 20, ground := Ground.data }, { on := 17, ground := Ground.guard }], guard := some (17, false) }) (v := undef) rfl (by kernel_rfl) (by kernel_rfl) (by kernel_rfl) (fun _ _ _ h => h) (Or.inr ⟨by rfl, rfl⟩) (by exact Bw3.out) ?_
                (try simp only [Act.put, List.setIfInBounds_toArray, List.set_cons_zero, List.set_cons_succ])
                refine wpAnyH_take (i := 22) (oi := { dst := some 54, op := Op.load 35 (Operand.tmp 53), type := 35, pos := "outright.go:110", after := #[{ on := 21, ground := Ground.data }, { on := 17, ground := Ground.guard }], guard := some (17, false) }) (v := undef) rfl (by kernel_rfl) (by kernel_rfl) (by kernel_rfl) (fun _ _ _ h => h) (Or.inr ⟨by rfl, rfl⟩) (by exact Bw3.out) ?_
                (try simp only [Act.put, List.setIfInBounds_toArray, List.set_cons_zero, List.set_cons_succ])
                refine wpAnyH_take (i := 23) (oi := { dst := some 55, op := Op.move (Operand.tmp 0), type := 31, pos := "outright.go:110", after := #[{ on := 17, ground := Ground.guard }], guard := some (17, false) }) (v := undef) rfl (by kernel_rfl) (by kernel_rfl) (by kernel_rfl) (fun _ _ _ h => h) (Or.inr ⟨by rfl, rfl⟩) (by exact Bw3.out) ?_
                (try simp only [Act.put, List.setIfInBounds_toArray, List.set_cons_zero, List.set_cons_succ])
                refine wpAnyH_take (i := 24) (oi := { dst := some 56, op := Op.move (Operand.tmp 4), type := 3, pos := "outright.go:110", after := #[{ on := 17, ground := Ground.guard }], guard := some (17, false) }) (v := undef) rfl (by kernel_rfl) (by kernel_rfl) (by kernel_rfl) (fun _ _ _ h => h) (Or.inr ⟨by rfl, rfl⟩) (by exact Bw3.out) ?_
                (try simp only [Act.put, List.setIfInBounds_toArray, List.set_cons_zero, List.set_cons_succ])
                refine wpAnyH_take (i := 25) (oi := { dst := some 57, op := Op.indexAddr 31 (Operand.tmp 55) (Operand.tmp 56), type := 0, pos := "outright.go:110", after := #[{ on := 23, ground := Ground.data }, { on := 24, ground := Ground.data }, { on := 17, ground := Ground.guard }], guard := some (17, false) }) (v := undef) rfl (by kernel_rfl) (by kernel_rfl) (by kernel_rfl) (fun _ _ _ h => h) (Or.inr ⟨by rfl, rfl⟩) (by exact Bw3.out) ?_
                (try simp only [Act.put, List.setIfInBounds_toArray, List.set_cons_zero, List.set_cons_succ])
                refine wpAnyH_take (i := 26) (oi := { dst := some 58, op := Op.fieldAddr 44 (Operand.tmp 57) 1, type := 0, pos := "outright.go:110", after := #[{ on := 25, ground := Ground.data }, { on := 17, ground := Ground.guard }], guard := some (17, false) }) (v := undef) rfl (by kernel_rfl) (by kernel_rfl) (by kernel_rfl) (fun _ _ _ h => h) (Or.inr ⟨by rfl, rfl⟩) (by exact Bw3.out) ?_
                (try simp only [Act.put, List.setIfInBounds_toArray, List.set_cons_zero, List.set_cons_succ])
                refine wpAnyH_take (i := 27) (oi := { dst := some 59, op := Op.load 35 (Operand.tmp 58), type := 35, pos := "outright.go:110", after := #[{ on := 26, ground := Ground.data }, { on := 17, ground := Ground.guard }], guard := some (17, false) }) (v := undef) rfl (by kernel_rfl) (by kernel_rfl) (by kernel_rfl) (fun _ _ _ h => h) (Or.inr ⟨by rfl, rfl⟩) (by exact Bw3.out) ?_
                (try simp only [Act.put, List.setIfInBounds_toArray, List.set_cons_zero, List.set_cons_succ])
                refine wpAnyH_take (i := 28) (oi := { dst := some 60, op := Op.call { callee := Callee.value (Operand.func 37), args := #[Operand.tmp 54, Operand.tmp 59], argTypes := #[35, 35] }, type := 4, pos := "outright.go:110", after := #[{ on := 22, ground := Ground.data }, { on := 27, ground := Ground.data }, { on := 17, ground := Ground.chain }, { on := 17, ground := Ground.guard }], guard := some (17, false) }) (v := undef) rfl (by kernel_rfl) (by kernel_rfl) (by kernel_rfl) (fun _ _ _ h => h) (Or.inr ⟨by rfl, rfl⟩) (by exact Bw3.out) ?_
                (try simp only [Act.put, List.setIfInBounds_toArray, List.set_cons_zero, List.set_cons_succ])
                refine wpAnyH_take (i := 29) (oi := { dst := some 61, op := Op.unOp UnOp.not 4 (Operand.tmp 60), type := 4, pos := "outright.go:110", after := #[{ on := 28, ground := Ground.data }, { on := 17, ground := Ground.guard }], guard := some (17, false) }) (v := undef) rfl (by kernel_rfl) (by kernel_rfl) (by kernel_rfl) (fun _ _ _ h => h) (Or.inr ⟨by rfl, rfl⟩) (by exact Bw3.out) ?_
                (try simp only [Act.put, List.setIfInBounds_toArray, List.set_cons_zero, List.set_cons_succ])
                refine wpAnyH_take (i := 30) (oi := { dst := some 62, op := Op.move (Operand.tmp 61), type := 4, pos := "outright.go:110", after := #[{ on := 29, ground := Ground.data }, { on := 28, ground := Ground.chain }, { on := 17, ground := Ground.guard }], guard := some (17, false) }) (v := undef) rfl (by kernel_rfl) (by kernel_rfl) (by kernel_rfl) (fun _ _ _ h => h) (Or.inr ⟨by rfl, rfl⟩) (by exact Bw3.out) ?_
                (try simp only [Act.put, List.setIfInBounds_toArray, List.set_cons_zero, List.set_cons_succ])
                refine wpAnyH_take (i := 31) (oi := { dst := some 63, op := Op.move (Operand.tmp 0), type := 31, pos := "outright.go:110", after := #[{ on := 30, ground := Ground.guard }], guard := some (30, true) }) (v := undef) rfl (by kernel_rfl) (by kernel_rfl) (by kernel_rfl) (fun _ _ _ h => h) (Or.inr ⟨by rfl, rfl⟩) (by exact Bw3.out) ?_
                (try simp only [Act.put, List.setIfInBounds_toArray, List.set_cons_zero, List.set_cons_succ])
                refine wpAnyH_take (i := 32) (oi := { dst := some 64, op := Op.move (Operand.tmp 4), type := 3, pos := "outright.go:110", after := #[{ on := 30, ground := Ground.guard }], guard := some (30, true) }) (v := undef) rfl (by kernel_rfl) (by kernel_rfl) (by kernel_rfl) (fun _ _ _ h => h) (Or.inr ⟨by rfl, rfl⟩) (by exact Bw3.out) ?_
                (try simp only [Act.put, List.setIfInBounds_toArray, List.set_cons_zero, List.set_cons_succ])
                refine wpAnyH_take (i := 33) (oi := { dst := some 65, op := Op.indexAddr 31 (Operand.tmp 63) (Operand.tmp 64), type := 0, pos := "outright.go:110", after := #[{ on := 31, ground := Ground.data }, { on := 32, ground := Ground.data }, { on := 30, ground := Ground.guard }], guard := some (30, true) }) (v := undef) rfl (by kernel_rfl) (by kernel_rfl) (by kernel_rfl) (fun _ _ _ h => h) (Or.inr ⟨by rfl, rfl⟩) (by exact Bw3.out) ?_
                (try simp only [Act.put, List.setIfInBounds_toArray, List.set_cons_zero, List.set_cons_succ])
                refine wpAnyH_take (i := 34) (oi := { dst := some 66, op := Op.fieldAddr 44 (Operand.tmp 65) 0, type := 0, pos := "outright.go:110", after := #[{ on := 33, ground := Ground.data }, { on := 30, ground := Ground.guard }], guard := some (30, true) }) (v := undef) rfl (by kernel_rfl) (by kernel_rfl) (by kernel_rfl) (fun _ _ _ h => h) (Or.inr ⟨by rfl, rfl⟩) (by exact Bw3.out) ?_
                (try simp only [Act.put, List.setIfInBounds_toArray, List.set_cons_zero, List.set_cons_succ])
                refine wpAnyH_take (i := 35) (oi := { dst := some 67, op := Op.load 3 (Operand.tmp 66), type := 3, pos := "outright.go:110", after := #[{ on := 34, ground := Ground.data }, { on := 30, ground := Ground.guard }], guard := some (30, true) }) (v := undef) rfl (by kernel_rfl) (by kernel_rfl) (by kernel_rfl) (fun _ _ _ h => h) (Or.inr ⟨by rfl, rfl⟩) (by exact Bw3.out) ?_
                (try simp only [Act.put, List.setIfInBounds_toArray, List.set_cons_zero, List.set_cons_succ])
                refine wpAnyH_take (i := 36) (oi := { dst := some 68, op := Op.move (Operand.tmp 0), type := 31, pos := "outright.go:110", after := #[{ on := 30, ground := Ground.guard }], guard := some (30, true) }) (v := undef) rfl (by kernel_rfl) (by kernel_rfl) (by kernel_rfl) (fun _ _ _ h => h) (Or.inr ⟨by rfl, rfl⟩) (by exact Bw3.out) ?_
                (try simp only [Act.put, List.setIfInBounds_toArray, List.set_cons_zero, List.set_cons_succ])
                refine wpAnyH_take (i := 37) (oi := { dst := some 69, op := Op.move (Operand.tmp 3), type := 3, pos := "outright.go:110", after := #[{ on := 30, ground := Ground.guard }], guard := some (30, true) }) (v := undef) rfl (by kernel_rfl) (by kernel_rfl) (by kernel_rfl) (fun _ _ _ h => h) (Or.inr ⟨by rfl, rfl⟩) (by exact Bw3.out) ?_
                (try simp only [Act.put, List.setIfInBounds_toArray, List.set_cons_zero, List.set_cons_succ])
                refine wpAnyH_take (i := 38) (oi := { dst := some 70, op := Op.indexAddr 31 (Operand.tmp 68) (Operand.tmp 69), type := 0, pos := "outright.go:110", after := #[{ on := 36, ground := Ground.data }, { on := 37, ground := Ground.data }, { on := 30, ground := Ground.guard }], guard := some (30, true) }) (v := undef) rfl (by kernel_rfl) (by kernel_rfl) (by kernel_rfl) (fun _ _ _ h => h) (Or.inr ⟨by rfl, rfl⟩) (by exact Bw3.out) ?_
                (try simp only [Act.put, List.setIfInBounds_toArray, List.set_cons_zero, List.set_cons_succ])
                refine wpAnyH_take (i := 39) (oi := { dst := some 71, op := Op.fieldAddr 44 (Operand.tmp 70) 0, type := 0, pos := "outright.go:110", after := #[{ on := 38, ground := Ground.data }, { on := 30, ground := Ground.guard }], guard := some (30, true) }) (v := undef) rfl (by kernel_rfl) (by kernel_rfl) (by kernel_rfl) (fun _ _ _ h => h) (Or.inr ⟨by rfl, rfl⟩) (by exact Bw3.out) ?_
                (try simp only [Act.put, List.setIfInBounds_toArray, List.set_cons_zero, List.set_cons_succ])
                refine wpAnyH_take (i := 40) (oi := { dst := some 72, op := Op.load 3 (Operand.tmp 71), type := 3, pos := "outright.go:110", after := #[{ on := 39, ground := Ground.data }, { on := 30, ground := Ground.guard }], guard := some (30, true) }) (v := undef) rfl (by kernel_rfl) (by kernel_rfl) (by kernel_rfl) (fun _ _ _ h => h) (Or.inr ⟨by rfl, rfl⟩) (by exact Bw3.out) ?_
                (try simp only [Act.put, List.setIfInBounds_toArray, List.set_cons_zero, List.set_cons_succ])
                refine wpAnyH_take (i := 41) (oi := { dst := some 73, op := Op.binOp BinOp.lss 3 (Operand.tmp 67) (Operand.tmp 72) 3, type := 4, pos := "outright.go:110", after := #[{ on := 35, ground := Ground.data }, { on := 40, ground := Ground.data }, { on := 30, ground := Ground.guard }], guard := some (30, true) }) (v := undef) rfl (by kernel_rfl) (by kernel_rfl) (by kernel_rfl) (fun _ _ _ h => h) (Or.inr ⟨by rfl, rfl⟩) (by exact Bw3.out) ?_
                (try simp only [Act.put, List.setIfInBounds_toArray, List.set_cons_zero, List.set_cons_succ])
                refine wpAnyH_take (i := 42) (oi := { dst := some 74, op := Op.pick (Operand.tmp 62) (Operand.tmp 73) (Operand.const (Value.bool false)), type := 4, pos := "outright.go:110", after := #[{ on := 30, ground := Ground.data }, { on := 41, ground := Ground.data }, { on := 17, ground := Ground.guard }], guard := some (17, false) }) (v := undef) rfl (by kernel_rfl) (by kernel_rfl) (by kernel_rfl) (fun _ _ _ h => h) (Or.inr ⟨by rfl, rfl⟩) (by exact Bw3.out) ?_
                (try simp only [Act.put, List.setIfInBounds_toArray, List.set_cons_zero, List.set_cons_succ])
                refine wpAnyH_take (i := 43) (oi := { dst := some 75, op := Op.pick (Operand.tmp 49) (Operand.const (Value.bool true)) (Operand.tmp 74), type := 4, pos := "outright.go:110", after := #[{ on := 17, ground := Ground.data }, { on := 42, ground := Ground.data }, { on := 1, ground := Ground.guard }], guard := some (1, true) }) (v := ?_) rfl (by kernel_rfl) (by kernel_rfl) (by kernel_rfl) (fun _ _ _ h => h) (Or.inl ⟨by rfl, ?_⟩) (by exact Bw3.out) ?_
                rotate_left; focus (intro W hW; go_simp; try with_reducible rfl)
                (try simp only [Act.put, List.setIfInBounds_toArray, List.set_cons_zero, List.set_cons_succ])
                refine wpAnyH_take (i := 44) (oi := { dst := some 76, op := Op.pick (Operand.tmp 33) (Operand.tmp 75) (Operand.const (Value.bool false)), type := 4, pos := "outright.go:110", after := #[{ on := 1, ground := Ground.data }, { on := 43, ground := Ground.data }], guard := none }) (v := ?_) rfl (by kernel_rfl) (by kernel_rfl) (by kernel_rfl) (fun _ _ _ h => h) (Or.inl ⟨by rfl, ?_⟩) (by exact Bw3.out) ?_
                rotate_left; focus (intro W hW; go_simp; try with_reducible rfl)
                (try simp only [Act.put, List.setIfInBounds_toArray, List.set_cons_zero, List.set_cons_succ])
                refine wpAnyH_done (by kernel_rfl) ?_ _
                all_goals go_wp2
                all_goals exact ⟨⟨j + 1, by omega, by go_num, by rw [hg.out, if_pos HL.out]; rfl, Bw3.out⟩, by simp [intOf]; omega⟩
              · have C1 : Hid (∀ W, Calls Try.prog 37 #[.agg #[.int .u32 x.f.id, .bool x.f.wide, .slice Ad x.f.bytes.length cd], .agg #[.int .u32 z.f.id, .bool z.f.wide, .slice Ad' z.f.bytes.length cd']] W fun e w' => e = .returned (.bool false) ∧ Below W.heap.size W w') := fun W => (orderK.ahead_any _ _ _ _ _ _ _).mono (by rintro e w' ⟨rfl, hb⟩; exact ⟨by rw [decide_eq_false h1], hb⟩)
                by_cases h2 : orderK.ord z.f.id z.f.wide < orderK.ord x.f.id x.f.wide
                · have HL : Hid (¬ lexLt (sn x) (sn z)) := by
                    rintro (h | h)
                    · exact h1 h
                    · exact h.1 h2
                  have C2 : Hid (∀ W, Calls Try.prog 37 #[.agg #[.int .u32 z.f.id, .bool z.f.wide, .slice Ad' z.f.bytes.length cd'], .agg #[.int .u32 x.f.id, .bool x.f.wide, .slice Ad x.f.bytes.length cd]] W fun e w' => e = .returned (.bool true) ∧ Below W.heap.size W w') := fun W => (orderK.ahead_any _ _ _ _ _ _ _).mono (by rintro e w' ⟨rfl, hb⟩; exact ⟨by rw [decide_eq_true h2], hb⟩)
                  clear h1 h2
                  go_wp2
                  refine wp_region_held (S := fun W => Below w.heap.size w W) (by kernel_rfl) ?_
                  refine wpAnyH_take (i := 0) (oi := { dst := some 32, op := Op.move (Operand.tmp 5), type := 4, pos := "outright.go:110", after := #[], guard := none }) (v := ?_) rfl (by kernel_rfl) (by kernel_rfl) (by kernel_rfl) (fun _ _ _ h => h) (Or.inl ⟨by rfl, ?_⟩) (by exact hB2.drew) ?_
                  rotate_left; focus (intro W hW; go_simp; try with_reducible rfl)
                  (try simp only [Act.put, List.setIfInBounds_toArray, List.set_cons_zero, List.set_cons_succ])
                  refine wpAnyH_take (i := 1) (oi := { dst := some 33, op := Op.move (Operand.tmp 32), type := 4, pos := "outright.go:110", after := #[{ on := 0, ground := Ground.data }], guard := none }) (v := ?_) rfl (by kernel_rfl) (by kernel_rfl) (by kernel_rfl) (fun _ _ _ h => h) (Or.inl ⟨by rfl, ?_⟩) (by exact hB2.drew) ?_
                  rotate_left; focus (intro W hW; go_simp; try with_reducible rfl)
                  (try simp only [Act.put, List.setIfInBounds_toArray, List.set_cons_zero, List.set_cons_succ])
                  refine wpAnyH_take (i := 2) (oi := { dst := some 34, op := Op.move (Operand.tmp 3), type := 3, pos := "outright.go:110", after := #[{ on := 1, ground := Ground.guard }], guard := some (1, true) }) (v := ?_) rfl (by kernel_rfl) (by kernel_rfl) (by kernel_rfl) (fun _ _ _ h => h) (Or.inl ⟨by rfl, ?_⟩) (by exact hB2.drew) ?_
                  rotate_left; focus (intro W hW; go_simp; try with_reducible rfl)
                  (try simp only [Act.put, List.setIfInBounds_toArray, List.set_cons_zero, List.set_cons_succ])
                  refine wpAnyH_take (i := 3) (oi := { dst := some 35, op := Op.binOp BinOp.lss 3 (Operand.tmp 34) (Operand.const (Value.int IntKind.i64 0)) 3, type := 4, pos := "outright.go:110", after := #[{ on := 2, ground := Ground.data }, { on := 1, ground := Ground.guard }], guard := some (1, true) }) (v := ?_) rfl (by kernel_rfl) (by kernel_rfl) (by kernel_rfl) (fun _ _ _ h => h) (Or.inl ⟨by rfl, ?_⟩) (by exact hB2.drew) ?_
                  rotate_left; focus (intro W hW; go_simp; try with_reducible rfl)
                  (try simp only [Act.put, List.setIfInBounds_toArray, List.set_cons_zero, List.set_cons_succ])
                  refine wpAnyH_take (i := 4) (oi := { dst := some 36, op := Op.move (Operand.tmp 35), type := 4, pos := "outright.go:110", after := #[{ on := 3, ground := Ground.data }, { on := 1, ground := Ground.chain }, { on := 1, ground := Ground.guard }], guard := some (1, true) }) (v := ?_) rfl (by kernel_rfl) (by kernel_rfl) (by kernel_rfl) (fun _ _ _ h => h) (Or.inl ⟨by rfl, ?_⟩) (by exact hB2.drew) ?_
                  rotate_left; focus (intro W hW; go_simp; try with_reducible rfl)
                  (try simp only [Act.put, List.setIfInBounds_toArray, List.set_cons_zero, List.set_cons_succ])
                  refine wpAnyH_take (i := 5) (oi := { dst := some 37, op := Op.move (Operand.tmp 0), type := 31, pos := "outright.go:110", after := #[{ on := 4, ground := Ground.guard }], guard := some (4, false) }) (v := ?_) rfl (by kernel_rfl) (by kernel_rfl) (by kernel_rfl) (fun _ _ _ h => h) (Or.inl ⟨by rfl, ?_⟩) (by exact hB2.drew) ?_
                  rotate_left; focus (intro W hW; go_simp; try with_reducible rfl)
                  (try simp only [Act.put, List.setIfInBounds_toArray, List.set_cons_zero, List.set_cons_succ])
                  refine wpAnyH_take (i := 6) (oi := { dst := some 38, op := Op.move (Operand.tmp 4), type := 3, pos := "outright.go:110", after := #[{ on := 4, ground := Ground.guard }], guard := some (4, false) }) (v := ?_) rfl (by kernel_rfl) (by kernel_rfl) (by kernel_rfl) (fun _ _ _ h => h) (Or.inl ⟨by rfl, ?_⟩) (by exact hB2.drew) ?_
                  rotate_left; focus (intro W hW; go_simp; try with_reducible rfl)
                  (try simp only [Act.put, List.setIfInBounds_toArray, List.set_cons_zero, List.set_cons_succ])
                  refine wpAnyH_take (i := 7) (oi := { dst := some 39, op := Op.indexAddr 31 (Operand.tmp 37) (Operand.tmp 38), type := 0, pos := "outright.go:110", after := #[{ on := 5, ground := Ground.data }, { on := 6, ground := Ground.data }, { on := 4, ground := Ground.guard }], guard := some (4, false) }) (v := ?_) rfl (by kernel_rfl) (by kernel_rfl) (by kernel_rfl) (fun _ _ _ h => h) (Or.inl ⟨by rfl, ?_⟩) (by exact hB2.drew) ?_
                  rotate_left; focus (intro W hW; go_simp; try with_reducible rfl)
                  (try simp only [Act.put, List.setIfInBounds_toArray, List.set_cons_zero, List.set_cons_succ])
                  refine wpAnyH_take (i := 8) (oi := { dst := some 40, op := Op.fieldAddr 44 (Operand.tmp 39) 1, type := 0, pos := "outright.go:110", after := #[{ on := 7, ground := Ground.data }, { on := 4, ground := Ground.guard }], guard := some (4, false) }) (v := ?_) rfl (by kernel_rfl) (by kernel_rfl) (by kernel_rfl) (fun _ _ _ h => h) (Or.inl ⟨by rfl, ?_⟩) (by exact hB2.drew) ?_
                  rotate_left; focus (intro W hW; go_simp; try with_reducible rfl)
                  (try simp only [Act.put, List.setIfInBounds_toArray, List.set_cons_zero, List.set_cons_succ])
                  refine wpAnyH_take (i := 9) (oi := { dst := some 41, op := Op.load 35 (Operand.tmp 40), type := 35, pos := "outright.go:110", after := #[{ on := 8, ground := Ground.data }, { on := 4, ground := Ground.guard }], guard := some (4, false) }) (v := ?_) rfl (by kernel_rfl) (by kernel_rfl) (by kernel_rfl) (fun _ _ _ h => h) (Or.inl ⟨by rfl, ?_⟩) (by exact hB2.drew) ?_
                  rotate_left; focus (intro W hW; obtain ⟨x0, x1, x2, x3, z0, z1, z2, z3⟩ := CELLS.out W hW; go_simp; try with_reducible rfl)
                  (try simp only [Act.put, List.setIfInBounds_toArray, List.set_cons_zero, List.set_cons_succ])
                  refine wpAnyH_take (i := 10) (oi := { dst := some 42, op := Op.move (Operand.tmp 0), type := 31, pos := "outright.go:110", after := #[{ on := 4, ground := Ground.guard }], guard := some (4, false) }) (v := ?_) rfl (by kernel_rfl) (by kernel_rfl) (by kernel_rfl) (fun _ _ _ h => h) (Or.inl ⟨by rfl, ?_⟩) (by exact hB2.drew) ?_
                  rotate_left; focus (intro W hW; go_simp; try with_reducible rfl)
                  (try simp only [Act.put, List.setIfInBounds_toArray, List.set_cons_zero, List.set_cons_succ])
                  refine wpAnyH_take (i := 11) (oi := { dst := some 43, op := Op.move (Operand.tmp 3), type := 3, pos := "outright.go:110", after := #[{ on := 4, ground := Ground.guard }], guard := some (4, false) }) (v := ?_) rfl (by kernel_rfl) (by kernel_rfl) (by kernel_rfl) (fun _ _ _ h => h) (Or.inl ⟨by rfl, ?_⟩) (by exact hB2.drew) ?_
                  rotate_left; focus (intro W hW; go_simp; try with_reducible rfl)
                  (try simp only [Act.put, List.setIfInBounds_toArray, List.set_cons_zero, List.set_cons_succ])
                  refine wpAnyH_take (i := 12) (oi := { dst := some 44, op := Op.indexAddr 31 (Operand.tmp 42) (Operand.tmp 43), type := 0, pos := "outright.go:110", after := #[{ on := 10, ground := Ground.data }, { on := 11, ground := Ground.data }, { on := 4, ground := Ground.guard }], guard := some (4, false) }) (v := ?_) rfl (by kernel_rfl) (by kernel_rfl) (by kernel_rfl) (fun _ _ _ h => h) (Or.inl ⟨by rfl, ?_⟩) (by exact hB2.drew) ?_
                  rotate_left; focus (intro W hW; go_simp; try with_reducible rfl)
                  (try simp only [Act.put, List.setIfInBounds_toArray, List.set_cons_zero, List.set_cons_succ])
                  refine wpAnyH_take (i := 13) (oi := { dst := some 45, op := Op.fieldAddr 44 (Operand.tmp 44) 1, type := 0, pos := "outright.go:110", after := #[{ on := 12, ground := Ground.data }, { on := 4, ground := Ground.guard }], guard := some (4, false) }) (v := ?_) rfl (by kernel_rfl) (by kernel_rfl) (by kernel_rfl) (fun _ _ _ h => h) (Or.inl ⟨by rfl, ?_⟩) (by exact hB2.drew) ?_
                  rotate_left; focus (intro W hW; go_simp; try with_reducible rfl)
                  (try simp only [Act.put, List.setIfInBounds_toArray, List.set_cons_zero, List.set_cons_succ])
                  refine wpAnyH_take (i := 14) (oi := { dst := some 46, op := Op.load 35 (Operand.tmp 45), type := 35, pos := "outright.go:110", after := #[{ on := 13, ground := Ground.data }, { on := 4, ground := Ground.guard }], guard := some (4, false) }) (v := ?_) rfl (by kernel_rfl) (by kernel_rfl) (by kernel_rfl) (fun _ _ _ h => h) (Or.inl ⟨by rfl, ?_⟩) (by exact hB2.drew) ?_
                  rotate_left; focus (intro W hW; obtain ⟨x0, x1, x2, x3, z0, z1, z2, z3⟩ := CELLS.out W hW; go_simp; try with_reducible rfl)
                  (try simp only [Act.put, List.setIfInBounds_toArray, List.set_cons_zero, List.set_cons_succ])
                  refine wpAnyH_ready (rs := [15]) (by kernel_rfl) (by simp) ?_
                  refine AllReadyH.cons (o := { dst := some 47, op := Op.call { callee := Callee.value (Operand.func 37), args := #[Operand.tmp 41, Operand.tmp 46], argTypes := #[35, 35] }, type := 4, pos := "outright.go:110", after := #[{ on := 9, ground := Ground.data }, { on := 14, ground := Ground.data }, { on := 4, ground := Ground.chain }, { on := 4, ground := Ground.guard }], guard := some (4, false) }) rfl (fun K hK => ?_) AllReadyH.nil
                  go_simp
                  go_at_call 37
                  refine (C1.out _).mono ?_
                  rintro e w3 ⟨rfl, hw3⟩
                  have Bw3 := Lib.hid (show Below w.heap.size w w3 from Below.trans hB2.drew (hw3.mono (Below.size hB2.drew)))
                  clear hw3
                  refine hK.out _ _ Bw3.out (fun hHeld => ?_)
                  clear hHeld hK K
                  (try simp only [Act.put, List.setIfInBounds_toArray, List.set_cons_zero, List.set_cons_succ])
                  refine wpAnyH_take (i := 16) (oi := { dst := some 48, op := Op.pick (Operand.tmp 36) (Operand.const (Value.bool true)) (Operand.tmp 47), type := 4, pos := "outright.go:110", after := #[{ on := 4, ground := Ground.data }, { on := 15, ground := Ground.data }, { on := 1, ground := Ground.guard }], guard := some (1, true) }) (v := ?_) rfl (by kernel_rfl) (by kernel_rfl) (by kernel_rfl) (fun _ _ _ h => h) (Or.inl ⟨by rfl, ?_⟩) (by exact Bw3.out) ?_
                  rotate_left; focus (intro W hW; go_simp; try with_reducible rfl)
                  (try simp only [Act.put, List.setIfInBounds_toArray, List.set_cons_zero, List.set_cons_succ])
                  refine wpAnyH_take (i := 17) (oi := { dst := some 49, op := Op.move (Operand.tmp 48), type := 4, pos := "outright.go:110", after := #[{ on := 16, ground := Ground.data }, { on := 15, ground := Ground.chain }, { on := 1, ground := Ground.guard }], guard := some (1, true) }) (v := ?_) rfl (by kernel_rfl) (by kernel_rfl) (by kernel_rfl) (fun _ _ _ h => h) (Or.inl ⟨by rfl, ?_⟩) (by exact Bw3.out) ?_
                  rotate_left; focus (intro W hW; go_simp; try with_reducible rfl)
                  (try simp only [Act.put, List.setIfInBounds_toArray, List.set_cons_zero, List.set_cons_succ])
                  refine wpAnyH_take (i := 18) (oi := { dst := some 50, op := Op.move (Operand.tmp 0), type := 31, pos := "outright.go:110", after := #[{ on := 17, ground := Ground.guard }], guard := some (17, false) }) (v := ?_) rfl (by kernel_rfl) (by kernel_rfl) (by kernel_rfl) (fun _ _ _ h => h) (Or.inl ⟨by rfl, ?_⟩) (by exact Bw3.out) ?_
                  rotate_left; focus (intro W hW; go_simp; try with_reducible rfl)
                  (try simp only [Act.put, List.setIfInBounds_toArray, List.set_cons_zero, List.set_cons_succ])
                  refine wpAnyH_take (i := 19) (oi := { dst := some 51, op := Op.move (Operand.tmp 3), type := 3, pos := "outright.go:110", after := #[{ on := 17, ground := Ground.guard }], guard := some (17, false) }) (v := ?_) rfl (by kernel_rfl) (by kernel_rfl) (by kernel_rfl) (fun _ _ _ h => h) (Or.inl ⟨by rfl, ?_⟩) (by exact Bw3.out) ?_
                  rotate_left; focus (intro W hW; go_simp; try with_reducible rfl)
                  (try simp only [Act.put, List.setIfInBounds_toArray, List.set_cons_zero, List.set_cons_succ])
                  refine wpAnyH_take (i := 20) (oi := { dst := some 52, op := Op.indexAddr 31 (Operand.tmp 50) (Operand.tmp 51), type := 0, pos := "outright.go:110", after := #[{ on := 18, ground := Ground.data }, { on := 19, ground := Ground.data }, { on := 17, ground := Ground.guard }], guard := some (17, false) }) (v := ?_) rfl (by kernel_rfl) (by kernel_rfl) (by kernel_rfl) (fun _ _ _ h => h) (Or.inl ⟨by rfl, ?_⟩) (by exact Bw3.out) ?_
                  rotate_left; focus (intro W hW; go_simp; try with_reducible rfl)
                  (try simp only [Act.put, List.setIfInBounds_toArray, List.set_cons_zero, List.set_cons_succ])
                  refine wpAnyH_take (i := 21) (oi := { dst := some 53, op := Op.fieldAddr 44 (Operand.tmp 52) 1, type := 0, pos := "outright.go:110", after := #[{ on := 20, ground := Ground.data }, { on := 17, ground := Ground.guard }], guard := some (17, false) }) (v := ?_) rfl (by kernel_rfl) (by kernel_rfl) (by kernel_rfl) (fun _ _ _ h => h) (Or.inl ⟨by rfl, ?_⟩) (by exact Bw3.out) ?_
                  rotate_left; focus (intro W hW; go_simp; try with_reducible rfl)
                  (try simp only [Act.put, List.setIfInBounds_toArray, List.set_cons_zero, List.set_cons_succ])
                  refine wpAnyH_take (i := 22) (oi := { dst := some 54, op := Op.load 35 (Operand.tmp 53), type := 35, pos := "outright.go:110", after := #[{ on := 21, ground := Ground.data }, { on := 17, ground := Ground.guard }], guard := some (17, false) }) (v := ?_) rfl (by kernel_rfl) (by kernel_rfl) (by kernel_rfl) (fun _ _ _ h => h) (Or.inl ⟨by rfl, ?_⟩) (by exact Bw3.out) ?_
                  rotate_left; focus (intro W hW; obtain ⟨x0, x1, x2, x3, z0, z1, z2, z3⟩ := CELLS.out W hW; go_simp; try with_reducible rfl)
                  (try simp only [Act.put, List.setIfInBounds_toArray, List.set_cons_zero, List.set_cons_succ])
                  refine wpAnyH_take (i := 23) (oi := { dst := some 55, op := Op.move (Operand.tmp 0), type := 31, pos := "outright.go:110", after := #[{ on := 17, ground := Ground.guard }], guard := some (17, false) }) (v := ?_) rfl (by kernel_rfl) (by kernel_rfl) (by kernel_rfl) (fun _ _ _ h => h) (Or.inl ⟨by rfl, ?_⟩) (by exact Bw3.out) ?_
                  rotate_left; focus (intro W hW; go_simp; try with_reducible rfl)
                  (try simp only [Act.put, List.setIfInBounds_toArray, List.set_cons_zero, List.set_cons_succ])
                  refine wpAnyH_take (i := 24) (oi := { dst := some 56, op := Op.move (Operand.tmp 4), type := 3, pos := "outright.go:110", after := #[{ on := 17, ground := Ground.guard }], guard := some (17, false) }) (v := ?_) rfl (by kernel_rfl) (by kernel_rfl) (by kernel_rfl) (fun _ _ _ h => h) (Or.inl ⟨by rfl, ?_⟩) (by exact Bw3.out) ?_
                  rotate_left; focus (intro W hW; go_simp; try with_reducible rfl)
                  (try simp only [Act.put, List.setIfInBounds_toArray, List.set_cons_zero, List.set_cons_succ])
                  refine wpAnyH_take (i := 25) (oi := { dst := some 57, op := Op.indexAddr 31 (Operand.tmp 55) (Operand.tmp 56), type := 0, pos := "outright.go:110", after := #[{ on := 23, ground := Ground.data }, { on := 24, ground := Ground.data }, { on := 17, ground := Ground.guard }], guard := some (17, false) }) (v := ?_) rfl (by kernel_rfl) (by kernel_rfl) (by kernel_rfl) (fun _ _ _ h => h) (Or.inl ⟨by rfl, ?_⟩) (by exact Bw3.out) ?_
                  rotate_left; focus (intro W hW; go_simp; try with_reducible rfl)
                  (try simp only [Act.put, List.setIfInBounds_toArray, List.set_cons_zero, List.set_cons_succ])
                  refine wpAnyH_take (i := 26) (oi := { dst := some 58, op := Op.fieldAddr 44 (Operand.tmp 57) 1, type := 0, pos := "outright.go:110", after := #[{ on := 25, ground := Ground.data }, { on := 17, ground := Ground.guard }], guard := some (17, false) }) (v := ?_) rfl (by kernel_rfl) (by kernel_rfl) (by kernel_rfl) (fun _ _ _ h => h) (Or.inl ⟨by rfl, ?_⟩) (by exact Bw3.out) ?_
                  rotate_left; focus (intro W hW; go_simp; try with_reducible rfl)
                  (try simp only [Act.put, List.setIfInBounds_toArray, List.set_cons_zero, List.set_cons_succ])
                  refine wpAnyH_take (i := 27) (oi := { dst := some 59, op := Op.load 35 (Operand.tmp 58), type := 35, pos := "outright.go:110", after := #[{ on := 26, ground := Ground.data }, { on := 17, ground := Ground.guard }], guard := some (17, false) }) (v := ?_) rfl (by kernel_rfl) (by kernel_rfl) (by kernel_rfl) (fun _ _ _ h => h) (Or.inl ⟨by rfl, ?_⟩) (by exact Bw3.out) ?_
                  rotate_left; focus (intro W hW; obtain ⟨x0, x1, x2, x3, z0, z1, z2, z3⟩ := CELLS.out W hW; go_simp; try with_reducible rfl)
                  (try simp only [Act.put, List.setIfInBounds_toArray, List.set_cons_zero, List.set_cons_succ])
                  refine wpAnyH_ready (rs := [28]) (by kernel_rfl) (by simp) ?_
                  refine AllReadyH.cons (o := { dst := some 60, op := Op.call { callee := Callee.value (Operand.func 37), args := #[Operand.tmp 54, Operand.tmp 59], argTypes := #[35, 35] }, type := 4, pos := "outright.go:110", after := #[{ on := 22, ground := Ground.data }, { on := 27, ground := Ground.data }, { on := 17, ground := Ground.chain }, { on := 17, ground := Ground.guard }], guard := some (17, false) }) rfl (fun K hK => ?_) AllReadyH.nil
                  go_simp
                  go_at_call 37
                  refine (C2.out _).mono ?_
                  rintro e w4 ⟨rfl, hw4⟩
                  have Bw4 := Lib.hid (show Below w.heap.size w w4 from Below.trans Bw3.out (hw4.mono (Below.size Bw3.out)))
                  clear hw4
                  refine hK.out _ _ Bw4.out (fun hHeld => ?_)
                  clear hHeld hK K
                  (try simp only [Act.put, List.setIfInBounds_toArray, List.set_cons_zero, List.set_cons_succ])
                  refine wpAnyH_take (i := 29) (oi := { dst := some 61, op := Op.unOp UnOp.not 4 (Operand.tmp 60), type := 4, pos := "outright.go:110", after := #[{ on := 28, ground := Ground.data }, { on := 17, ground := Ground.guard }], guard := some (17, false) }) (v := ?_) rfl (by kernel_rfl) (by kernel_rfl) (by kernel_rfl) (fun _ _ _ h => h) (Or.inl ⟨by rfl, ?_⟩) (by exact Bw4.out) ?_
                  rotate_left; focus (intro W hW; go_simp; try with_reducible rfl)
                  (try simp only [Act.put, List.setIfInBounds_toArray, List.set_cons_zero, List.set_cons_succ])
                  refine wpAnyH_take (i := 30) (oi := { dst := some 62, op := Op.move (Operand.tmp 61), type := 4, pos := "outright.go:110", after := #[{ on := 29, ground := Ground.data }, { on := 28, ground := Ground.chain }, { on := 17, ground := Ground.guard }], guard := some (17, false) }) (v := ?_) rfl (by kernel_rfl) (by kernel_rfl) (by kernel_rfl) (fun _ _ _ h => h) (Or.inl ⟨by rfl, ?_⟩) (by exact Bw4.out) ?_
                  rotate_left; focus (intro W hW; go_simp; try with_reducible rfl)
                  (try simp only [Act.put, List.setIfInBounds_toArray, List.set_cons_zero, List.set_cons_succ])
                  refine wpAnyH_take (i := 31) (oi := { dst := some 63, op := Op.move (Operand.tmp 0), type := 31, pos := "outright.go:110", after := #[{ on := 30, ground := Ground.guard }], guard := some (30, true) }) (v := undef) rfl (by kernel_rfl) (by kernel_rfl) (by kernel_rfl) (fun _ _ _ h => h) (Or.inr ⟨by rfl, rfl⟩) (by exact Bw4.out) ?_
                  (try simp only [Act.put, List.setIfInBounds_toArray, List.set_cons_zero, List.set_cons_succ])
                  refine wpAnyH_take (i := 32) (oi := { dst := some 64, op := Op.move (Operand.tmp 4), type := 3, pos := "outright.go:110", after := #[{ on := 30, ground := Ground.guard }], guard := some (30, true) }) (v := undef) rfl (by kernel_rfl) (by kernel_rfl) (by kernel_rfl) (fun _ _ _ h => h) (Or.inr ⟨by rfl, rfl⟩) (by exact Bw4.out) ?_
                  (try simp only [Act.put, List.setIfInBounds_toArray, List.set_cons_zero, List.set_cons_succ])
                  refine wpAnyH_take (i := 33) (oi := { dst := some 65, op := Op.indexAddr 31 (Operand.tmp 63) (Operand.tmp 64), type := 0, pos := "outright.go:110", after := #[{ on := 31, ground := Ground.data }, { on := 32, ground := Ground.data }, { on := 30, ground := Ground.guard }], guard := some (30, true) }) (v := undef) rfl (by kernel_rfl) (by kernel_rfl) (by kernel_rfl) (fun _ _ _ h => h) (Or.inr ⟨by rfl, rfl⟩) (by exact Bw4.out) ?_
                  (try simp only [Act.put, List.setIfInBounds_toArray, List.set_cons_zero, List.set_cons_succ])
                  refine wpAnyH_take (i := 34) (oi := { dst := some 66, op := Op.fieldAddr 44 (Operand.tmp 65) 0, type := 0, pos := "outright.go:110", after := #[{ on := 33, ground := Ground.data }, { on := 30, ground := Ground.guard }], guard := some (30, true) }) (v := undef) rfl (by kernel_rfl) (by kernel_rfl) (by kernel_rfl) (fun _ _ _ h => h) (Or.inr ⟨by rfl, rfl⟩) (by exact Bw4.out) ?_
                  (try simp only [Act.put, List.setIfInBounds_toArray, List.set_cons_zero, List.set_cons_succ])
                  refine wpAnyH_take (i := 35) (oi := { dst := some 67, op := Op.load 3 (Operand.tmp 66), type := 3, pos := "outright.go:110", after := #[{ on := 34, ground := Ground.data }, { on := 30, ground := Ground.guard }], guard := some (30, true) }) (v := undef) rfl (by kernel_rfl) (by kernel_rfl) (by kernel_rfl) (fun _ _ _ h => h) (Or.inr ⟨by rfl, rfl⟩) (by exact Bw4.out) ?_
                  (try simp only [Act.put, List.setIfInBounds_toArray, List.set_cons_zero, List.set_cons_succ])
                  refine wpAnyH_take (i := 36) (oi := { dst := some 68, op := Op.move (Operand.tmp 0), type := 31, pos := "outright.go:110", after := #[{ on := 30, ground := Ground.guard }], guard := some (30, true) }) (v := undef) rfl (by kernel_rfl) (by kernel_rfl) (by kernel_rfl) (fun _ _ _ h => h) (Or.inr ⟨by rfl, rfl⟩) (by exact Bw4.out) ?_
                  (try simp only [Act.put, List.setIfInBounds_toArray, List.set_cons_zero, List.set_cons_succ])
                  refine wpAnyH_take (i := 37) (oi := { dst := some 69, op := Op.move (Operand.tmp 3), type := 3, pos := "outright.go:110", after := #[{ on := 30, ground := Ground.guard }], guard := some (30, true) }) (v := undef) rfl (by kernel_rfl) (by kernel_rfl) (by kernel_rfl) (fun _ _ _ h => h) (Or.inr ⟨by rfl, rfl⟩) (by exact Bw4.out) ?_
                  (try simp only [Act.put, List.setIfInBounds_toArray, List.set_cons_zero, List.set_cons_succ])
                  refine wpAnyH_take (i := 38) (oi := { dst := some 70, op := Op.indexAddr 31 (Operand.tmp 68) (Operand.tmp 69), type := 0, pos := "outright.go:110", after := #[{ on := 36, ground := Ground.data }, { on := 37, ground := Ground.data }, { on := 30, ground := Ground.guard }], guard := some (30, true) }) (v := undef) rfl (by kernel_rfl) (by kernel_rfl) (by kernel_rfl) (fun _ _ _ h => h) (Or.inr ⟨by rfl, rfl⟩) (by exact Bw4.out) ?_
                  (try simp only [Act.put, List.setIfInBounds_toArray, List.set_cons_zero, List.set_cons_succ])
                  refine wpAnyH_take (i := 39) (oi := { dst := some 71, op := Op.fieldAddr 44 (Operand.tmp 70) 0, type := 0, pos := "outright.go:110", after := #[{ on := 38, ground := Ground.data }, { on := 30, ground := Ground.guard }], guard := some (30, true) }) (v := undef) rfl (by kernel_rfl) (by kernel_rfl) (by kernel_rfl) (fun _ _ _ h => h) (Or.inr ⟨by rfl, rfl⟩) (by exact Bw4.out) ?_
                  (try simp only [Act.put, List.setIfInBounds_toArray, List.set_cons_zero, List.set_cons_succ])
                  refine wpAnyH_take (i := 40) (oi := { dst := some 72, op := Op.load 3 (Operand.tmp 71), type := 3, pos := "outright.go:110", after := #[{ on := 39, ground := Ground.data }, { on := 30, ground := Ground.guard }], guard := some (30, true) }) (v := undef) rfl (by kernel_rfl) (by kernel_rfl) (by kernel_rfl) (fun _ _ _ h => h) (Or.inr ⟨by rfl, rfl⟩) (by exact Bw4.out) ?_
                  (try simp only [Act.put, List.setIfInBounds_toArray, List.set_cons_zero, List.set_cons_succ])
                  refine wpAnyH_take (i := 41) (oi := { dst := some 73, op := Op.binOp BinOp.lss 3 (Operand.tmp 67) (Operand.tmp 72) 3, type := 4, pos := "outright.go:110", after := #[{ on := 35, ground := Ground.data }, { on := 40, ground := Ground.data }, { on := 30, ground := Ground.guard }], guard := some (30, true) }) (v := undef) rfl (by kernel_rfl) (by kernel_rfl) (by kernel_rfl) (fun _ _ _ h => h) (Or.inr ⟨by rfl, rfl⟩) (by exact Bw4.out) ?_
                  (try simp only [Act.put, List.setIfInBounds_toArray, List.set_cons_zero, List.set_cons_succ])
                  refine wpAnyH_take (i := 42) (oi := { dst := some 74, op := Op.pick (Operand.tmp 62) (Operand.tmp 73) (Operand.const (Value.bool false)), type := 4, pos := "outright.go:110", after := #[{ on := 30, ground := Ground.data }, { on := 41, ground := Ground.data }, { on := 17, ground := Ground.guard }], guard := some (17, false) }) (v := ?_) rfl (by kernel_rfl) (by kernel_rfl) (by kernel_rfl) (fun _ _ _ h => h) (Or.inl ⟨by rfl, ?_⟩) (by exact Bw4.out) ?_
                  rotate_left; focus (intro W hW; go_simp; try with_reducible rfl)
                  (try simp only [Act.put, List.setIfInBounds_toArray, List.set_cons_zero, List.set_cons_succ])
                  refine wpAnyH_take (i := 43) (oi := { dst := some 75, op := Op.pick (Operand.tmp 49) (Operand.const (Value.bool true)) (Operand.tmp 74), type := 4, pos := "outright.go:110", after := #[{ on := 17, ground := Ground.data }, { on := 42, ground := Ground.data }, { on := 1, ground := Ground.guard }], guard := some (1, true) }) (v := ?_) rfl (by kernel_rfl) (by kernel_rfl) (by kernel_rfl) (fun _ _ _ h => h) (Or.inl ⟨by rfl, ?_⟩) (by exact Bw4.out) ?_
                  rotate_left; focus (intro W hW; go_simp; try with_reducible rfl)
                  (try simp only [Act.put, List.setIfInBounds_toArray, List.set_cons_zero, List.set_cons_succ])
                  refine wpAnyH_take (i := 44) (oi := { dst := some 76, op := Op.pick (Operand.tmp 33) (Operand.tmp 75) (Operand.const (Value.bool false)), type := 4, pos := "outright.go:110", after := #[{ on := 1, ground := Ground.data }, { on := 43, ground := Ground.data }], guard := none }) (v := ?_) rfl (by kernel_rfl) (by kernel_rfl) (by kernel_rfl) (fun _ _ _ h => h) (Or.inl ⟨by rfl, ?_⟩) (by exact Bw4.out) ?_
                  rotate_left; focus (intro W hW; go_simp; try with_reducible rfl)
                  (try simp only [Act.put, List.setIfInBounds_toArray, List.set_cons_zero, List.set_cons_succ])
                  refine wpAnyH_done (by kernel_rfl) ?_ _
                  all_goals go_wp2
                  all_goals exact ⟨⟨j + 1, by omega, by go_num, by rw [hg.out, if_neg HL.out]; rfl, Bw4.out⟩, by simp [intOf]; omega⟩
                · have HL : Hid (lexLt (sn x) (sn z) ↔ x.by_ < z.by_) := by
                    constructor
                    · rintro (h | h)
                      · exact absurd h h1
                      · exact h.2
                    · exact fun h => .inr ⟨h2, h⟩
                  have C2 : Hid (∀ W, Calls Try.prog 37 #[.agg #[.int .u32 z.f.id, .bool z.f.wide, .slice Ad' z.f.bytes.length cd'], .agg #[.int .u32 x.f.id, .bool x.f.wide, .slice Ad x.f.bytes.length cd]] W fun e w' => e = .returned (.bool false) ∧ Below W.heap.size W w') := fun W => (orderK.ahead_any _ _ _ _ _ _ _).mono (by rintro e w' ⟨rfl, hb⟩; exact ⟨by rw [decide_eq_false h2], hb⟩)
                  clear h1 h2
                  go_wp2
                  refine wp_region_held (S := fun W => Below w.heap.size w W) (by kernel_rfl) ?_
                  refine wpAnyH_take (i := 0) (oi := { dst := some 32, op := Op.move (Operand.tmp 5), type := 4, pos := "outright.go:110", after := #[], guard := none }) (v := ?_) rfl (by kernel_rfl) (by kernel_rfl) (by kernel_rfl) (fun _ _ _ h => h) (Or.inl ⟨by rfl, ?_⟩) (by exact hB2.drew) ?_
                  rotate_left; focus (intro W hW; go_simp; try with_reducible rfl)
                  (try simp only [Act.put, List.setIfInBounds_toArray, List.set_cons_zero, List.set_cons_succ])
                  refine wpAnyH_take (i := 1) (oi := { dst := some 33, op := Op.move (Operand.tmp 32), type := 4, pos := "outright.go:110", after := #[{ on := 0, ground := Ground.data }], guard := none }) (v := ?_) rfl (by kernel_rfl) (by kernel_rfl) (by kernel_rfl) (fun _ _ _ h => h) (Or.inl ⟨by rfl, ?_⟩) (by exact hB2.drew) ?_
                  rotate_left; focus (intro W hW; go_simp; try with_reducible rfl)
                  (try simp only [Act.put, List.setIfInBounds_toArray, List.set_cons_zero, List.set_cons_succ])
                  refine wpAnyH_take (i := 2) (oi := { dst := some 34, op := Op.move (Operand.tmp 3), type := 3, pos := "outright.go:110", after := #[{ on := 1, ground := Ground.guard }], guard := some (1, true) }) (v := ?_) rfl (by kernel_rfl) (by kernel_rfl) (by kernel_rfl) (fun _ _ _ h => h) (Or.inl ⟨by rfl, ?_⟩) (by exact hB2.drew) ?_
                  rotate_left; focus (intro W hW; go_simp; try with_reducible rfl)
                  (try simp only [Act.put, List.setIfInBounds_toArray, List.set_cons_zero, List.set_cons_succ])
                  refine wpAnyH_take (i := 3) (oi := { dst := some 35, op := Op.binOp BinOp.lss 3 (Operand.tmp 34) (Operand.const (Value.int IntKind.i64 0)) 3, type := 4, pos := "outright.go:110", after := #[{ on := 2, ground := Ground.data }, { on := 1, ground := Ground.guard }], guard := some (1, true) }) (v := ?_) rfl (by kernel_rfl) (by kernel_rfl) (by kernel_rfl) (fun _ _ _ h => h) (Or.inl ⟨by rfl, ?_⟩) (by exact hB2.drew) ?_
                  rotate_left; focus (intro W hW; go_simp; try with_reducible rfl)
                  (try simp only [Act.put, List.setIfInBounds_toArray, List.set_cons_zero, List.set_cons_succ])
                  refine wpAnyH_take (i := 4) (oi := { dst := some 36, op := Op.move (Operand.tmp 35), type := 4, pos := "outright.go:110", after := #[{ on := 3, ground := Ground.data }, { on := 1, ground := Ground.chain }, { on := 1, ground := Ground.guard }], guard := some (1, true) }) (v := ?_) rfl (by kernel_rfl) (by kernel_rfl) (by kernel_rfl) (fun _ _ _ h => h) (Or.inl ⟨by rfl, ?_⟩) (by exact hB2.drew) ?_
                  rotate_left; focus (intro W hW; go_simp; try with_reducible rfl)
                  (try simp only [Act.put, List.setIfInBounds_toArray, List.set_cons_zero, List.set_cons_succ])
                  refine wpAnyH_take (i := 5) (oi := { dst := some 37, op := Op.move (Operand.tmp 0), type := 31, pos := "outright.go:110", after := #[{ on := 4, ground := Ground.guard }], guard := some (4, false) }) (v := ?_) rfl (by kernel_rfl) (by kernel_rfl) (by kernel_rfl) (fun _ _ _ h => h) (Or.inl ⟨by rfl, ?_⟩) (by exact hB2.drew) ?_
                  rotate_left; focus (intro W hW; go_simp; try with_reducible rfl)
                  (try simp only [Act.put, List.setIfInBounds_toArray, List.set_cons_zero, List.set_cons_succ])
                  refine wpAnyH_take (i := 6) (oi := { dst := some 38, op := Op.move (Operand.tmp 4), type := 3, pos := "outright.go:110", after := #[{ on := 4, ground := Ground.guard }], guard := some (4, false) }) (v := ?_) rfl (by kernel_rfl) (by kernel_rfl) (by kernel_rfl) (fun _ _ _ h => h) (Or.inl ⟨by rfl, ?_⟩) (by exact hB2.drew) ?_
                  rotate_left; focus (intro W hW; go_simp; try with_reducible rfl)
                  (try simp only [Act.put, List.setIfInBounds_toArray, List.set_cons_zero, List.set_cons_succ])
                  refine wpAnyH_take (i := 7) (oi := { dst := some 39, op := Op.indexAddr 31 (Operand.tmp 37) (Operand.tmp 38), type := 0, pos := "outright.go:110", after := #[{ on := 5, ground := Ground.data }, { on := 6, ground := Ground.data }, { on := 4, ground := Ground.guard }], guard := some (4, false) }) (v := ?_) rfl (by kernel_rfl) (by kernel_rfl) (by kernel_rfl) (fun _ _ _ h => h) (Or.inl ⟨by rfl, ?_⟩) (by exact hB2.drew) ?_
                  rotate_left; focus (intro W hW; go_simp; try with_reducible rfl)
                  (try simp only [Act.put, List.setIfInBounds_toArray, List.set_cons_zero, List.set_cons_succ])
                  refine wpAnyH_take (i := 8) (oi := { dst := some 40, op := Op.fieldAddr 44 (Operand.tmp 39) 1, type := 0, pos := "outright.go:110", after := #[{ on := 7, ground := Ground.data }, { on := 4, ground := Ground.guard }], guard := some (4, false) }) (v := ?_) rfl (by kernel_rfl) (by kernel_rfl) (by kernel_rfl) (fun _ _ _ h => h) (Or.inl ⟨by rfl, ?_⟩) (by exact hB2.drew) ?_
                  rotate_left; focus (intro W hW; go_simp; try with_reducible rfl)
                  (try simp only [Act.put, List.setIfInBounds_toArray, List.set_cons_zero, List.set_cons_succ])
                  refine wpAnyH_take (i := 9) (oi := { dst := some 41, op := Op.load 35 (Operand.tmp 40), type := 35, pos := "outright.go:110", after := #[{ on := 8, ground := Ground.data }, { on := 4, ground := Ground.guard }], guard := some (4, false) }) (v := ?_) rfl (by kernel_rfl) (by kernel_rfl) (by kernel_rfl) (fun _ _ _ h => h) (Or.inl ⟨by rfl, ?_⟩) (by exact hB2.drew) ?_
                  rotate_left; focus (intro W hW; obtain ⟨x0, x1, x2, x3, z0, z1, z2, z3⟩ := CELLS.out W hW; go_simp; try with_reducible rfl)
                  (try simp only [Act.put, List.setIfInBounds_toArray, List.set_cons_zero, List.set_cons_succ])
                  refine wpAnyH_take (i := 10) (oi := { dst := some 42, op := Op.move (Operand.tmp 0), type := 31, pos := "outright.go:110", after := #[{ on := 4, ground := Ground.guard }], guard := some (4, false) }) (v := ?_) rfl (by kernel_rfl) (by kernel_rfl) (by kernel_rfl) (fun _ _ _ h => h) (Or.inl ⟨by rfl, ?_⟩) (by exact hB2.drew) ?_
                  rotate_left; focus (intro W hW; go_simp; try with_reducible rfl)
                  (try simp only [Act.put, List.setIfInBounds_toArray, List.set_cons_zero, List.set_cons_succ])
                  refine wpAnyH_take (i := 11) (oi := { dst := some 43, op := Op.move (Operand.tmp 3), type := 3, pos := "outright.go:110", after := #[{ on := 4, ground := Ground.guard }], guard := some (4, false) }) (v := ?_) rfl (by kernel_rfl) (by kernel_rfl) (by kernel_rfl) (fun _ _ _ h => h) (Or.inl ⟨by rfl, ?_⟩) (by exact hB2.drew) ?_
                  rotate_left; focus (intro W hW; go_simp; try with_reducible rfl)
                  (try simp only [Act.put, List.setIfInBounds_toArray, List.set_cons_zero, List.set_cons_succ])
                  refine wpAnyH_take (i := 12) (oi := { dst := some 44, op := Op.indexAddr 31 (Operand.tmp 42) (Operand.tmp 43), type := 0, pos := "outright.go:110", after := #[{ on := 10, ground := Ground.data }, { on := 11, ground := Ground.data }, { on := 4, ground := Ground.guard }], guard := some (4, false) }) (v := ?_) rfl (by kernel_rfl) (by kernel_rfl) (by kernel_rfl) (fun _ _ _ h => h) (Or.inl ⟨by rfl, ?_⟩) (by exact hB2.drew) ?_
                  rotate_left; focus (intro W hW; go_simp; try with_reducible rfl)
                  (try simp only [Act.put, List.setIfInBounds_toArray, List.set_cons_zero, List.set_cons_succ])
                  refine wpAnyH_take (i := 13) (oi := { dst := some 45, op := Op.fieldAddr 44 (Operand.tmp 44) 1, type := 0, pos := "outright.go:110", after := #[{ on := 12, ground := Ground.data }, { on := 4, ground := Ground.guard }], guard := some (4, false) }) (v := ?_) rfl (by kernel_rfl) (by kernel_rfl) (by kernel_rfl) (fun _ _ _ h => h) (Or.inl ⟨by rfl, ?_⟩) (by exact hB2.drew) ?_
                  rotate_left; focus (intro W hW; go_simp; try with_reducible rfl)
                  (try simp only [Act.put, List.setIfInBounds_toArray, List.set_cons_zero, List.set_cons_succ])
                  refine wpAnyH_take (i := 14) (oi := { dst := some 46, op := Op.load 35 (Operand.tmp 45), type := 35, pos := "outright.go:110", after := #[{ on := 13, ground := Ground.data }, { on := 4, ground := Ground.guard }], guard := some (4, false) }) (v := ?_) rfl (by kernel_rfl) (by kernel_rfl) (by kernel_rfl) (fun _ _ _ h => h) (Or.inl ⟨by rfl, ?_⟩) (by exact hB2.drew) ?_
                  rotate_left; focus (intro W hW; obtain ⟨x0, x1, x2, x3, z0, z1, z2, z3⟩ := CELLS.out W hW; go_simp; try with_reducible rfl)
                  (try simp only [Act.put, List.setIfInBounds_toArray, List.set_cons_zero, List.set_cons_succ])
                  refine wpAnyH_ready (rs := [15]) (by kernel_rfl) (by simp) ?_
                  refine AllReadyH.cons (o := { dst := some 47, op := Op.call { callee := Callee.value (Operand.func 37), args := #[Operand.tmp 41, Operand.tmp 46], argTypes := #[35, 35] }, type := 4, pos := "outright.go:110", after := #[{ on := 9, ground := Ground.data }, { on := 14, ground := Ground.data }, { on := 4, ground := Ground.chain }, { on := 4, ground := Ground.guard }], guard := some (4, false) }) rfl (fun K hK => ?_) AllReadyH.nil
                  go_simp
                  go_at_call 37
                  refine (C1.out _).mono ?_
                  rintro e w3 ⟨rfl, hw3⟩
                  have Bw3 := Lib.hid (show Below w.heap.size w w3 from Below.trans hB2.drew (hw3.mono (Below.size hB2.drew)))
                  clear hw3
                  refine hK.out _ _ Bw3.out (fun hHeld => ?_)
                  clear hHeld hK K
                  (try simp only [Act.put, List.setIfInBounds_toArray, List.set_cons_zero, List.set_cons_succ])
                  refine wpAnyH_take (i := 16) (oi := { dst := some 48, op := Op.pick (Operand.tmp 36) (Operand.const (Value.bool true)) (Operand.tmp 47), type := 4, pos := "outright.go:110", after := #[{ on := 4, ground := Ground.data }, { on := 15, ground := Ground.data }, { on := 1, ground := Ground.guard }], guard := some (1, true) }) (v := ?_) rfl (by kernel_rfl) (by kernel_rfl) (by kernel_rfl) (fun _ _ _ h => h) (Or.inl ⟨by rfl, ?_⟩) (by exact Bw3.out) ?_
                  rotate_left; focus (intro W hW; go_simp; try with_reducible rfl)
                  (try simp only [Act.put, List.setIfInBounds_toArray, List.set_cons_zero, List.set_cons_succ])
                  refine wpAnyH_take (i := 17) (oi := { dst := some 49, op := Op.move (Operand.tmp 48), type := 4, pos := "outright.go:110", after := #[{ on := 16, ground := Ground.data }, { on := 15, ground := Ground.chain }, { on := 1, ground := Ground.guard }], guard := some (1, true) }) (v := ?_) rfl (by kernel_rfl) (by kernel_rfl) (by kernel_rfl) (fun _ _ _ h => h) (Or.inl ⟨by rfl, ?_⟩) (by exact Bw3.out) ?_
                  rotate_left; focus (intro W hW; go_simp; try with_reducible rfl)
                  (try simp only [Act.put, List.setIfInBounds_toArray, List.set_cons_zero, List.set_cons_succ])
                  refine wpAnyH_take (i := 18) (oi := { dst := some 50, op := Op.move (Operand.tmp 0), type := 31, pos := "outright.go:110", after := #[{ on := 17, ground := Ground.guard }], guard := some (17, false) }) (v := ?_) rfl (by kernel_rfl) (by kernel_rfl) (by kernel_rfl) (fun _ _ _ h => h) (Or.inl ⟨by rfl, ?_⟩) (by exact Bw3.out) ?_
                  rotate_left; focus (intro W hW; go_simp; try with_reducible rfl)
                  (try simp only [Act.put, List.setIfInBounds_toArray, List.set_cons_zero, List.set_cons_succ])
                  refine wpAnyH_take (i := 19) (oi := { dst := some 51, op := Op.move (Operand.tmp 3), type := 3, pos := "outright.go:110", after := #[{ on := 17, ground := Ground.guard }], guard := some (17, false) }) (v := ?_) rfl (by kernel_rfl) (by kernel_rfl) (by kernel_rfl) (fun _ _ _ h => h) (Or.inl ⟨by rfl, ?_⟩) (by exact Bw3.out) ?_
                  rotate_left; focus (intro W hW; go_simp; try with_reducible rfl)
                  (try simp only [Act.put, List.setIfInBounds_toArray, List.set_cons_zero, List.set_cons_succ])
                  refine wpAnyH_take (i := 20) (oi := { dst := some 52, op := Op.indexAddr 31 (Operand.tmp 50) (Operand.tmp 51), type := 0, pos := "outright.go:110", after := #[{ on := 18, ground := Ground.data }, { on := 19, ground := Ground.data }, { on := 17, ground := Ground.guard }], guard := some (17, false) }) (v := ?_) rfl (by kernel_rfl) (by kernel_rfl) (by kernel_rfl) (fun _ _ _ h => h) (Or.inl ⟨by rfl, ?_⟩) (by exact Bw3.out) ?_
                  rotate_left; focus (intro W hW; go_simp; try with_reducible rfl)
                  (try simp only [Act.put, List.setIfInBounds_toArray, List.set_cons_zero, List.set_cons_succ])
                  refine wpAnyH_take (i := 21) (oi := { dst := some 53, op := Op.fieldAddr 44 (Operand.tmp 52) 1, type := 0, pos := "outright.go:110", after := #[{ on := 20, ground := Ground.data }, { on := 17, ground := Ground.guard }], guard := some (17, false) }) (v := ?_) rfl (by kernel_rfl) (by kernel_rfl) (by kernel_rfl) (fun _ _ _ h => h) (Or.inl ⟨by rfl, ?_⟩) (by exact Bw3.out) ?_
                  rotate_left; focus (intro W hW; go_simp; try with_reducible rfl)
                  (try simp only [Act.put, List.setIfInBounds_toArray, List.set_cons_zero, List.set_cons_succ])
                  refine wpAnyH_take (i := 22) (oi := { dst := some 54, op := Op.load 35 (Operand.tmp 53), type := 35, pos := "outright.go:110", after := #[{ on := 21, ground := Ground.data }, { on := 17, ground := Ground.guard }], guard := some (17, false) }) (v := ?_) rfl (by kernel_rfl) (by kernel_rfl) (by kernel_rfl) (fun _ _ _ h => h) (Or.inl ⟨by rfl, ?_⟩) (by exact Bw3.out) ?_
                  rotate_left; focus (intro W hW; obtain ⟨x0, x1, x2, x3, z0, z1, z2, z3⟩ := CELLS.out W hW; go_simp; try with_reducible rfl)
                  (try simp only [Act.put, List.setIfInBounds_toArray, List.set_cons_zero, List.set_cons_succ])
                  refine wpAnyH_take (i := 23) (oi := { dst := some 55, op := Op.move (Operand.tmp 0), type := 31, pos := "outright.go:110", after := #[{ on := 17, ground := Ground.guard }], guard := some (17, false) }) (v := ?_) rfl (by kernel_rfl) (by kernel_rfl) (by kernel_rfl) (fun _ _ _ h => h) (Or.inl ⟨by rfl, ?_⟩) (by exact Bw3.out) ?_
                  rotate_left; focus (intro W hW; go_simp; try with_reducible rfl)
                  (try simp only [Act.put, List.setIfInBounds_toArray, List.set_cons_zero, List.set_cons_succ])
                  refine wpAnyH_take (i := 24) (oi := { dst := some 56, op := Op.move (Operand.tmp 4), type := 3, pos := "outright.go:110", after := #[{ on := 17, ground := Ground.guard }], guard := some (17, false) }) (v := ?_) rfl (by kernel_rfl) (by kernel_rfl) (by kernel_rfl) (fun _ _ _ h => h) (Or.inl ⟨by rfl, ?_⟩) (by exact Bw3.out) ?_
                  rotate_left; focus (intro W hW; go_simp; try with_reducible rfl)
                  (try simp only [Act.put, List.setIfInBounds_toArray, List.set_cons_zero, List.set_cons_succ])
                  refine wpAnyH_take (i := 25) (oi := { dst := some 57, op := Op.indexAddr 31 (Operand.tmp 55) (Operand.tmp 56), type := 0, pos := "outright.go:110", after := #[{ on := 23, ground := Ground.data }, { on := 24, ground := Ground.data }, { on := 17, ground := Ground.guard }], guard := some (17, false) }) (v := ?_) rfl (by kernel_rfl) (by kernel_rfl) (by kernel_rfl) (fun _ _ _ h => h) (Or.inl ⟨by rfl, ?_⟩) (by exact Bw3.out) ?_
                  rotate_left; focus (intro W hW; go_simp; try with_reducible rfl)
                  (try simp only [Act.put, List.setIfInBounds_toArray, List.set_cons_zero, List.set_cons_succ])
                  refine wpAnyH_take (i := 26) (oi := { dst := some 58, op := Op.fieldAddr 44 (Operand.tmp 57) 1, type := 0, pos := "outright.go:110", after := #[{ on := 25, ground := Ground.data }, { on := 17, ground := Ground.guard }], guard := some (17, false) }) (v := ?_) rfl (by kernel_rfl) (by kernel_rfl) (by kernel_rfl) (fun _ _ _ h => h) (Or.inl ⟨by rfl, ?_⟩) (by exact Bw3.out) ?_
                  rotate_left; focus (intro W hW; go_simp; try with_reducible rfl)
                  (try simp only [Act.put, List.setIfInBounds_toArray, List.set_cons_zero, List.set_cons_succ])
                  refine wpAnyH_take (i := 27) (oi := { dst := some 59, op := Op.load 35 (Operand.tmp 58), type := 35, pos := "outright.go:110", after := #[{ on := 26, ground := Ground.data }, { on := 17, ground := Ground.guard }], guard := some (17, false) }) (v := ?_) rfl (by kernel_rfl) (by kernel_rfl) (by kernel_rfl) (fun _ _ _ h => h) (Or.inl ⟨by rfl, ?_⟩) (by exact Bw3.out) ?_
                  rotate_left; focus (intro W hW; obtain ⟨x0, x1, x2, x3, z0, z1, z2, z3⟩ := CELLS.out W hW; go_simp; try with_reducible rfl)
                  (try simp only [Act.put, List.setIfInBounds_toArray, List.set_cons_zero, List.set_cons_succ])
                  refine wpAnyH_ready (rs := [28]) (by kernel_rfl) (by simp) ?_
                  refine AllReadyH.cons (o := { dst := some 60, op := Op.call { callee := Callee.value (Operand.func 37), args := #[Operand.tmp 54, Operand.tmp 59], argTypes := #[35, 35] }, type := 4, pos := "outright.go:110", after := #[{ on := 22, ground := Ground.data }, { on := 27, ground := Ground.data }, { on := 17, ground := Ground.chain }, { on := 17, ground := Ground.guard }], guard := some (17, false) }) rfl (fun K hK => ?_) AllReadyH.nil
                  go_simp
                  go_at_call 37
                  refine (C2.out _).mono ?_
                  rintro e w4 ⟨rfl, hw4⟩
                  have Bw4 := Lib.hid (show Below w.heap.size w w4 from Below.trans Bw3.out (hw4.mono (Below.size Bw3.out)))
                  clear hw4
                  refine hK.out _ _ Bw4.out (fun hHeld => ?_)
                  clear hHeld hK K
                  (try simp only [Act.put, List.setIfInBounds_toArray, List.set_cons_zero, List.set_cons_succ])
                  refine wpAnyH_take (i := 29) (oi := { dst := some 61, op := Op.unOp UnOp.not 4 (Operand.tmp 60), type := 4, pos := "outright.go:110", after := #[{ on := 28, ground := Ground.data }, { on := 17, ground := Ground.guard }], guard := some (17, false) }) (v := ?_) rfl (by kernel_rfl) (by kernel_rfl) (by kernel_rfl) (fun _ _ _ h => h) (Or.inl ⟨by rfl, ?_⟩) (by exact Bw4.out) ?_
                  rotate_left; focus (intro W hW; go_simp; try with_reducible rfl)
                  (try simp only [Act.put, List.setIfInBounds_toArray, List.set_cons_zero, List.set_cons_succ])
                  refine wpAnyH_take (i := 30) (oi := { dst := some 62, op := Op.move (Operand.tmp 61), type := 4, pos := "outright.go:110", after := #[{ on := 29, ground := Ground.data }, { on := 28, ground := Ground.chain }, { on := 17, ground := Ground.guard }], guard := some (17, false) }) (v := ?_) rfl (by kernel_rfl) (by kernel_rfl) (by kernel_rfl) (fun _ _ _ h => h) (Or.inl ⟨by rfl, ?_⟩) (by exact Bw4.out) ?_
                  rotate_left; focus (intro W hW; go_simp; try with_reducible rfl)
                  (try simp only [Act.put, List.setIfInBounds_toArray, List.set_cons_zero, List.set_cons_succ])
                  refine wpAnyH_take (i := 31) (oi := { dst := some 63, op := Op.move (Operand.tmp 0), type := 31, pos := "outright.go:110", after := #[{ on := 30, ground := Ground.guard }], guard := some (30, true) }) (v := ?_) rfl (by kernel_rfl) (by kernel_rfl) (by kernel_rfl) (fun _ _ _ h => h) (Or.inl ⟨by rfl, ?_⟩) (by exact Bw4.out) ?_
                  rotate_left; focus (intro W hW; go_simp; try with_reducible rfl)
                  (try simp only [Act.put, List.setIfInBounds_toArray, List.set_cons_zero, List.set_cons_succ])
                  refine wpAnyH_take (i := 32) (oi := { dst := some 64, op := Op.move (Operand.tmp 4), type := 3, pos := "outright.go:110", after := #[{ on := 30, ground := Ground.guard }], guard := some (30, true) }) (v := ?_) rfl (by kernel_rfl) (by kernel_rfl) (by kernel_rfl) (fun _ _ _ h => h) (Or.inl ⟨by rfl, ?_⟩) (by exact Bw4.out) ?_
                  rotate_left; focus (intro W hW; go_simp; try with_reducible rfl)
                  (try simp only [Act.put, List.setIfInBounds_toArray, List.set_cons_zero, List.set_cons_succ])
                  refine wpAnyH_take (i := 33) (oi := { dst := some 65, op := Op.indexAddr 31 (Operand.tmp 63) (Operand.tmp 64), type := 0, pos := "outright.go:110", after := #[{ on := 31, ground := Ground.data }, { on := 32, ground := Ground.data }, { on := 30, ground := Ground.guard }], guard := some (30, true) }) (v := ?_) rfl (by kernel_rfl) (by kernel_rfl) (by kernel_rfl) (fun _ _ _ h => h) (Or.inl ⟨by rfl, ?_⟩) (by exact Bw4.out) ?_
                  rotate_left; focus (intro W hW; go_simp; try with_reducible rfl)
                  (try simp only [Act.put, List.setIfInBounds_toArray, List.set_cons_zero, List.set_cons_succ])
                  refine wpAnyH_take (i := 34) (oi := { dst := some 66, op := Op.fieldAddr 44 (Operand.tmp 65) 0, type := 0, pos := "outright.go:110", after := #[{ on := 33, ground := Ground.data }, { on := 30, ground := Ground.guard }], guard := some (30, true) }) (v := ?_) rfl (by kernel_rfl) (by kernel_rfl) (by kernel_rfl) (fun _ _ _ h => h) (Or.inl ⟨by rfl, ?_⟩) (by exact Bw4.out) ?_
                  rotate_left; focus (intro W hW; go_simp; try with_reducible rfl)
                  (try simp only [Act.put, List.setIfInBounds_toArray, List.set_cons_zero, List.set_cons_succ])
                  refine wpAnyH_take (i := 35) (oi := { dst := some 67, op := Op.load 3 (Operand.tmp 66), type := 3, pos := "outright.go:110", after := #[{ on := 34, ground := Ground.data }, { on := 30, ground := Ground.guard }], guard := some (30, true) }) (v := ?_) rfl (by kernel_rfl) (by kernel_rfl) (by kernel_rfl) (fun _ _ _ h => h) (Or.inl ⟨by rfl, ?_⟩) (by exact Bw4.out) ?_
                  rotate_left; focus (intro W hW; obtain ⟨x0, x1, x2, x3, z0, z1, z2, z3⟩ := CELLS.out W hW; go_simp; try with_reducible rfl)
                  (try simp only [Act.put, List.setIfInBounds_toArray, List.set_cons_zero, List.set_cons_succ])
                  refine wpAnyH_take (i := 36) (oi := { dst := some 68, op := Op.move (Operand.tmp 0), type := 31, pos := "outright.go:110", after := #[{ on := 30, ground := Ground.guard }], guard := some (30, true) }) (v := ?_) rfl (by kernel_rfl) (by kernel_rfl) (by kernel_rfl) (fun _ _ _ h => h) (Or.inl ⟨by rfl, ?_⟩) (by exact Bw4.out) ?_
                  rotate_left; focus (intro W hW; go_simp; try with_reducible rfl)
                  (try simp only [Act.put, List.setIfInBounds_toArray, List.set_cons_zero, List.set_cons_succ])
                  refine wpAnyH_take (i := 37) (oi := { dst := some 69, op := Op.move (Operand.tmp 3), type := 3, pos := "outright.go:110", after := #[{ on := 30, ground := Ground.guard }], guard := some (30, true) }) (v := ?_) rfl (by kernel_rfl) (by kernel_rfl) (by kernel_rfl) (fun _ _ _ h => h) (Or.inl ⟨by rfl, ?_⟩) (by exact Bw4.out) ?_
                  rotate_left; focus (intro W hW; go_simp; try with_reducible rfl)
                  (try simp only [Act.put, List.setIfInBounds_toArray, List.set_cons_zero, List.set_cons_succ])
                  refine wpAnyH_take (i := 38) (oi := { dst := some 70, op := Op.indexAddr 31 (Operand.tmp 68) (Operand.tmp 69), type := 0, pos := "outright.go:110", after := #[{ on := 36, ground := Ground.data }, { on := 37, ground := Ground.data }, { on := 30, ground := Ground.guard }], guard := some (30, true) }) (v := ?_) rfl (by kernel_rfl) (by kernel_rfl) (by kernel_rfl) (fun _ _ _ h => h) (Or.inl ⟨by rfl, ?_⟩) (by exact Bw4.out) ?_
                  rotate_left; focus (intro W hW; go_simp; try with_reducible rfl)
                  (try simp only [Act.put, List.setIfInBounds_toArray, List.set_cons_zero, List.set_cons_succ])
                  refine wpAnyH_take (i := 39) (oi := { dst := some 71, op := Op.fieldAddr 44 (Operand.tmp 70) 0, type := 0, pos := "outright.go:110", after := #[{ on := 38, ground := Ground.data }, { on := 30, ground := Ground.guard }], guard := some (30, true) }) (v := ?_) rfl (by kernel_rfl) (by kernel_rfl) (by kernel_rfl) (fun _ _ _ h => h) (Or.inl ⟨by rfl, ?_⟩) (by exact Bw4.out) ?_
                  rotate_left; focus (intro W hW; go_simp; try with_reducible rfl)
                  (try simp only [Act.put, List.setIfInBounds_toArray, List.set_cons_zero, List.set_cons_succ])
                  refine wpAnyH_take (i := 40) (oi := { dst := some 72, op := Op.load 3 (Operand.tmp 71), type := 3, pos := "outright.go:110", after := #[{ on := 39, ground := Ground.data }, { on := 30, ground := Ground.guard }], guard := some (30, true) }) (v := ?_) rfl (by kernel_rfl) (by kernel_rfl) (by kernel_rfl) (fun _ _ _ h => h) (Or.inl ⟨by rfl, ?_⟩) (by exact Bw4.out) ?_
                  rotate_left; focus (intro W hW; obtain ⟨x0, x1, x2, x3, z0, z1, z2, z3⟩ := CELLS.out W hW; go_simp; try with_reducible rfl)
                  (try simp only [Act.put, List.setIfInBounds_toArray, List.set_cons_zero, List.set_cons_succ])
                  refine wpAnyH_take (i := 41) (oi := { dst := some 73, op := Op.binOp BinOp.lss 3 (Operand.tmp 67) (Operand.tmp 72) 3, type := 4, pos := "outright.go:110", after := #[{ on := 35, ground := Ground.data }, { on := 40, ground := Ground.data }, { on := 30, ground := Ground.guard }], guard := some (30, true) }) (v := ?_) rfl (by kernel_rfl) (by kernel_rfl) (by kernel_rfl) (fun _ _ _ h => h) (Or.inl ⟨by rfl, ?_⟩) (by exact Bw4.out) ?_
                  rotate_left; focus (intro W hW; go_simp; try with_reducible rfl)
                  (try simp only [Act.put, List.setIfInBounds_toArray, List.set_cons_zero, List.set_cons_succ])
                  refine wpAnyH_take (i := 42) (oi := { dst := some 74, op := Op.pick (Operand.tmp 62) (Operand.tmp 73) (Operand.const (Value.bool false)), type := 4, pos := "outright.go:110", after := #[{ on := 30, ground := Ground.data }, { on := 41, ground := Ground.data }, { on := 17, ground := Ground.guard }], guard := some (17, false) }) (v := ?_) rfl (by kernel_rfl) (by kernel_rfl) (by kernel_rfl) (fun _ _ _ h => h) (Or.inl ⟨by rfl, ?_⟩) (by exact Bw4.out) ?_
                  rotate_left; focus (intro W hW; go_simp; try with_reducible rfl)
                  (try simp only [Act.put, List.setIfInBounds_toArray, List.set_cons_zero, List.set_cons_succ])
                  refine wpAnyH_take (i := 43) (oi := { dst := some 75, op := Op.pick (Operand.tmp 49) (Operand.const (Value.bool true)) (Operand.tmp 74), type := 4, pos := "outright.go:110", after := #[{ on := 17, ground := Ground.data }, { on := 42, ground := Ground.data }, { on := 1, ground := Ground.guard }], guard := some (1, true) }) (v := ?_) rfl (by kernel_rfl) (by kernel_rfl) (by kernel_rfl) (fun _ _ _ h => h) (Or.inl ⟨by rfl, ?_⟩) (by exact Bw4.out) ?_
                  rotate_left; focus (intro W hW; go_simp; try with_reducible rfl)
                  (try simp only [Act.put, List.setIfInBounds_toArray, List.set_cons_zero, List.set_cons_succ])
                  refine wpAnyH_take (i := 44) (oi := { dst := some 76, op := Op.pick (Operand.tmp 33) (Operand.tmp 75) (Operand.const (Value.bool false)), type := 4, pos := "outright.go:110", after := #[{ on := 1, ground := Ground.data }, { on := 43, ground := Ground.data }], guard := none }) (v := ?_) rfl (by kernel_rfl) (by kernel_rfl) (by kernel_rfl) (fun _ _ _ h => h) (Or.inl ⟨by rfl, ?_⟩) (by exact Bw4.out) ?_
                  rotate_left; focus (intro W hW; go_simp; try with_reducible rfl)
                  (try simp only [Act.put, List.setIfInBounds_toArray, List.set_cons_zero, List.set_cons_succ])
                  refine wpAnyH_done (by kernel_rfl) ?_ _
                  by_cases h3 : x.by_ < z.by_
                  · have d3 : decide (x.by_ < z.by_) = true := decide_eq_true h3
                    have HG3 : Hid (goesAt (L.map sn) (j + 1) = some j) := hg.out.trans (if_pos (HL.out.2 h3))
                    skip
                    all_goals go_wp2
                    all_goals first | exact ⟨⟨j + 1, by omega, by go_num, by rw [HG3.out]; rfl, Bw4.out⟩, by simp [intOf]; omega⟩ | (exfalso; simp_all; done) | (exfalso; omega)
                  · have d3 : decide (x.by_ < z.by_) = false := decide_eq_false h3
                    have HG3 : Hid (goesAt (L.map sn) (j + 1) = some a) := hg.out.trans (if_neg (fun h => h3 (HL.out.1 h)))
                    skip
                    all_goals go_wp2
                    all_goals first | exact ⟨⟨j + 1, by omega, by go_num, by rw [HG3.out]; rfl, Bw4.out⟩, by simp [intOf]; omega⟩ | (exfalso; simp_all; done) | (exfalso; omega)
    · obtain rfl : k = L.length := by omega
      go_wp2
      go_ret
      exact ⟨rfl, hB⟩
end busC
end Go.Proofs.Ytomkgnlooheibaa
