/- Texts of this claim, one behind the other. No condition but those that each states. -/
import Derived.Test.YtbbfpbmogklomaaGreatDoorZCodePg
import Derived.Test.YtbbfpbmogklomaaGreatDoorZKm
import Derived.Test.YtbbfpbmogklomaaGreatDoorZCodeRx
import Derived.Test.YtbbfpbmogklomaaGreatDoorZKb
import Derived.Test.YtbbfpbmogklomaaGreatDoorZKw
import Derived.Test.YtbbfpbmogklomaaGreatDoorZKx
import Derived.Test.YtbbfpbmogklomaaGreatDoorRows
import Derived.LaidLaws
import Derived.LaidHandle
import Derived.LaidSub
import Derived.LaidMore
import Derived.Lib.LaidTab

namespace Go.Proofs.YtbbfpbmogklomaaGreatDoor
open Go.RowKit Go.Bus Go.Bus.cellK Go.Bus.codeK
set_option linter.unusedVariables false
set_option linter.unusedSimpArgs false
namespace codeW
set_option maxRecDepth 100000 in
set_option maxHeartbeats 1000000 in
theorem prints_w {x : Ins} (w : World) (S : ByteArray) (E : Value) (no : Int)
    (hD : ∀ W, Below w.heap.size w W → Calls Tryz.prog 9 #[.agg (insC x).toArray] W fun e w' => e = .returned (.tuple #[.string S, E]) ∧ Below W.heap.size W w')
    (hR : ∀ W, Calls Tryz.prog 30 #[.agg (insC x).toArray] W fun e w' => e = .returned (.tuple #[.string S, .int .i64 no]) ∧ Below W.heap.size W w')
    (hT : ∀ W, Below w.heap.size w W → Calls Tryz.prog 24 #[E, .int .i64 no] W fun e w' => e = .returned (.bool true) ∧ Below W.heap.size W w') :
    Calls Tryz.prog 13 #[.agg (insC x).toArray] w fun e w' => e = .returned (.bool true) ∧ Below w.heap.size w w' := by
  have HD := Lib.hid hD
  have HR := Lib.hid hR
  have HT := Lib.hid hT
  clear hD hR hT
  obtain ⟨op, a, b, n, imm⟩ := x
  unfold insC at HD HR ⊢
  have hss : (S.toList == S.toList) = true := by simp
  have HJ0 := Lib.hid (Has.new w 25 #[.int .i64 op, .int .i64 a, .int .i64 b, .int .i64 n, .int .u64 imm])
  go_enter Tryz.func13, Tryz.ntmps13
  go_wp2_with (first
    | (go_at_call 9; refine (HD.out _ ((Below.refl _ _).alloc (Nat.le_refl _) _)).mono ?_; rintro e w1 ⟨rfl, hb⟩; have hj := HJ0.out.below hb HJ0.out.lt; have w10 : w1.cell? ⟨w.heap.size, 0, none⟩ = some (.int .i64 op) := hj.cell 0; have w11 : w1.cell? ⟨w.heap.size, 1, none⟩ = some (.int .i64 a) := hj.cell 1; have w12 : w1.cell? ⟨w.heap.size, 2, none⟩ = some (.int .i64 b) := hj.cell 2; have w13 : w1.cell? ⟨w.heap.size, 3, none⟩ = some (.int .i64 n) := hj.cell 3; have w14 : w1.cell? ⟨w.heap.size, 4, none⟩ = some (.int .u64 imm) := hj.cell 4; have z1 : w.heap.size < w1.heap.size := hj.lt; have HJ := Lib.hid hj; have HB : Hid (Below w.heap.size w w1) := Lib.hid (((Below.refl _ _).alloc (Nat.le_refl _) _).trans (hb.mono (by simp))); clear hb hj)
    | (go_at_call 30; refine (HR.out _).mono ?_; rintro e w2 ⟨rfl, hb⟩; have HB2 := Lib.hid (HB.out.trans (hb.mono HB.out.size)); clear hb)
    | (go_at_call 24; refine (HT.out _ HB2.out).mono ?_; rintro e w3 ⟨rfl, hb⟩; have HB3 := Lib.hid (HB2.out.trans (hb.mono HB2.out.size)); clear hb))
  go_ret
  exact ⟨rfl, HB3.out⟩
theorem prints_any {x : Ins} (w : World) (hx : x.Ok) (hG : asK.ErrT w) (hT : Tabs w) (hS : Sp w) : Calls Tryz.prog 13 #[.agg (insC x).toArray] w fun e w' => e = .returned (.bool true) ∧ Below w.heap.size w w' := by
  cases hr : rightB x with
  | true =>
    exact prints_w w _ .nilIface 0 (fun W hb => print_good W hx hr (hT.at_below hb) (hS.at_below hb)) (fun W => rprint_good hx hr W) (fun W hb => asK.plain_nil W)
  | false =>
    exact prints_w w _ (.iface 50 (.int .i64 20)) 20 (fun W hb => print_bad W hx hr) (fun W => rprint_bad hx hr W) (fun W hb => asK.plain_no 20 W (by omega) (by omega) (hG.at_below hb))
end codeW
end Go.Proofs.YtbbfpbmogklomaaGreatDoor

namespace Go.Proofs.YtbbfpbmogklomaaGreatDoor
open Go.RowKit Go.Bus Go.Bus.cellK Go.Bus.codeK Go.Bus.hexK
set_option linter.unusedVariables false
set_option linter.unusedSimpArgs false
namespace codeW
theorem line_len2 {x : Ins} (hx : x.Ok) (hr : rightB x = true) : (lineI x).length ≤ 132 := by
  obtain ⟨fs, hfs, hok, _⟩ := right_some hr
  have hfl := fields_len hfs
  obtain ⟨k, hk, hk20, _⟩ := fields_cases hfs
  have hnl : (nameN k).length ≤ 8 := by
    have key : ∀ k : Fin 20, (nameN k.val).length ≤ 8 := by decide
    exact key ⟨k, hk20⟩
  have key : ∀ gs : List Fk, (∀ g ∈ gs, g.ok) → (lineF gs x).length ≤ 31 * gs.length := by
    intro gs
    induction gs with
    | nil => intro _; simp [lineF]
    | cons g gs ih =>
      intro hg
      have h1 := txt_len (hg g (List.mem_cons_self ..)) hx
      have h2 := ih (fun f hf => hg f (List.mem_cons_of_mem _ hf))
      unfold lineF at h2 ⊢
      rw [List.flatMap_cons, List.length_append, List.length_cons, List.length_cons]
      omega
  have h1 := key fs (fields_ok hfs)
  have h2 : lineI x = nameN k ++ lineF fs x := by unfold lineI; rw [hfs, hk]; rfl
  rw [h2, List.length_append]; omega
set_option maxRecDepth 100000 in
set_option maxHeartbeats 4000000 in
theorem parses_w (w : World) (S : ByteArray) (y : Ins) (E : Value) (no : Int)
    (hD : Calls Tryz.prog 31 #[.string S] w fun e w' => e = .returned (.tuple #[.agg #[.int .i64 y.op, .int .i64 y.a, .int .i64 y.b, .int .i64 y.n, .int .u64 y.imm], E]) ∧ Below w.heap.size w w')
    (hR : ∀ W, Calls Tryz.prog 43 #[.string S] W fun e w' => e = .returned (.tuple #[.agg #[.int .i64 y.op, .int .i64 y.a, .int .i64 y.b, .int .i64 y.n, .int .u64 y.imm], .int .i64 no]) ∧ Below W.heap.size W w')
    (hT : ∀ W, Below w.heap.size w W → Calls Tryz.prog 24 #[E, .int .i64 no] W fun e w' => e = .returned (.bool true) ∧ Below W.heap.size W w') :
    Calls Tryz.prog 20 #[.string S] w fun e w' => e = .returned (.bool true) ∧ Below w.heap.size w w' := by
  have HD := Lib.hid hD
  have HR := Lib.hid hR
  have HT := Lib.hid hT
  have HZ : ∀ W, (binOp .eql 25 (.agg #[.int .i64 y.op, .int .i64 y.a, .int .i64 y.b, .int .i64 y.n, .int .u64 y.imm]) (.agg #[.int .i64 y.op, .int .i64 y.a, .int .i64 y.b, .int .i64 y.n, .int .u64 y.imm])).run Tryz.prog W = .ok (.bool true) W := fun W => by
    have := eql_ins y y W
    rw [decide_eq_true rfl] at this
    exact this
  clear hD hR hT
  go_enter Tryz.func20, Tryz.ntmps20
  go_wp2_with (first
    | (go_at_call 31; refine (HD.out).mono ?_; rintro e w1 ⟨rfl, hb⟩; have HB : Hid (Below w.heap.size w w1) := Lib.hid hb; have zw := hb.size; clear hb))
  refine (HR.out _).mono ?_
  rintro e w2 ⟨rfl, hb⟩
  have hj : Has w2 w1.heap.size 25 #[.int .i64 y.op, .int .i64 y.a, .int .i64 y.b, .int .i64 y.n, .int .u64 y.imm] := Has.below (by exact Has.new w1 _ _) hb (by simp)
  have HJ2 := Lib.hid hj
  have hB2 : Below w1.heap.size w1 w2 := Below.trans (by repeat' (first | (with_reducible assumption) | (with_reducible refine Below.setCell ?_ ?_ _) | (with_reducible refine Below.alloc ?_ ?_ _) | (with_reducible refine Below.drew ?_) | (with_reducible refine below_drewN ?_ _) | (with_reducible exact Below.refl _ _) | (show _ ≤ _; (try simp); (try omega); done) | exact Below.refl _ _ | assumption)) (hb.mono (by simp))
  have x0 : w2.cell? ⟨w1.heap.size, 0, none⟩ = some (.int .i64 y.op) := hj.cell 0
  have x1 : w2.cell? ⟨w1.heap.size, 1, none⟩ = some (.int .i64 y.a) := hj.cell 1
  have x2 : w2.cell? ⟨w1.heap.size, 2, none⟩ = some (.int .i64 y.b) := hj.cell 2
  have x3 : w2.cell? ⟨w1.heap.size, 3, none⟩ = some (.int .i64 y.n) := hj.cell 3
  have x4 : w2.cell? ⟨w1.heap.size, 4, none⟩ = some (.int .u64 y.imm) := hj.cell 4
  have z2 : w1.heap.size < w2.heap.size := hj.lt
  have HB2 : Hid (Below w.heap.size w w2) := Lib.hid (HB.out.trans (hB2.mono zw))
  have z02 : w.heap.size ≤ w2.heap.size := by omega
  clear hb hj hB2
  go_wp2_with (first
    | (go_at_call 24; refine (HT.out _ (by have hB := HB2.out; exact (by repeat' (first | (with_reducible assumption) | (with_reducible refine Below.setCell ?_ ?_ _) | (with_reducible refine Below.alloc ?_ ?_ _) | (with_reducible refine Below.drew ?_) | (with_reducible refine below_drewN ?_ _) | (with_reducible exact Below.refl _ _) | (show _ ≤ _; (try simp); (try omega); done) | exact Below.refl _ _ | assumption)))).mono ?_; rintro e w3 ⟨rfl, hb⟩; have HB3 : Hid (Below w.heap.size w w3) := Lib.hid (Below.trans (by have hB := HB2.out; exact (by repeat' (first | (with_reducible assumption) | (with_reducible refine Below.setCell ?_ ?_ _) | (with_reducible refine Below.alloc ?_ ?_ _) | (with_reducible refine Below.drew ?_) | (with_reducible refine below_drewN ?_ _) | (with_reducible exact Below.refl _ _) | (show _ ≤ _; (try simp); (try omega); done) | exact Below.refl _ _ | assumption))) (hb.mono (by (try simp); (try omega)))); clear hb)
    | simp only [HZ])
  go_ret
  exact ⟨rfl, HB3.out⟩
theorem noOf_one {a : List UInt8} {n m : Int} (h : noOf a n) (k : noOf a m) : n = m := by
  rcases h with ⟨rfl, j, hj, e⟩ | ⟨rfl, h⟩ <;> rcases k with ⟨rfl, i, hi, e'⟩ | ⟨rfl, h'⟩
  · rfl
  · exact absurd e (h' j hj)
  · exact absurd e' (h i hi)
  · rfl
theorem parses_any {S : List UInt8} (w : World) (hl : S.length ≤ 2097152) (hT : Tabs w) (hS : Sp w) (hM : Mx w) (hE : Errs w) (hG : asK.ErrT w) : Calls Tryz.prog 20 #[.string ⟨S.toArray⟩] w fun e w' => e = .returned (.bool true) ∧ Below w.heap.size w w' := by
  obtain ⟨a, l, hsp, -, -, -, -⟩ := split_any _ S (Nat.le_refl _)
  have hc : cutW S = a :: l := by rw [← cutW_split _ _ (Nat.le_refl _)]; exact hsp
  by_cases hx : ∃ x : Ins, x.Ok ∧ rightB x = true ∧ lineI x = S
  · obtain ⟨x, hok, hr, hli⟩ := hx
    obtain ⟨fs, hfs, -, -⟩ := right_some hr
    obtain ⟨ls, hls⟩ : ∃ ls, lettersOf x.op = some ls := by
      cases h : lettersOf x.op with
      | none => rw [letters_none h] at hfs; cases hfs
      | some ls => exact ⟨ls, rfl⟩
    obtain ⟨k, hk, hk20, -⟩ := letters_cases hls
    obtain ⟨h1, h2⟩ := line_sets hok hls hr
    rw [hli, hc, hk] at h1
    obtain ⟨rfl, rfl⟩ := List.cons.inj h1
    refine parses_w w _ x .nilIface 0 ?_ (fun W => (rparse_any hsp hl W).mono ?_) (fun W _ => asK.plain_nil W)
    · have := parse_good w hok hr (line_len2 hok hr) hT hS hM
      rw [hli] at this
      exact this
    · rintro e w' ⟨hb, ⟨hno, -⟩ | ⟨k', ls', hk', ha', hl', h⟩⟩
      · exact absurd rfl (hno k hk20)
      · have hkk : k = k' := name_inj (by omega) hk' ha'
        subst hkk
        rw [← hk, hls] at hl'
        obtain rfl := Option.some.inj hl'
        rw [← hk, h2] at h
        rcases h with ⟨-, -, he⟩ | ⟨hn, -⟩
        · exact ⟨he, hb⟩
        · exact absurd ⟨hr, hli⟩ hn
  · obtain ⟨no, hno⟩ : ∃ no, noOf a no := by
      by_cases h : ∃ k, k < 20 ∧ a = nameN k
      · exact ⟨4, .inl ⟨rfl, h⟩⟩
      · exact ⟨20, .inr ⟨rfl, fun k hk e => h ⟨k, hk, e⟩⟩⟩
    have hno1 : 1 ≤ no ∧ no ≤ 26 := by rcases hno with ⟨rfl, _⟩ | ⟨rfl, _⟩ <;> omega
    refine parses_w w _ (zero 0) (.iface 50 (.int .i64 no)) no ((parse_gen w hl hT hS hM hE).mono ?_) (fun W => (rparse_any hsp hl W).mono ?_) (fun W hb => asK.plain_no no W hno1.1 hno1.2 (hG.at_below hb))
    · rintro e w' ⟨hb, ⟨y, hy, hr, hli, -⟩ | ⟨n, he, a', l', hs', hn⟩⟩
      · exact absurd ⟨y, hy, hr, hli⟩ hx
      · rw [hsp] at hs'
        obtain ⟨rfl, rfl⟩ := List.cons.inj hs'
        obtain rfl := noOf_one hn hno
        exact ⟨he, hb⟩
    · rintro e w' ⟨hb, ⟨h, he⟩ | ⟨k, ls, hk, ha, hls, h⟩⟩
      · obtain rfl := noOf_one (.inr ⟨rfl, h⟩ : noOf a 20) hno
        exact ⟨he, hb⟩
      · obtain rfl := noOf_one (.inl ⟨rfl, k, hk, ha⟩ : noOf a 4) hno
        rcases h with ⟨hr, hli, -⟩ | ⟨-, he⟩
        · obtain ⟨h1, h2⟩ : (setsD ls l (zero (k : Int))).Ok ∧ True := ⟨setsD_ok ls l (zero_k hk), trivial⟩
          exact absurd ⟨_, h1, hr, hli⟩ hx
        · exact ⟨he, hb⟩
end codeW
end Go.Proofs.YtbbfpbmogklomaaGreatDoor

namespace Go.Proofs.YtbbfpbmogklomaaGreatDoor
open Go.RowKit Go.Bus Go.Extern.Stop Go.Stop Go.Extern
set_option linter.unusedVariables false
namespace laidC
theorem tab_of_laid {l : List (String × DataW Unit)} {W : World} (h : laidMetH Tryz.prog l W) (hl : l.filter (fun x => x.1 == "internal/strconv.uint64pow10") = [("internal/strconv.uint64pow10", Rows.laid_internal_strconv_uint64pow10)]) : Lib.TabIs Tryz.prog W "internal/strconv.uint64pow10" .u64 Lib.pow10Tab := by
  have h1 := h.filter (fun x => x.1 == "internal/strconv.uint64pow10")
  rw [hl] at h1
  have h' : laidMet Tryz.prog [("internal/strconv.uint64pow10", Lib.tabData .u64 Lib.pow10Tab)] W := h1
  exact Lib.tabIs_of_head codeW.gPow (t := 211) (e := 23) (n := 20) (by kernel_rfl) Tryz.underlying211 Tryz.underlying23 (by kernel_rfl) (by kernel_rfl) h'
set_option maxRecDepth 100000 in
theorem sp_of_laid {l : List (String × DataW Unit)} {W : World} (h : laidMetH Tryz.prog l W) (hl : l.filter (fun x => x.1 == "strings.asciiSpace") = [("strings.asciiSpace", Rows.laid_strings_asciiSpace)]) : codeW.Sp W := by
  have h1 := h.filter (fun x => x.1 == "strings.asciiSpace")
  rw [hl] at h1
  have h' : laidMet Tryz.prog [("strings.asciiSpace", Lib.tabData .u8 Lib.asciiSpaceTab)] W := h1
  exact Lib.tabIs_of_head codeW.gSp (t := 99) (e := 5) (n := 256) (by kernel_rfl) Tryz.underlying99 Tryz.underlying5 (by kernel_rfl) (by kernel_rfl) h'
def tzTab : List Int := [0, 1, 56, 2, 57, 49, 28, 3, 61, 58, 42, 50, 38, 29, 17, 4, 62, 47, 59, 36, 45, 43, 51, 22, 53, 39, 33, 30, 24, 18, 12, 5, 63, 55, 48, 27, 60, 41, 37, 16, 46, 35, 44, 21, 52, 32, 23, 11, 54, 26, 40, 15, 34, 20, 31, 10, 25, 14, 19, 9, 13, 8, 7, 6]
theorem gTz : Tryz.prog.globalNamed "math/bits.deBruijn64tab" = some 10 := by kernel_rfl
theorem tz_of_laid {l : List (String × DataW Unit)} {W : World} (h : laidMetH Tryz.prog l W) (hl : l.filter (fun x => x.1 == "math/bits.deBruijn64tab") = [("math/bits.deBruijn64tab", Rows.laid_math_bits_deBruijn64tab)]) : hexW.Tz W := by
  have h1 := h.filter (fun x => x.1 == "math/bits.deBruijn64tab")
  rw [hl] at h1
  have h' : laidMet Tryz.prog [("math/bits.deBruijn64tab", Lib.tabData .u8 tzTab)] W := h1
  have h2 := Lib.tabIs_of_head gTz (t := 226) (e := 5) (n := 64) (by kernel_rfl) Tryz.underlying226 Tryz.underlying5 (by kernel_rfl) (by kernel_rfl) h'
  exact h2.cell gTz 15 (by decide)
theorem tabs_of_laid {l : List (String × DataW Unit)} {W : World} (h : laidMetH Tryz.prog l W) (hl : l.filter (fun x => x.1 == "internal/strconv.uint64pow10") = [("internal/strconv.uint64pow10", Rows.laid_internal_strconv_uint64pow10)]) (hl2 : l.filter (fun x => x.1 == "math/bits.deBruijn64tab") = [("math/bits.deBruijn64tab", Rows.laid_math_bits_deBruijn64tab)]) : codeW.Tabs W := ⟨tab_of_laid h hl, tz_of_laid h hl2⟩
end laidC
end Go.Proofs.YtbbfpbmogklomaaGreatDoor
