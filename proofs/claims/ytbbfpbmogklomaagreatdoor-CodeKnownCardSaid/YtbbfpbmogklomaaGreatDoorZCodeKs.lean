/- busbarlaw12.knownSaid. Conditions: the library's tables are laid, variables of the library's hold some ints. -/
import Derived.Test.YtbbfpbmogklomaaGreatDoorZCodePg
import Derived.Test.YtbbfpbmogklomaaGreatDoorZKn
import Derived.Test.YtbbfpbmogklomaaGreatDoorZKm
import Derived.Test.YtbbfpbmogklomaaGreatDoorZKe
namespace Go.Proofs.YtbbfpbmogklomaaGreatDoor
open Go.RowKit Go.Bus Go.Bus.cellK Go.Bus.codeK
set_option linter.unusedVariables false
set_option linter.unusedSimpArgs false
namespace codeW
def saidK : List Ins := [⟨0, 0, 0, 0, 0⟩, ⟨1, 3, 0, 0, 300⟩, ⟨13, 1, 2, 3, 255⟩, ⟨17, 0, 63, 64, 1⟩, ⟨18, 0, 0, 16384, 0⟩, ⟨19, 2, 0, 1, 0⟩]
def wantK : List Int := [0, 1, 3, 172, 2, 13, 1, 2, 3, 255, 1, 17, 0, 63, 64, 1, 18, 128, 128, 1, 19, 2, 1, 0]
def textK : List (List UInt8) := [[104, 97, 108, 116], [99, 111, 110, 115, 116, 32, 114, 51, 32, 48, 120, 49, 50, 99], [98, 108, 101, 110, 100, 32, 114, 49, 32, 50, 32, 51, 32, 48, 120, 102, 102], [102, 105, 116, 115, 32, 114, 48, 32, 54, 51, 32, 54, 52, 32, 115, 105, 103, 110, 101, 100], [115, 107, 105, 112, 32, 49, 54, 51, 56, 52], [115, 107, 105, 112, 110, 101, 32, 114, 50, 32, 49, 32, 48, 120, 48]]
theorem saidK_ok : ∀ x ∈ saidK, x.Ok := by
  intro x hx
  unfold saidK at hx
  simp only [List.mem_cons, List.not_mem_nil, or_false] at hx
  rcases hx with rfl | rfl | rfl | rfl | rfl | rfl <;> (constructor <;> decide)
theorem saidK_right : ∀ x ∈ saidK, rightB x = true := by
  intro x hx
  unfold saidK at hx
  simp only [List.mem_cons, List.not_mem_nil, or_false] at hx
  rcases hx with rfl | rfl | rfl | rfl | rfl | rfl <;> rfl
theorem saidK_enc : encP saidK = wantK := by decide +kernel
theorem saidK_text : saidK.map lineI = textK := by decide +kernel
theorem textK_cell : ∀ j (h : j < textK.length), (#[.string ⟨#[104, 97, 108, 116]⟩, .string ⟨#[99, 111, 110, 115, 116, 32, 114, 51, 32, 48, 120, 49, 50, 99]⟩, .string ⟨#[98, 108, 101, 110, 100, 32, 114, 49, 32, 50, 32, 51, 32, 48, 120, 102, 102]⟩, .string ⟨#[102, 105, 116, 115, 32, 114, 48, 32, 54, 51, 32, 54, 52, 32, 115, 105, 103, 110, 101, 100]⟩, .string ⟨#[115, 107, 105, 112, 32, 49, 54, 51, 56, 52]⟩, .string ⟨#[115, 107, 105, 112, 110, 101, 32, 114, 50, 32, 49, 32, 48, 120, 48]⟩] : Array Value)[j]? = some (.string ⟨(textK[j]).toArray⟩) := by
  intro j h
  have hn : j < 6 := h
  match j, hn with
  | 0, _ => rfl
  | 1, _ => rfl
  | 2, _ => rfl
  | 3, _ => rfl
  | 4, _ => rfl
  | 5, _ => rfl
  | m + 6, h => omega
theorem text_line {j : Nat} (h : j < saidK.length) (h' : j < textK.length) : lineI saidK[j] = textK[j] := by
  have h2 : (saidK.map lineI)[j]? = textK[j]? := by rw [saidK_text]
  rw [List.getElem?_map, List.getElem?_eq_getElem h, List.getElem?_eq_getElem h'] at h2
  exact Option.some.inj h2
theorem rng_said {w : World} {g : Nat} {l : List Ins} (h : Has w g 25 (l.flatMap insC).toArray) {k : Nat} (hk : k < l.length) : w.rangeAt g (k * 5) (insC l[k]) := by
  intro j u hj
  rw [h.cell]
  have h1 := Go.Bus.lentC.flat_elt (k := 5) (cells := insC) (fun _ => rfl) l k hk
  rw [← h1] at hj
  have := (eltOf_get hj).1
  simpa using this
theorem slk_said {w : World} {g n : Nat} {l : List Ins} (h : Has w g 25 (l.flatMap insC).toArray) (hn : l.length = n) (hm : n ≤ 1000) : SlK 5 insE w (Old w.heap.size) (.slice (some ⟨g, 0, none⟩) n n) l := by
  subst hn
  refine SlK.whole h (by rw [Go.Bus.lentC.flat_len (k := 5) (cells := insC) (fun _ => rfl)]) h.lt (by unfold maxLen; omega) (fun i x hi => ?_)
  obtain ⟨hl, rfl⟩ := List.getElem?_eq_some_iff.1 hi
  exact Go.Bus.lentC.flat_elt (k := 5) (cells := insC) (fun _ => rfl) l i hl
theorem encS_any {v : Value} (w : World) (h : SlK 5 insE w (Old w.heap.size) v saidK) : Calls Tryz.prog 10 #[v] w fun e w' => ∃ A c, e = .returned (.tuple #[.slice A 24 c, .nilIface]) ∧ w'.ownsRow w.heap.size 5 1 (.slice A 24 c) 24 (wantK.map byteV) ∧ Below w.heap.size w w' := by
  refine (encode_good w h saidK_ok ⟨by decide, saidK_right⟩).mono ?_
  rintro e w' ⟨A, c, rfl, ho, hb⟩
  rw [saidK_enc] at ho
  exact ⟨A, c, by rw [saidK_enc]; rfl, ho, hb⟩
set_option maxRecDepth 100000 in
set_option maxHeartbeats 8000000 in
theorem knownsaid_any (w : World) (hT : Tabs w) (hS : Sp w) : Calls Tryz.prog 4 #[] w fun e w' => e = .returned (.bool true) ∧ Below w.heap.size w w' := by
  have HPR : Hid (∀ W, Below w.heap.size w W → ∀ x : Ins, x.Ok → rightB x = true → Calls Tryz.prog 9 #[.agg #[.int .i64 x.op, .int .i64 x.a, .int .i64 x.b, .int .i64 x.n, .int .u64 x.imm]] W fun e w' => e = .returned (.tuple #[.string ⟨(lineI x).toArray⟩, .nilIface]) ∧ Below W.heap.size W w') := Lib.hid (fun W hw x h hr => print_good W h hr (hT.at_below hw) (hS.at_below hw))
  have HEN : Hid (∀ W, Below w.heap.size w W → ∀ v, SlK 5 insE W (Old W.heap.size) v saidK → Calls Tryz.prog 10 #[v] W fun e w' => ∃ A c, e = .returned (.tuple #[.slice A 24 c, .nilIface]) ∧ w'.ownsRow W.heap.size 5 1 (.slice A 24 c) 24 (wantK.map byteV) ∧ Below W.heap.size W w') := Lib.hid (fun W hw v h => encS_any W h)
  have hi1 : (Tryz.prog.info? 25).map (·.size) = some 5 := by kernel_rfl
  have HI1 := Lib.hid hi1
  clear hT hS hi1
  go_enter Tryz.func4, Tryz.ntmps4
  go_wp2
  go_loopw [4] (fun iv wr => ∃ i : Nat, iv = .int .i64 (i : Nat) ∧ i ≤ 6 ∧ Hid (Below w.heap.size w wr) ∧ Hid (Has wr w.heap.size 25 (saidK.flatMap insC).toArray) ∧ Hid (Has wr (w.heap.size + 1) 9 #[.string ⟨#[104, 97, 108, 116]⟩, .string ⟨#[99, 111, 110, 115, 116, 32, 114, 51, 32, 48, 120, 49, 50, 99]⟩, .string ⟨#[98, 108, 101, 110, 100, 32, 114, 49, 32, 50, 32, 51, 32, 48, 120, 102, 102]⟩, .string ⟨#[102, 105, 116, 115, 32, 114, 48, 32, 54, 51, 32, 54, 52, 32, 115, 105, 103, 110, 101, 100]⟩, .string ⟨#[115, 107, 105, 112, 32, 49, 54, 51, 56, 52]⟩, .string ⟨#[115, 107, 105, 112, 110, 101, 32, 114, 50, 32, 49, 32, 48, 120, 48]⟩]) ∧ Hid (Has wr (w.heap.size + 2) 5 (wantK.map byteV).toArray)) (fun iv _ => 6 - (intOf iv).toNat)
  case atStart =>
    refine ⟨0, rfl, by decide, Lib.hid (by repeat' (first | (with_reducible assumption) | (with_reducible refine Below.setCell ?_ ?_ _) | (with_reducible refine Below.alloc ?_ ?_ _) | (with_reducible refine Below.drew ?_) | (with_reducible refine below_drewN ?_ _) | (with_reducible exact Below.refl _ _) | (show _ ≤ _; (try simp); (try omega); done) | exact Below.refl _ _ | assumption)), Lib.hid ?_, Lib.hid ?_, Lib.hid ?_⟩
    · exact ((Has.new w _ _).alloc _).alloc _
    · have h := (Has.new (w.alloc (.cells #[.int .i64 0, .int .i64 0, .int .i64 0, .int .i64 0, .int .u64 0, .int .i64 1, .int .i64 3, .int .i64 0, .int .i64 0, .int .u64 300, .int .i64 13, .int .i64 1, .int .i64 2, .int .i64 3, .int .u64 255, .int .i64 17, .int .i64 0, .int .i64 63, .int .i64 64, .int .u64 1, .int .i64 18, .int .i64 0, .int .i64 0, .int .i64 16384, .int .u64 0, .int .i64 19, .int .i64 2, .int .i64 0, .int .i64 1, .int .u64 0] 25)) 9 #[.string ⟨#[104, 97, 108, 116]⟩, .string ⟨#[99, 111, 110, 115, 116, 32, 114, 51, 32, 48, 120, 49, 50, 99]⟩, .string ⟨#[98, 108, 101, 110, 100, 32, 114, 49, 32, 50, 32, 51, 32, 48, 120, 102, 102]⟩, .string ⟨#[102, 105, 116, 115, 32, 114, 48, 32, 54, 51, 32, 54, 52, 32, 115, 105, 103, 110, 101, 100]⟩, .string ⟨#[115, 107, 105, 112, 32, 49, 54, 51, 56, 52]⟩, .string ⟨#[115, 107, 105, 112, 110, 101, 32, 114, 50, 32, 49, 32, 48, 120, 48]⟩]).alloc (.cells #[.int .u8 0, .int .u8 1, .int .u8 3, .int .u8 172, .int .u8 2, .int .u8 13, .int .u8 1, .int .u8 2, .int .u8 3, .int .u8 255, .int .u8 1, .int .u8 17, .int .u8 0, .int .u8 63, .int .u8 64, .int .u8 1, .int .u8 18, .int .u8 128, .int .u8 128, .int .u8 1, .int .u8 19, .int .u8 2, .int .u8 1, .int .u8 0] 5); simpa using h
    · have h := Has.new ((w.alloc (.cells #[.int .i64 0, .int .i64 0, .int .i64 0, .int .i64 0, .int .u64 0, .int .i64 1, .int .i64 3, .int .i64 0, .int .i64 0, .int .u64 300, .int .i64 13, .int .i64 1, .int .i64 2, .int .i64 3, .int .u64 255, .int .i64 17, .int .i64 0, .int .i64 63, .int .i64 64, .int .u64 1, .int .i64 18, .int .i64 0, .int .i64 0, .int .i64 16384, .int .u64 0, .int .i64 19, .int .i64 2, .int .i64 0, .int .i64 1, .int .u64 0] 25)).alloc (.cells #[.string ⟨#[104, 97, 108, 116]⟩, .string ⟨#[99, 111, 110, 115, 116, 32, 114, 51, 32, 48, 120, 49, 50, 99]⟩, .string ⟨#[98, 108, 101, 110, 100, 32, 114, 49, 32, 50, 32, 51, 32, 48, 120, 102, 102]⟩, .string ⟨#[102, 105, 116, 115, 32, 114, 48, 32, 54, 51, 32, 54, 52, 32, 115, 105, 103, 110, 101, 100]⟩, .string ⟨#[115, 107, 105, 112, 32, 49, 54, 51, 56, 52]⟩, .string ⟨#[115, 107, 105, 112, 110, 101, 32, 114, 50, 32, 49, 32, 48, 120, 48]⟩] 9)) 5 #[.int .u8 0, .int .u8 1, .int .u8 3, .int .u8 172, .int .u8 2, .int .u8 13, .int .u8 1, .int .u8 2, .int .u8 3, .int .u8 255, .int .u8 1, .int .u8 17, .int .u8 0, .int .u8 63, .int .u8 64, .int .u8 1, .int .u8 18, .int .u8 128, .int .u8 128, .int .u8 1, .int .u8 19, .int .u8 2, .int .u8 1, .int .u8 0]; simpa [byteV, wantK] using h
  case round =>
    obtain ⟨i, rfl, hi, HB, HP, HSx, HW⟩ := hrel
    by_cases hlt : i < 6
    · have hpl : i < saidK.length := hlt
      have htl : i < textK.length := hlt
      obtain ⟨x, hx⟩ : ∃ x, x = saidK[i] := ⟨_, rfl⟩
      obtain ⟨T, hT⟩ : ∃ T, T = textK[i] := ⟨_, rfl⟩
      have hok : x.Ok := by rw [hx]; exact saidK_ok _ (List.getElem_mem hpl)
      have hri : rightB x = true := by rw [hx]; exact saidK_right _ (List.getElem_mem hpl)
      have hli : lineI x = T := by rw [hx, hT]; exact text_line hpl htl
      have hrg : wr.rangeAt w.heap.size (i * 5) (insC x) := by rw [hx]; exact rng_said HP.out hpl
      have HRG := Lib.hid hrg
      clear hrg
      have cx : wr.cell? ⟨w.heap.size + 1, i, none⟩ = some (.string ⟨T.toArray⟩) := by rw [HSx.out.cell i, hT]; exact textK_cell i htl
      have HC := Lib.hid (HPR.out wr HB.out x hok hri)
      rw [hli] at HC
      clear hx hT hok hri hli hpl htl
      unfold insC at HRG
      have di : decide ((i : Int) < 6) = true := by simp; omega
      have z0 : w.heap.size < wr.heap.size := HP.out.lt
      have z1 : w.heap.size + 1 < wr.heap.size := HSx.out.lt
      have z2 : w.heap.size + 2 < wr.heap.size := HW.out.lt
      go_wp2_with (refine wpList_load_mid rfl 25 _ rfl w.heap.size (i * 5) rfl [.int .i64 x.op, .int .i64 x.a, .int .i64 x.b, .int .i64 x.n, .int .u64 x.imm] _ (by exact HRG.out) Tryz.underlying25 rfl (HI1.out) ?_)
      refine HC.out.mono ?_
      rintro e w1 ⟨rfl, hb⟩
      have HB1 : Hid (Below w.heap.size w w1) := Lib.hid (HB.out.trans (hb.mono HB.out.size))
      have HP1 := Lib.hid (HP.out.below hb z0)
      have HS1 := Lib.hid (HSx.out.below hb z1)
      have HW1 := Lib.hid (HW.out.below hb z2)
      have zs : w.heap.size + 1 < w1.heap.size := HS1.out.lt
      have cx1 : w1.cell? ⟨w.heap.size + 1, i, none⟩ = some (.string ⟨T.toArray⟩) := (hb.cell (p := ⟨w.heap.size + 1, i, none⟩) z1).trans cx
      clear hb
      go_wp2
      go_roundw
      case rel => exact ⟨i + 1, by go_num, by omega, HB1, HP1, HS1, HW1⟩
      case measure => simp [intOf]; omega
    · obtain rfl : i = 6 := by omega
      go_wp2_with fail
      refine (HEN.out wr HB.out _ (slk_said HP.out rfl (by decide))).mono ?_
      rintro e w1 ⟨A1, c1, rfl, ho1, hb1⟩
      have HO1 := Lib.hid ho1
      have HB1 := Lib.hid (HB.out.trans (hb1.mono HB.out.size))
      have HW1 := Lib.hid (HW.out.below hb1 HW.out.lt)
      clear ho1 hb1
      go_wp2_with (first
        | (go_at_call 11; refine (works_any w1).mono ?_; rintro e w2 ⟨rfl, hb2⟩; have HO2 := Lib.hid (own_kept HO1.out hb2); have HW2 := Lib.hid (HW1.out.below hb2 HW1.out.lt); have HB2 := Lib.hid (HB1.out.trans (hb2.mono HB1.out.size)); clear hb2)
        | (go_at_call 12; refine (samebytes_any (l := wantK) (m := wantK) w2 (by exact Sl.of_own HO2.out) (by exact Sl.of_own (f := byteV) (l := wantK) (own_of_has (base := 0) (size := 1) (n := 24) HW2.out rfl (Nat.zero_le _) (by simp [maxLen])))).mono ?_; rintro e w3 ⟨rfl, hB3⟩; have HB3 := Lib.hid (HB2.out.trans (hB3.mono HB2.out.size)); clear hB3))
      go_ret
      exact ⟨rfl, HB3.out⟩
end codeW
end Go.Proofs.YtbbfpbmogklomaaGreatDoor
