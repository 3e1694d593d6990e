/- Walk of busbarref02.word. Condition: at most 1000 digits. -/
import Derived.Test.YtllbpanfhlbbgaaDoorNatP
import Derived.Laws.BitsAllLaws
import Derived.Laws.Bits64b
namespace Go.Proofs.YtllbpanfhlbbgaaDoor
open Go.RowKit Go.Bus Go.Nt
set_option linter.unusedVariables false
set_option linter.unusedSimpArgs false
namespace natW
theorem or_32 {c d : Nat} (hc : c < 4294967296) (hd : d < 4294967296) : bits BinOp.or IntKind.u64 (c : Int) ((d * 4294967296 : Nat) : Int) = ((c + d * 4294967296 : Nat) : Int) := by
  rw [u64_or_nat c (d * 4294967296) (by omega) (by omega)]
  have h := Nat.two_pow_add_eq_or_of_lt (i := 32) (b := c) (by omega) d
  rw [Nat.or_comm]
  have e : (2 : Nat) ^ 32 = 4294967296 := by decide
  rw [e] at h
  rw [show d * 4294967296 = 4294967296 * d from Nat.mul_comm _ _, ← h]
  congr 1
  omega

set_option maxRecDepth 100000 in
set_option maxHeartbeats 1000000 in
theorem word_any (v : Value) (n : Nat) (w : World) (h : Nt w v n) (hl : (digs n).length ≤ 1000) :
    Calls Tryd.prog 65 #[v] w fun e w' => e = .returned (.tuple #[.int .u64 ((n % 18446744073709551616 : Nat) : Int), .bool (decide (n < 18446744073709551616))]) ∧ w = w' := by
  have hg := fun i => digs_get i n
  have hle := digs_len_iff n 2
  have hlt := digs_lt n
  obtain ⟨A, cap, rfl, n1, n2⟩ := Sl.form h
  have n3 : cap ≤ 9223372036854775807 := by unfold maxLen at n2; omega
  have HS := Lib.hid (show Sl w w.heap.size N32 _ (digs n) from h)
  have hr : (n < 18446744073709551616) ↔ (digs n).length ≤ 2 := by rw [hle]
  have h0 := hg 0
  have h1 := hg 1
  rw [Nat.pow_zero, Nat.div_one] at h0
  rw [Nat.pow_one] at h1
  clear h hg n2 hle
  rw [show decide (n < 18446744073709551616) = decide ((digs n).length ≤ 2) from decide_eq_decide.2 hr]
  clear hr
  have hnn : n % 18446744073709551616 = (digs n).getD 0 0 + (digs n).getD 1 0 * 4294967296 := by
    rw [h0, h1]; omega
  rw [hnn]
  clear h0 h1 hnn
  generalize digs n = l at *
  match l, HS, hlt with
  | [], HS, _ =>
    go_enter Tryd.func65, Tryd.ntmps65
    go_wp2
    go_loopw [4, 5] (fun c i wr => c = .int .u64 0 ∧ i = .int .i64 0 ∧ wr = w) (fun _ i _ => 0)
    case atStart => exact ⟨rfl, rfl, rfl⟩
    case round =>
      obtain ⟨rfl, rfl, rfl⟩ := hrel
      go_wp2
      go_ret2
      exact ⟨rfl, rfl⟩
  | [d0], HS, hlt =>
    have q0 : d0 < 4294967296 := hlt d0 (by simp)
    obtain ⟨b, off, rfl, hb, hc⟩ := HS.out.at_ (k := 0) (by simp)
    have hc' : w.cell? ⟨b, off, none⟩ = some (.int .u32 (d0 : Int)) := hc
    have e1 : IntKind.u64.wrap (d0 : Int) = (d0 : Int) := by rw [IntKind.wrap_u64]; omega
    have e2 : bits BinOp.or IntKind.u64 0 (d0 : Int) = (d0 : Int) := by have := u64_or_nat 0 d0 (by omega) (by omega); simpa using this
    clear hc hlt HS
    go_enter Tryd.func65, Tryd.ntmps65
    go_wp2
    go_loopw [4, 5] (fun c i wr => (c = .int .u64 0 ∧ i = .int .i64 0 ∨ c = .int .u64 (d0 : Int) ∧ i = .int .i64 1) ∧ wr = w) (fun _ i _ => 1 - (intOf i).toNat)
    case atStart => exact ⟨.inl ⟨rfl, rfl⟩, rfl⟩
    case round =>
      obtain ⟨⟨rfl, rfl⟩ | ⟨rfl, rfl⟩, rfl⟩ := hrel
      · go_wp2
        go_roundw
        case rel => exact ⟨.inr ⟨rfl, rfl⟩, by first | rfl | trivial⟩
        case measure => simp [intOf]
      · go_wp2
        go_ret2
        exact ⟨by simp, rfl⟩
  | d0 :: d1 :: t, HS, hlt =>
    have q0 : d0 < 4294967296 := hlt d0 (by simp)
    have q1 : d1 < 4294967296 := hlt d1 (by simp)
    rcases t with _ | ⟨d2, t⟩
    all_goals
      obtain ⟨b, off, rfl, hb, hc⟩ := HS.out.at_ (k := 0) (by simp)
      obtain ⟨b', off', he, hb', hd⟩ := HS.out.at_ (k := 1) (by simp)
      obtain ⟨rfl, rfl⟩ : b = b' ∧ off = off' := by simpa using he
      have hc' : w.cell? ⟨b, off, none⟩ = some (.int .u32 (d0 : Int)) := hc
      have hd' : w.cell? ⟨b, off + 1, none⟩ = some (.int .u32 (d1 : Int)) := hd
      obtain ⟨s, hs⟩ : ∃ s, s = d1 * 4294967296 := ⟨_, rfl⟩
      obtain ⟨z, hz⟩ : ∃ z, z = d0 + s := ⟨_, rfl⟩
      have e1 : IntKind.u64.wrap (d0 : Int) = (d0 : Int) := by rw [IntKind.wrap_u64]; omega
      have e1' : IntKind.u64.wrap (d1 : Int) = (d1 : Int) := by rw [IntKind.wrap_u64]; omega
      have e2 : bits BinOp.or IntKind.u64 0 (d0 : Int) = (d0 : Int) := by have := u64_or_nat 0 d0 (by omega) (by omega); simpa using this
      have e3 : IntKind.u64.wrap ((d1 : Int) * 4294967296) = (s : Int) := by rw [IntKind.wrap_u64]; omega
      have e3' : (d1 : Int) * 4294967296 = (s : Int) := by omega
      have e4 : bits BinOp.or IntKind.u64 (d0 : Int) (s : Int) = (z : Int) := by rw [hz, hs]; exact or_32 q0 q1
      have HZ := Lib.hid (show d0 + d1 * 4294967296 = z by rw [hz, hs])
      simp only [List.getD_cons_zero, List.getD_cons_succ, HZ.out, List.length_cons, List.length_nil] at n1 hl ⊢
      clear hc hlt HS hd he hs hz
      go_enter Tryd.func65, Tryd.ntmps65
      go_wp2
      go_loopw [4, 5] (fun c i wr => (c = .int .u64 0 ∧ i = .int .i64 0 ∨ c = .int .u64 (d0 : Int) ∧ i = .int .i64 1 ∨ c = .int .u64 (z : Int) ∧ i = .int .i64 2) ∧ wr = w) (fun _ i _ => 2 - (intOf i).toNat)
      case atStart => exact ⟨.inl ⟨rfl, rfl⟩, rfl⟩
      case round =>
        obtain ⟨⟨rfl, rfl⟩ | ⟨rfl, rfl⟩ | ⟨rfl, rfl⟩, rfl⟩ := hrel
        · go_wp2
          go_roundw
          case rel => exact ⟨.inr (.inl ⟨rfl, rfl⟩), by first | rfl | trivial⟩
          case measure => simp [intOf]
        · go_wp2
          go_roundw
          case rel => exact ⟨.inr (.inr ⟨rfl, rfl⟩), by first | rfl | trivial⟩
          case measure => simp [intOf]
        · go_wp2
          go_ret2
          exact ⟨by first | (simp; done) | (simp; omega), rfl⟩
end natW
end Go.Proofs.YtllbpanfhlbbgaaDoor
