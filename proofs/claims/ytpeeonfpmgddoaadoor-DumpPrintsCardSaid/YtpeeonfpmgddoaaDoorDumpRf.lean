/- The document's Name (chapter 3), Hex and most (chapter 27). Condition: the text's length, numbers' bounds. -/
import Derived.Test.YtpeeonfpmgddoaaDoorDumpPr
import Derived.Test.YtpeeonfpmgddoaaDoorRprint
namespace Go.Proofs.YtpeeonfpmgddoaaDoor
open Go.RowKit Go.Bus Go.Bus.dumpK Go.Bus.textK Go.Bus.hexK
set_option linter.unusedVariables false
set_option linter.unusedSimpArgs false
namespace dumpW
set_option maxRecDepth 100000 in
theorem rmost_any (b : Bool) (w : World) : Calls Tryd.prog 18 #[.bool b] w fun e w' => e = .returned (.int .u32 (most b : Nat)) ∧ w = w' := by
  cases b
  · go_enter Tryd.func18, Tryd.ntmps18
    go_wp2
    go_ret
    exact ⟨rfl, rfl⟩
  · go_enter Tryd.func18, Tryd.ntmps18
    go_wp2
    go_ret
    exact ⟨rfl, rfl⟩
theorem shr4 {u : Nat} (h : u < 18446744073709551616) : ((u : Int) / 16) = ((u / 16 : Nat) : Int) := by omega
theorem numN_succ' (b : Nat) : ∀ n v, numN b (n + 1) v = hexU (v / b ^ n % b) :: numN b n v
  | 0, v => by simp [numN]
  | n + 1, v => by
    rw [numN, numN_succ' b n (v / b)]
    conv => rhs; rw [numN]
    rw [List.cons_append, Nat.div_div_eq_div_mul, Nat.pow_succ, Nat.mul_comm b]
theorem dgS_at : ∀ d : Nat, d < 16 → ∃ h : d < dgS.size, ((dgS[d]'h).toNat : Int) = ((hexU d).toNat : Nat) := by
  have key : ∀ d : Fin 16, ∃ h : d.val < dgS.size, ((dgS[d.val]'h).toNat : Int) = ((hexU d.val).toNat : Nat) := by
    intro d
    refine ⟨d.isLt, ?_⟩
    revert d
    decide
  exact fun d h => key ⟨d, h⟩
set_option maxRecDepth 100000 in
set_option maxHeartbeats 4000000 in
theorem rhex_any (v n : Nat) (hv : v < 18446744073709551616) (hn : n ≤ 8) (w : World) : Calls Tryd.prog 20 #[.int .u64 (v : Nat), .int .i64 (n : Nat)] w fun e w' => e = .returned (.string ⟨(numN 16 n v).toArray⟩) ∧ Below w.heap.size w w' := by
  obtain ⟨T, hT⟩ : ∃ T, T = numN 16 n v := ⟨_, rfl⟩
  rw [← hT]
  have HT := Lib.hid hT
  clear hT
  go_enter Tryd.func20, Tryd.ntmps20
  go_wp2
  go_loopw [0, 6, 7] (fun uv tv iv wr => ∃ (i u : Nat) (t : List UInt8), i ≤ n ∧ iv = .int .i64 (i : Nat) ∧ uv = .int .u64 (u : Nat) ∧ tv = .string ⟨t.toArray⟩ ∧ u < 18446744073709551616 ∧ t.length ≤ i ∧ Hid (numN 16 (n - i) u ++ t = T) ∧ Hid (Below w.heap.size w wr)) (fun _ _ iv _ => n - (intOf iv).toNat)
  case atStart => exact ⟨0, v, [], Nat.zero_le _, rfl, rfl, rfl, hv, Nat.le_refl _, Lib.hid (by rw [List.append_nil]; exact HT.out.symm), Lib.hid (Below.refl _ _)⟩
  case round =>
    obtain ⟨i, u, t, hi, rfl, rfl, rfl, hu, htl, HE, HB⟩ := hrel
    have hz := HB.out.size
    by_cases hlt : i < n
    · have hand : bits BinOp.and IntKind.u64 (u : Int) 15 = ((u % 16 : Nat) : Int) := hexW.and15 hu
      obtain ⟨d, hd⟩ : ∃ d, d = u % 16 := ⟨_, rfl⟩
      have hd16 : d < 16 := by omega
      obtain ⟨hds, hdg⟩ := dgS_at d hd16
      have HN : Hid (numN 16 (n - (i + 1)) (u / 16) ++ (hexU d :: t) = T) := Lib.hid (by
        have h := HE.out
        rw [show n - i = (n - (i + 1)) + 1 from by omega, numN, List.append_assoc] at h
        rw [hd]; exact h)
      have hu2 : u / 16 < 18446744073709551616 := by omega
      have hno : ¬ 9223372036854775807 < 1 + t.length := by omega
      rw [← hd] at hand
      have hcv : (convert 24 9 (.slice (some ⟨wr.heap.size, 0, none⟩) 1 1)).run Tryd.prog (wr.alloc (.cells #[.int .u8 ((hexU d).toNat : Nat)] 5)) = .ok (.string ⟨[hexU d].toArray⟩) (wr.alloc (.cells #[.int .u8 ((hexU d).toNat : Nat)] 5)) :=
        run_convert_bytes_back (P := Tryd.prog) (wr.alloc (.cells #[.int .u8 ((hexU d).toNat : Nat)] 5)) 24 9 5 ⟨wr.heap.size, 0, none⟩ 1 [hexU d] Tryd.underlying24 Tryd.underlying5 Tryd.underlying9
          (fun j hj => by
            obtain rfl : j = 0 := by simpa using hj
            simp [Addr.add])
      obtain ⟨hu8, hhu⟩ : ∃ hu8 : Nat, hu8 = (hexU d).toNat := ⟨_, rfl⟩
      rw [← hhu] at hcv hdg
      have HD := Lib.hid hd
      clear hd hhu
      go_wp2
      go_roundw
      case rel => exact ⟨i + 1, u / 16, hexU d :: t, by omega, by go_num, by first | rfl | go_num, congrArg Value.string (rprK.str_cons _ _), hu2, by simp; omega, HN, Lib.hid (by have hB := HB.out; exact (by repeat' (first | (with_reducible assumption) | (with_reducible refine Below.setCell ?_ ?_ _) | (with_reducible refine Below.alloc ?_ ?_ _) | (with_reducible refine Below.drew ?_) | (with_reducible refine below_drewN ?_ _) | (with_reducible exact Below.refl _ _) | (show _ ≤ _; (try simp); (try omega); done) | exact Below.refl _ _ | assumption)))⟩
      case measure => simp [intOf]; omega
    · obtain rfl : i = n := by omega
      have HN : Hid (t = T) := Lib.hid (by have h := HE.out; rw [Nat.sub_self] at h; exact h)
      go_wp2
      go_ret
      exact ⟨by rw [← HN.out]; rfl, HB.out⟩
end dumpW
end Go.Proofs.YtpeeonfpmgddoaaDoor
