/- What the bound of a '..UptoSaid' gives: a slice is no longer than it. -/
import Derived.Test.YtdibfkcddcjiiaaRows
namespace Go.Proofs.Ytdibfkcddcjiiaa.bulkK
theorem pos {H : Type} (d : DataW H) : 1 ≤ Rows.uptoBulk d := by
  cases d with
  | lit l => cases l <;> simp [Rows.uptoBulk]
  | _ => simp [Rows.uptoBulk]
theorem count {H : Type} (l : List (DataW H)) : l.length ≤ Rows.uptoBulkAll l := by
  induction l with
  | nil => exact Nat.zero_le _
  | cons x r ih => have := pos x; simp only [Rows.uptoBulkAll, List.length_cons]; omega
theorem one_of {H : Type} {d : DataW H} {l : List (DataW H)} (h : d ∈ l) : Rows.uptoBulk d ≤ Rows.uptoBulkAll l := by
  induction l with
  | nil => cases h
  | cons x r ih =>
    simp only [Rows.uptoBulkAll]
    rcases List.mem_cons.1 h with e | e
    · rw [e]; omega
    · have := ih e; omega
theorem slice_len {H : Type} {l : List (DataW H)} (hk : Rows.uptoSmall H l = true) {d : DataW H} (hd : d ∈ l) {n : Nat} (h : n = 0 ∨ ∃ es sp, d = .slice es sp ∧ es.length = n) : n ≤ 1048576 := by
  have hb : Rows.uptoBulkAll l ≤ 1048576 := by simpa [Rows.uptoSmall] using hk
  rcases h with h | ⟨es, sp, rfl, hn⟩
  · omega
  · have h1 := one_of hd
    have h2 := count es
    simp only [Rows.uptoBulk] at h1
    omega
end Go.Proofs.Ytdibfkcddcjiiaa.bulkK
