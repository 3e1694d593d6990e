/- What the rows' listed variables give the walks: errors.errorType's handle, the table of powers of ten, strconv's two sentinels; and how each fact lasts. -/
import Derived.Test.YtbhhfdajaoemnaaDoorRows
import Derived.Test.YtbhhfdajaoemnaaDoorBase
import Derived.Test.YtbhhfdajaoemnaaDoorProg
import Derived.KernelRfl
import Derived.LaidLaws
import Derived.LaidHandle
import Derived.LaidSub
import Derived.LaidMore
import Derived.Lib.LaidTab
import Derived.Lib.ItoaNum
import Derived.Stop.LaidErr
import Derived.Stop.Joined
namespace Go.Proofs.YtbhhfdajaoemnaaDoor
open Go.RowKit Go.Bus Go.Extern.Stop Go.Stop Go.Extern
set_option linter.unusedVariables false
namespace laidK
theorem var_below {B : Nat} {w w' : World} {n : String} {cs : Array Value} (h : w.var? Tryd.prog n = some cs) (hb : Below B w w') (hB : ∀ g, Tryd.prog.globalNamed n = some g → g < B) : w'.var? Tryd.prog n = some cs := by
  unfold World.var? at *
  cases hg : Tryd.prog.globalNamed n with
  | none => simp [hg] at h
  | some g =>
    simp only [hg, Option.bind_some] at h ⊢
    rw [hb.block g (hB g hg)]
    exact h

theorem gT : Tryd.prog.globalNamed "internal/strconv.uint64pow10" = some 0 := by kernel_rfl
theorem tab_of_laid {l : List (String × DataW Unit)} {W : World} (h : laidMetH Tryd.prog l W) (hl : l.filter (fun x => x.1 == "internal/strconv.uint64pow10") = [("internal/strconv.uint64pow10", Rows.laid_internal_strconv_uint64pow10)]) : Lib.TabIs Tryd.prog W "internal/strconv.uint64pow10" .u64 Lib.pow10Tab := by
  have h1 := h.filter (fun x => x.1 == "internal/strconv.uint64pow10")
  rw [hl] at h1
  have h' : laidMet Tryd.prog [("internal/strconv.uint64pow10", Lib.tabData .u64 Lib.pow10Tab)] W := h1
  exact Lib.tabIs_of_head gT (t := 100) (e := 29) (n := 20) (by kernel_rfl) Tryd.underlying100 Tryd.underlying29 (by kernel_rfl) (by kernel_rfl) h'
theorem star : "*" ++ "errors.errorString" = "*errors.errorString" := by decide
theorem rowES (u : TypeId) (h : Tryd.prog.typeName? 3 u = some "*errors.errorString") : u = 143 :=
  typeName_ptr_named (nm := "errors.errorString") (by rw [star]; kernel_rfl) (by kernel_rfl) (by decide) u (by rw [star]; exact h)
theorem gR : Tryd.prog.globalNamed "strconv.ErrRange" = some 4 := by kernel_rfl
/-- The variable strconv.ErrRange holds an error. -/
def Rng (w : World) : Prop := ∃ tp p, w.var? Tryd.prog "strconv.ErrRange" = some #[.iface tp p]
theorem rng_of_laid {l : List (String × DataW Unit)} {W : World} (h : laidMetH Tryd.prog l W) (hl : l.filter (fun x => x.1 == "strconv.ErrRange") = [("strconv.ErrRange", Rows.laid_strconv_ErrRange)]) : Rng W := by
  have h1 := h.filter (fun x => x.1 == "strconv.ErrRange")
  rw [hl] at h1
  have h' : laidMet Tryd.prog [("strconv.ErrRange", Rows.laid_strconv_ErrRange)] W := h1
  obtain ⟨a0, s0, hv0, -, -, -⟩ := laid_sentinel h' gR (ti := 26) (by kernel_rfl) Tryd.underlying26 rowES Tryd.underlying143 Tryd.underlying145 rfl rfl Tryd.underlying9 (by kernel_rfl) (by kernel_rfl)
  exact ⟨_, _, hv0⟩
theorem Rng.at_below {w w' : World} (h : Rng w) (hb : Below w.heap.size w w') : Rng w' := by
  obtain ⟨tp, p, hv⟩ := h
  have hc := World.var?_cell gR hv 0
  exact ⟨tp, p, var_below hv hb (fun g hg => by rw [gR] at hg; obtain rfl := Option.some.inj hg; exact World.block_lt_of_cell? w ⟨4, 0, none⟩ (show w.cell? ⟨4, 0, none⟩ = some (.iface tp p) by simpa using hc))⟩
end laidK
end Go.Proofs.YtbhhfdajaoemnaaDoor
