/- What the dump's rows' listed variables give the walks: the table of bits.TrailingZeros64. -/
import Derived.Test.YtbhhfdajaoemnaaDoorRows
import Derived.Test.YtbhhfdajaoemnaaDoorFmt16
import Derived.LaidLaws
import Derived.LaidHandle
import Derived.LaidSub
import Derived.LaidMore
import Derived.Lib.LaidTab
namespace Go.Proofs.YtbhhfdajaoemnaaDoor
open Go.RowKit Go.Bus Go.Extern.Stop Go.Stop Go.Extern
set_option linter.unusedVariables false
namespace laidD
def tzTab : List Int := [0, 1, 56, 2, 57, 49, 28, 3, 61, 58, 42, 50, 38, 29, 17, 4, 62, 47, 59, 36, 45, 43, 51, 22, 53, 39, 33, 30, 24, 18, 12, 5, 63, 55, 48, 27, 60, 41, 37, 16, 46, 35, 44, 21, 52, 32, 23, 11, 54, 26, 40, 15, 34, 20, 31, 10, 25, 14, 19, 9, 13, 8, 7, 6]
theorem gTz : Tryd.prog.globalNamed "math/bits.deBruijn64tab" = some 6 := by kernel_rfl
theorem tz_of_laid {l : List (String × DataW Unit)} {W : World} (h : laidMetH Tryd.prog l W) (hl : l.filter (fun x => x.1 == "math/bits.deBruijn64tab") = [("math/bits.deBruijn64tab", Rows.laid_math_bits_deBruijn64tab)]) : hexW.Tz W := by
  have h1 := h.filter (fun x => x.1 == "math/bits.deBruijn64tab")
  rw [hl] at h1
  have h' : laidMet Tryd.prog [("math/bits.deBruijn64tab", Lib.tabData .u8 tzTab)] W := h1
  have h2 := Lib.tabIs_of_head gTz (t := 134) (e := 5) (n := 64) (by kernel_rfl) Tryd.underlying134 Tryd.underlying5 (by kernel_rfl) (by kernel_rfl) h'
  exact h2.cell gTz 15 (by decide)
end laidD
end Go.Proofs.YtbhhfdajaoemnaaDoor
