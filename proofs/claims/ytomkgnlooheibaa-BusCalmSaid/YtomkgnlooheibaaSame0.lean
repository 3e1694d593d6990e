/- Lists that agree so far: a plain law. -/
import Derived.Test.YtomkgnlooheibaaBase
import Derived.Test.YtomkgnlooheibaaProg
import Derived.Deep.QuietTactic
import Derived.BigQuiet
namespace Go.Proofs.Ytomkgnlooheibaa
open Go.RowKit Go.Bus
set_option linter.unusedVariables false
namespace sameW
theorem take_eq_succ {α : Type} {l m : List α} {k : Nat} (h1 : k < l.length) (h2 : k < m.length) (h : l.take k = m.take k) (he : l[k] = m[k]) : l.take (k + 1) = m.take (k + 1) := by
  rw [List.take_succ_eq_append_getElem h1, List.take_succ_eq_append_getElem h2, h, he]

end sameW
end Go.Proofs.Ytomkgnlooheibaa
