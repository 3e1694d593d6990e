/- A row on the wire: stuffed, with ten ones behind it. Plain. -/
import Derived.Test.YtomkgnlooheibaaStuffLaw
import Derived.Test.YtomkgnlooheibaaBitLaw
namespace Go.Bus.decK
open Go.RowKit Go.Bus.bitK Go.Bus.stuffK
set_option linter.unusedVariables false
/-- A row, stuffed, with ten ones behind it. -/
def onF (l : List Bool) : List Bool := stuffF l ++ msb 1023 10
theorem onF_length (l : List Bool) : (onF l).length = (stuffF l).length + 10 := by unfold onF; rw [List.length_append, msb_length]
end Go.Bus.decK
