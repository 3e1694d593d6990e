/- A byte's zero and size. -/
import Derived.Test.YtbhhfdajaoemnaaDoorBase
import Derived.Test.YtbhhfdajaoemnaaDoorProg
namespace Go.Proofs.YtbhhfdajaoemnaaDoor
open Go.RowKit Go.Bus
theorem Tryd.infoB : (Tryd.prog.info? 5).map (fun i => (i.zero, i.size, i.bytes)) = some (some (.int .u8 0), 1, 1) := by kernel_rfl
end Go.Proofs.YtbhhfdajaoemnaaDoor
