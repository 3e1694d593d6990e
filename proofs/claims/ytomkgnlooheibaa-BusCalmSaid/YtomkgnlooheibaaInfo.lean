/- A byte's zero and size. -/
import Derived.Test.YtomkgnlooheibaaBase
import Derived.Test.YtomkgnlooheibaaProg
namespace Go.Proofs.Ytomkgnlooheibaa
open Go.RowKit Go.Bus
theorem Try.infoB : (Try.prog.info? 5).map (fun i => (i.zero, i.size, i.bytes)) = some (some (.int .u8 0), 1, 1) := by kernel_rfl
end Go.Proofs.Ytomkgnlooheibaa
