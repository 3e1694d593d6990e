/- Message and Table: zero, cells, bytes. Closed facts. -/
import Derived.Test.YtoekdlipaomniaaDoorBase
import Derived.Test.YtoekdlipaomniaaDoorProg
namespace Go.Proofs.YtoekdlipaomniaaDoor
open Go.RowKit Go.Bus
theorem Tryd.infoEMsg : (Tryd.prog.info? 74).map (fun i => (i.zero, i.size, i.bytes)) = some (some (.agg #[.int .i64 0, .int .i64 0, .int .u32 0, .bool false, .string ByteArray.empty, .int .i64 0, .string ByteArray.empty, .slice none 0 0]), 8, 88) := by kernel_rfl
theorem Tryd.infoETab : (Tryd.prog.info? 77).map (fun i => (i.zero, i.size, i.bytes)) = some (some (.agg #[.int .i64 0, .int .i64 0, .int .u32 0, .bool false, .string ByteArray.empty, .slice none 0 0]), 6, 64) := by kernel_rfl
end Go.Proofs.YtoekdlipaomniaaDoor
