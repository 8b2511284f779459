/- Walks: the copies, sizes and comparisons of the exact laws on spans. Conditions: none. -/
import Derived.Test.YtdofpealmngmiaaGreatDoorWA
import Derived.StillTailTactics
namespace Go.Proofs.YtdofpealmngmiaaGreatDoor
open Go.RowKit

theorem Tryz.info25 : (Tryz.prog.info? 25).map (fun i => (i.zero, i.size, i.bytes)) = some (some (.agg #[.int .i64 0, .int .i64 0]), 2, 16) := by kernel_rfl

end Go.Proofs.YtdofpealmngmiaaGreatDoor
