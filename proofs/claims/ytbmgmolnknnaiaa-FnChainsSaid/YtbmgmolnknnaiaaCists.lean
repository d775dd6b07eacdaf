/- The helpers of the laws over slices of cisterns: copied, compared, counted. -/
import Derived.Test.YtbmgmolnknnaiaaCist2
import Derived.Test.YtbmgmolnknnaiaaPairs
import Derived.Deep.RegionHeld3
namespace Go.Proofs.Ytbmgmolnknnaiaa
open Go.RowKit

theorem info_cist : (Try.prog.info? 24).map (fun i => (i.zero, i.size, i.bytes)) = some (some (.agg #[.int .i64 0, .int .i64 0]), 2, 16) := by kernel_rfl
end Go.Proofs.Ytbmgmolnknnaiaa
