/- The helpers of the laws over slices of numbers: copied, compared, marked, asked for their marks. -/
import Derived.Test.YtbmgmolnknnaiaaRows
import Derived.Test.YtbmgmolnknnaiaaBase
namespace Go.Proofs.Ytbmgmolnknnaiaa
open Go.RowKit

theorem info_int : (Try.prog.info? 3).map (fun i => (i.zero, i.size, i.bytes)) = some (some (.int .i64 0), 1, 8) := by kernel_rfl

end Go.Proofs.Ytbmgmolnknnaiaa
