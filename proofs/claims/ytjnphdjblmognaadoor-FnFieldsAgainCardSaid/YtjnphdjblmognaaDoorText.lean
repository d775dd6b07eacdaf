/- The helpers of the laws over slices of strings: compared, marked, asked for their marks. -/
import Derived.Test.YtjnphdjblmognaaDoorVals
import Derived.Test.YtjnphdjblmognaaDoorHex
import Derived.Test.YtjnphdjblmognaaDoorLex
namespace Go.Proofs.YtjnphdjblmognaaDoor
open Go.RowKit

theorem str_ne {a b : ByteArray} (h : ¬ a = b) : (a.toList == b.toList) = false := by
  rw [ByteArray.toList_eq, ByteArray.toList_eq]
  cases e : a.data.toList == b.data.toList
  · rfl
  · exact absurd (Go.WideShapes.bytes_inj (by simpa using e)) h
theorem info_str : (Tryd.prog.info? 9).map (fun i => (i.zero, i.size, i.bytes)) = some (some (.string ByteArray.empty), 1, 16) := by kernel_rfl
end Go.Proofs.YtjnphdjblmognaaDoor
