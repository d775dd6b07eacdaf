/- Walks that many topics share. -/
import Derived.Test.YtjnphdjblmognaaDoorRows
import Derived.Test.YtjnphdjblmognaaDoorBase
namespace Go.Proofs.YtjnphdjblmognaaDoor
open Go.RowKit

end Go.Proofs.YtjnphdjblmognaaDoor
