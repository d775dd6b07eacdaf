/- Walks that many topics share. -/
import Derived.Test.YtjnphdjblmognaaRows
import Derived.Test.YtjnphdjblmognaaBase
namespace Go.Proofs.Ytjnphdjblmognaa
open Go.RowKit

end Go.Proofs.Ytjnphdjblmognaa
