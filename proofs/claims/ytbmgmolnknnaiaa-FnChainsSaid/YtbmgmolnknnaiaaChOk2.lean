/- Whether a chain is in order: the model's walk. -/
import Derived.Test.YtbmgmolnknnaiaaChOk
namespace Go.Proofs.Ytbmgmolnknnaiaa
open Go.RowKit

end Go.Proofs.Ytbmgmolnknnaiaa
