/- CircleIn of the model, walked. -/
import Derived.Test.YtbmgmolnknnaiaaCirc1
namespace Go.Proofs.Ytbmgmolnknnaiaa
open Go.RowKit

end Go.Proofs.Ytbmgmolnknnaiaa
