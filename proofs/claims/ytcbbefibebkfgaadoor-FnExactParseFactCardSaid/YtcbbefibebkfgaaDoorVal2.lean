/- The size check of a value, in one form. No condition but lengths. -/
import Derived.Test.YtcbbefibebkfgaaDoorVal
import Derived.Test.YtcbbefibebkfgaaDoorStep
namespace Go.Proofs.YtcbbefibebkfgaaDoor
open Go.RowKit
end Go.Proofs.YtcbbefibebkfgaaDoor
