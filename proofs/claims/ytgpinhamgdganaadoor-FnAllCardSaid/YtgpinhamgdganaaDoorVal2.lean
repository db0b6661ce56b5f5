/- The size check of a value, in one form. No condition but lengths. -/
import Derived.Test.YtgpinhamgdganaaDoorVal
import Derived.Test.YtgpinhamgdganaaDoorStep
namespace Go.Proofs.YtgpinhamgdganaaDoor
open Go.RowKit
end Go.Proofs.YtgpinhamgdganaaDoor
