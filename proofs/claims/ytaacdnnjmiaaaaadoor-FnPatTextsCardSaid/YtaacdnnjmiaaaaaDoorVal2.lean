/- The size check of a value, in one form. No condition but lengths. -/
import Derived.Test.YtaacdnnjmiaaaaaDoorVal
import Derived.Test.YtaacdnnjmiaaaaaDoorStep
namespace Go.Proofs.YtaacdnnjmiaaaaaDoor
open Go.RowKit
end Go.Proofs.YtaacdnnjmiaaaaaDoor
