/- The size check of a value, in one form. No condition but lengths. -/
import Derived.Test.YtdlcbmhnagajdaaVal
import Derived.Test.YtdlcbmhnagajdaaStep
namespace Go.Proofs.Ytdlcbmhnagajdaa
open Go.RowKit
end Go.Proofs.Ytdlcbmhnagajdaa
