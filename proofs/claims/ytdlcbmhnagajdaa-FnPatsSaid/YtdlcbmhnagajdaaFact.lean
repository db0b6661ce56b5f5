/- Facts: the laws' helpers on them, and FactOk, SameFact, LessFact of the program and of the reference. Each answers what the plain function says and makes at most new blocks. No condition but lengths. -/
import Derived.Test.YtdlcbmhnagajdaaValS
import Derived.Test.YtdlcbmhnagajdaaLess
namespace Go.Proofs.Ytdlcbmhnagajdaa
open Go.RowKit
set_option maxRecDepth 100000
set_option maxHeartbeats 2000000

structure Ft where
  kd : ByteArray
  fs : List Vl
deriving DecidableEq
def factOk (f : Ft) : Bool := nameOk f.kd && (f.fs.all valOk && decide (f.fs.length ≤ 5))
def totF (f : Ft) : Nat := f.kd.size + totV f.fs
end Go.Proofs.Ytdlcbmhnagajdaa
