/- Patterns: the laws' helpers on them, and PatOk of the program and of the reference. Each answers what the plain function says and makes at most new blocks. No condition but lengths. -/
import Derived.Test.YtdlcbmhnagajdaaArgS
import Derived.Test.YtdlcbmhnagajdaaArgOk
namespace Go.Proofs.Ytdlcbmhnagajdaa
open Go.RowKit
set_option maxRecDepth 100000
set_option maxHeartbeats 2000000

structure Pt where
  kd : ByteArray
  fs : List Ag
  no : Bool
deriving DecidableEq
def patOk (p : Pt) : Bool := nameOk p.kd && (p.fs.all argOk && decide (p.fs.length ≤ 5))
def totP (f : Pt) : Nat := f.kd.size + totA f.fs
end Go.Proofs.Ytdlcbmhnagajdaa
