/- TokenOk of the program and of the reference. Each answers what the plain function says and makes at most new blocks. No condition but the text's length. -/
import Derived.Test.YtaacdnnjmiaaaaaDoorVar
import Derived.Test.YtaacdnnjmiaaaaaDoorVal
namespace Go.Proofs.YtaacdnnjmiaaaaaDoor
open Go.RowKit
set_option maxRecDepth 100000
set_option maxHeartbeats 2000000

def marks1 : List (List UInt8) := [[40], [41], [44], [46], [58], [45], [43], [61], [35], [60], [33], [95]]
def markOk (s : ByteArray) : Bool := s.toList == [45, 62] || marks1.any (fun m => s.toList == m)
def tokenOk (t : Vl) : Bool :=
  if t.k = 1 then inB t.n 0 1000000000 && decide (t.s.size = 0)
  else if t.k = 2 then decide (t.n = 0) && nameOk t.s
  else if t.k = 3 then decide (t.n = 0) && varOk t.s
  else if t.k = 4 then decide (t.n = 0) && word t.s 20
  else if t.k = 5 then decide (t.n = 0) && markOk t.s
  else false
end Go.Proofs.YtaacdnnjmiaaaaaDoor
