/- CondOk, ExprOk of the program and of the reference. Each answers what the plain function says and makes at most new blocks. No condition but lengths. -/
import Derived.Test.YtaacdnnjmiaaaaaDoorArgOk
import Derived.Test.YtaacdnnjmiaaaaaDoorCond
import Derived.Test.YtaacdnnjmiaaaaaDoorExpr
namespace Go.Proofs.YtaacdnnjmiaaaaaDoor
open Go.RowKit
set_option maxRecDepth 100000
set_option maxHeartbeats 2000000

def termOk (a : Ag) : Bool := decide (a.k ≠ 3) && argOk a
def condOk (c : Cd) : Bool := inB c.op 1 3 && (termOk c.l && termOk c.r)
end Go.Proofs.YtaacdnnjmiaaaaaDoor
