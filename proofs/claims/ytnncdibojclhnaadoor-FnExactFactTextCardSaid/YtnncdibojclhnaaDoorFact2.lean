/- SameFact and LessFact of the program and of the reference. Each answers what the plain function says and makes at most new blocks. No condition but lengths. -/
import Derived.Test.YtnncdibojclhnaaDoorFact
namespace Go.Proofs.YtnncdibojclhnaaDoor
open Go.RowKit
set_option maxRecDepth 100000
set_option maxHeartbeats 2000000

theorem vl_eq {x y x2 y2 : Int} {s s2 : ByteArray} (h1 : x = x2) (h2 : y = y2) (h3 : s.toList = s2.toList) : Vl.mk x y s = Vl.mk x2 y2 s2 := by
  have := str_eq s s2
  simp_all
end Go.Proofs.YtnncdibojclhnaaDoor
