/- What the library's table of powers of ten holds. No condition. -/
import Derived.Test.YtgcjhicpkmhbaaaDoorChecked
import Derived.Lib.LaidTab
import Derived.Lib.AppendIntMem
namespace Go.Proofs.YtgcjhicpkmhbaaaDoor
open Go Go.RowKit
def TabT (w : World) : Prop := Lib.TabIs Tryd.prog w "internal/strconv.uint64pow10" .u64 Lib.pow10Tab
theorem TabT.kept {w w' : World} (h : TabT w) (hb : Below w.heap.size w w') : TabT w' := Lib.tabBelow_of_tabIs h w' hb
end Go.Proofs.YtgcjhicpkmhbaaaDoor
