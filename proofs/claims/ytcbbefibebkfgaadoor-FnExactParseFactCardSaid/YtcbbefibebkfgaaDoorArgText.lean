/- Texts of arguments, of the program and of the reference. Each answers what the plain function says and makes at most new blocks. Conditions: lengths; an argument that is a value is right; the library's table of powers of ten is as its text lays it. -/
import Derived.Test.YtcbbefibebkfgaaDoorValText
import Derived.Test.YtcbbefibebkfgaaDoorArgOk
namespace Go.Proofs.YtcbbefibebkfgaaDoor
open Go.RowKit
set_option maxRecDepth 100000
set_option maxHeartbeats 4000000
def argText (a : Ag) : ByteArray := if a.k = 1 then a.s else if a.k = 2 then rawText a.v else ⟨#[95]⟩
theorem argOk_val {k : Int} {s : ByteArray} {v : Vl} (h : argOk ⟨k, s, v⟩ = true) (hk : k = 2) : valOk v = true := by
  subst hk
  simp [argOk] at h
  exact h.2
end Go.Proofs.YtcbbefibebkfgaaDoor
