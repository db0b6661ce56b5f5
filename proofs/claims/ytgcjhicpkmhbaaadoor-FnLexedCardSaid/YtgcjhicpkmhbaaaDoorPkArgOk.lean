import Derived.Test.YtgcjhicpkmhbaaaDoorPkArg
import Derived.Test.YtgcjhicpkmhbaaaDoorVar
/- ArgOk, CondOk, ExprOk of the program and of the reference. Each answers what the plain function says and makes at most new blocks. No condition but lengths. -/
namespace Go.Proofs.YtgcjhicpkmhbaaaDoor
open Go.RowKit
set_option maxRecDepth 100000
set_option maxHeartbeats 2000000

def zV : Vl := ⟨0, 0, ByteArray.empty⟩
def argOk (a : Ag) : Bool := if a.k = 1 then varOk a.s && decide (a.v = zV) else if a.k = 2 then decide (a.s.size = 0) && valOk a.v else if a.k = 3 then decide (a.s.size = 0) && decide (a.v = zV) else false
theorem toList_nil (s : ByteArray) : s.toList = [] ↔ s.size = 0 := by
  rw [ByteArray.toList_eq, ← size_data]
  exact List.length_eq_zero_iff.symm
theorem zV_iff (k n : Int) (s : ByteArray) : decide ((⟨k, n, s⟩ : Vl) = zV) = (decide (k = 0) && (decide (n = 0) && decide (s.size = 0))) := by
  have h : s = ByteArray.empty ↔ s.size = 0 := by
    constructor
    · rintro rfl; rfl
    · intro h
      have := (str_eq s ByteArray.empty)
      rw [(toList_nil s).2 h] at this
      simpa [ByteArray.toList_eq] using this
  unfold zV
  simp only [Vl.mk.injEq, h]
  by_cases h1 : k = 0 <;> by_cases h2 : n = 0 <;> by_cases h3 : s.size = 0 <;> simp [h1, h2, h3]
end Go.Proofs.YtgcjhicpkmhbaaaDoor
