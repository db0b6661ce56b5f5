import Derived.Test.YtgcjhicpkmhbaaaDoorValS
import Derived.Test.YtgcjhicpkmhbaaaDoorStep
/- The laws' helpers on the struct Arg. Each answers what the plain function says and makes at most new blocks. No condition but lengths. -/
namespace Go.Proofs.YtgcjhicpkmhbaaaDoor
open Go.RowKit
set_option maxRecDepth 100000
set_option maxHeartbeats 2000000

structure Ag where
  k : Int
  s : ByteArray
  v : Vl
deriving DecidableEq
def aC (a : Ag) : List Value := [.int .i64 a.k, .string a.s, .int .i64 a.v.k, .int .i64 a.v.n, .string a.v.s]
theorem aC_sz : Sz aC 5 := fun _ => rfl
def szA (a : Ag) : Nat := a.s.size + szOf a.v
def goodA (a : Ag) : Prop := a.s.size ≤ 9223372036854775807 ∧ a.v.s.size ≤ 9223372036854775807
def aC_0 : Ag := ⟨0, ByteArray.empty, ⟨0, 0, ByteArray.empty⟩⟩
end Go.Proofs.YtgcjhicpkmhbaaaDoor
