import Derived.Test.YtgcjhicpkmhbaaaDoorPkArg
import Derived.Test.YtgcjhicpkmhbaaaDoorRow
/- The laws' helpers on the struct Cond. Each answers what the plain function says and makes at most new blocks. No condition but lengths. -/
namespace Go.Proofs.YtgcjhicpkmhbaaaDoor
open Go.RowKit
set_option maxRecDepth 100000
set_option maxHeartbeats 2000000

structure Cd where
  op : Int
  l : Ag
  r : Ag
deriving DecidableEq
def cC (a : Cd) : List Value := [.int .i64 a.op, .int .i64 a.l.k, .string a.l.s, .int .i64 a.l.v.k, .int .i64 a.l.v.n, .string a.l.v.s, .int .i64 a.r.k, .string a.r.s, .int .i64 a.r.v.k, .int .i64 a.r.v.n, .string a.r.v.s]
theorem cC_sz : Sz cC 11 := fun _ => rfl
def szC (a : Cd) : Nat := szA a.l + szA a.r
def goodC (a : Cd) : Prop := a.l.s.size ≤ 9223372036854775807 ∧ a.l.v.s.size ≤ 9223372036854775807 ∧ a.r.s.size ≤ 9223372036854775807 ∧ a.r.v.s.size ≤ 9223372036854775807
def cC_0 : Cd := ⟨0, ⟨0, ByteArray.empty, ⟨0, 0, ByteArray.empty⟩⟩, ⟨0, ByteArray.empty, ⟨0, 0, ByteArray.empty⟩⟩⟩
end Go.Proofs.YtgcjhicpkmhbaaaDoor
