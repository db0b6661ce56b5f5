/- The laws' helpers on the struct Bind. Each answers what the plain function says and makes at most new blocks. No condition but lengths. -/
import Derived.Test.YtdlcbmhnagajdaaValS
import Derived.Test.YtdlcbmhnagajdaaVal2
import Derived.Test.YtdlcbmhnagajdaaStep
namespace Go.Proofs.Ytdlcbmhnagajdaa
open Go.RowKit
set_option maxRecDepth 100000
set_option maxHeartbeats 2000000

structure Bd where
  s : ByteArray
  v : Vl
deriving DecidableEq
def bC (a : Bd) : List Value := [.string a.s, .int .i64 a.v.k, .int .i64 a.v.n, .string a.v.s]
theorem bC_sz : Sz bC 4 := fun _ => rfl
def szB (a : Bd) : Nat := a.s.size + szOf a.v
def goodB (a : Bd) : Prop := a.s.size ≤ 9223372036854775807 ∧ a.v.s.size ≤ 9223372036854775807
def bC_0 : Bd := ⟨ByteArray.empty, ⟨0, 0, ByteArray.empty⟩⟩
end Go.Proofs.Ytdlcbmhnagajdaa
