/- The size check of a value, in one form. No condition but lengths. -/
import Derived.Test.YtnncdibojclhnaaDoorVal
import Derived.Test.YtnncdibojclhnaaDoorStep
namespace Go.Proofs.YtnncdibojclhnaaDoor
open Go.RowKit
theorem szVal_any (k n : Int) (s : ByteArray) (left : Int) (w : World) (hs : s.size ≤ 9223372036854775807) (h0 : 0 ≤ left) (h1 : left ≤ 1048576) :
    Calls Tryd.prog 9 #[.agg #[.int .i64 k, .int .i64 n, .string s], .int .i64 left] w fun e w' => e = .returned (.int .i64 (szR left s.size)) ∧ Below w.heap.size w w' := by
  by_cases h : (s.size : Int) ≤ left
  · rw [szR_fit h]; exact szVal_fit k n s left w h1 h
  · rw [szR_big (by omega)]; exact szVal_big k n s left w hs h0 h1 (by omega)
end Go.Proofs.YtnncdibojclhnaaDoor
