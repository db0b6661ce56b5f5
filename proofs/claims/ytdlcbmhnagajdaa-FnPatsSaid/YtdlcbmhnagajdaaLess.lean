/- The order of values in the program: cmp.Compare, cmp.Or, compareVals, LessVal. Each answers what the plain function says and makes at most new blocks. No condition. -/
import Derived.Test.YtdlcbmhnagajdaaVal
namespace Go.Proofs.Ytdlcbmhnagajdaa
open Go.RowKit
set_option maxRecDepth 100000
set_option maxHeartbeats 2000000

theorem lessV_cmp (a b : Vl) : decide (cmpV a b < 0) = lessV a b := by
  have hs : decide (cmpS a.s b.s < 0) = lessS a.s b.s := by
    unfold cmpS
    cases lessS a.s b.s <;> simp
    cases lessS b.s a.s <;> simp
  unfold cmpV or3 lessV cmpI
  by_cases h1 : a.k < b.k
  · simp [h1]; exact .inl (by omega)
  · by_cases h2 : b.k < a.k
    · simp [h1, h2]; try omega
    · have e : a.k = b.k := by omega
      by_cases h3 : a.n < b.n
      · simp [e, h3]; try omega
      · by_cases h4 : b.n < a.n
        · simp [e, h3, h4]; try omega
        · have e2 : a.n = b.n := by omega
          simp [e, e2, hs]
end Go.Proofs.Ytdlcbmhnagajdaa
