import Derived.Test.YtgcjhicpkmhbaaaDoorValS
import Derived.Test.YtgcjhicpkmhbaaaDoorStep
/- The laws' helpers on the struct Token. Each answers what the plain function says and makes at most new blocks. No condition but lengths. -/
namespace Go.Proofs.YtgcjhicpkmhbaaaDoor
open Go.RowKit
set_option maxRecDepth 100000
set_option maxHeartbeats 2000000

theorem eqToken_any (k : Int) (n : Int) (s : ByteArray) (k2 : Int) (n2 : Int) (s2 : ByteArray) (w : World) :
    Calls Tryd.prog 24 #[.agg #[.int .i64 k, .int .i64 n, .string s], .agg #[.int .i64 k2, .int .i64 n2, .string s2]] w fun e w' => e = .returned (.bool (decide ((⟨k, n, s⟩ : Vl) = ⟨k2, n2, s2⟩))) ∧ Below w.heap.size w w' := by
  go_enter Tryd.func24, Tryd.ntmps24
  go_wp2
  all_goals
    go_ret
    refine ⟨ret_bool ?_, (by repeat (first | with_reducible exact bel_refl _ | with_reducible assumption | with_reducible refine bel_set ?_ (by first | (simp; done) | (simp; omega) | omega) _ | with_reducible refine bel_alloc ?_ _ | with_reducible refine bel_drew ?_ | with_reducible refine bel_drewN ?_ _ | with_reducible refine bel_trans ?_ (by assumption)))⟩
    simp_all [str_eq]
end Go.Proofs.YtgcjhicpkmhbaaaDoor
