/- Marking and holding a Fact. No condition but lengths. -/
import Derived.Test.YtndhjijcicebkaaFact
import Derived.Test.YtndhjijcicebkaaValM
namespace Go.Proofs.Ytndhjijcicebkaa
open Go.RowKit
set_option maxRecDepth 100000
set_option maxHeartbeats 2000000

theorem markFact_any (kd : ByteArray) (A : Option Addr) (n c : Nat) (xs : List Vl) (K : Int) (k0 : Nat) (w : World) (base : Nat) (ho : OwnT vC 3 w base 90 (.slice A n c) xs) (hl : xs.length = n) (hK : K = k0) (hn : n ≤ 1048576) (hk0 : k0 ≤ 70368744177) :
    Calls Try.prog 17 #[.agg #[.string kd, .slice A n c], .int .i64 K] w fun e w' => e = .returned (.int .i64 ((k0 + 3 * n : Nat) : Int)) ∧ OwnT vC 3 w' base 90 (.slice A n c) (marksVal k0 n) ∧ w.grownBy w' (Value.ownBlock (.slice A n c)) := by
  subst hK
  go_enter Try.func17, Try.ntmps17
  go_wp2_with fail
  refine (markValS_any A n c xs _ k0 _ base (ho.alloc _) hl rfl hn hk0).mono ?_
  rintro e w' ⟨rfl, ho', hg⟩
  go_wp2
  go_ret
  exact ⟨ret_int rfl, ho', World.grownBy.trans (World.grownBy_alloc w _ _) hg⟩
end Go.Proofs.Ytndhjijcicebkaa
