/- Marking and holding a Pat. No condition but lengths. -/
import Derived.Test.YtjlfllnjbdddaaaPat
import Derived.Test.YtjlfllnjbdddaaaArgM
namespace Go.Proofs.Ytjlfllnjbdddaaa
open Go.RowKit
set_option maxRecDepth 100000
set_option maxHeartbeats 2000000

theorem markPat_any (kd : ByteArray) (A : Option Addr) (n c : Nat) (xs : List Ag) (no : Bool) (K : Int) (k0 : Nat) (w : World) (base : Nat) (ho : OwnT aC 5 w base 30 (.slice A n c) xs) (hl : xs.length = n) (hK : K = k0) (hn : n ≤ 1048576) (hk0 : k0 ≤ 70368744177) :
    Calls Try.prog 33 #[.agg #[.string kd, .slice A n c, .bool no], .int .i64 K] w fun e w' => e = .returned (.int .i64 ((k0 + 5 * n : Nat) : Int)) ∧ OwnT aC 5 w' base 30 (.slice A n c) (marksArg k0 n) ∧ w.grownBy w' (Value.ownBlock (.slice A n c)) := by
  subst hK
  go_enter Try.func33, Try.ntmps33
  go_wp2_with fail
  refine (markArgS_any A n c xs _ k0 _ base (ho.alloc _) hl rfl hn hk0).mono ?_
  rintro e w' ⟨rfl, ho', hg⟩
  go_wp2
  go_ret
  exact ⟨ret_int rfl, ho', World.grownBy.trans (World.grownBy_alloc w _ _) hg⟩
end Go.Proofs.Ytjlfllnjbdddaaa
