/- Marking and holding a Fact. No condition but lengths. -/
import Derived.Test.YtcbbefibebkfgaaDoorFact
import Derived.Test.YtcbbefibebkfgaaDoorValM
namespace Go.Proofs.YtcbbefibebkfgaaDoor
open Go.RowKit
set_option maxRecDepth 100000
set_option maxHeartbeats 2000000

theorem markFact_any (kd : ByteArray) (A : Option Addr) (n c : Nat) (xs : List Vl) (K : Int) (k0 : Nat) (w : World) (base : Nat) (ho : OwnT vC 3 w base 33 (.slice A n c) xs) (hl : xs.length = n) (hK : K = k0) (hn : n ≤ 1048576) (hk0 : k0 ≤ 70368744177) :
    Calls Tryd.prog 7 #[.agg #[.string kd, .slice A n c], .int .i64 K] w fun e w' => e = .returned (.int .i64 ((k0 + 3 * n : Nat) : Int)) ∧ OwnT vC 3 w' base 33 (.slice A n c) (marksVal k0 n) ∧ w.grownBy w' (Value.ownBlock (.slice A n c)) := by
  subst hK
  go_enter Tryd.func7, Tryd.ntmps7
  go_wp2_with fail
  refine (markValS_any A n c xs _ k0 _ base (ho.alloc _) hl rfl hn hk0).mono ?_
  rintro e w' ⟨rfl, ho', hg⟩
  go_wp2
  go_ret
  exact ⟨ret_int rfl, ho', World.grownBy.trans (World.grownBy_alloc w _ _) hg⟩
theorem heldFact_any (kd : ByteArray) (A : Option Addr) (c n : Nat) (K : Int) (k0 : Nat) (w : World) (B : Nat) (hr : RdS vC 3 w B A n (marksVal k0 n)) (hK : K = k0) (hn : n ≤ 1048576) (hk0 : k0 ≤ 70368744177) :
    Calls Tryd.prog 8 #[.agg #[.string kd, .slice A n c], .int .i64 K] w fun e w' => e = .returned (.int .i64 ((k0 + 3 * n : Nat) : Int)) ∧ Below w.heap.size w w' := by
  subst hK
  go_enter Tryd.func8, Tryd.ntmps8
  go_wp2_with fail
  refine (heldValS_any A c n _ k0 _ _ (hr.alloc _) rfl hn hk0).mono ?_
  rintro e w' ⟨rfl, hb⟩
  go_wp2
  go_ret
  exact ⟨ret_int rfl, (by repeat (first | with_reducible exact bel_refl _ | with_reducible assumption | with_reducible refine bel_set ?_ (by first | (simp; done) | (simp; omega) | omega) _ | with_reducible refine bel_alloc ?_ _ | with_reducible refine bel_drew ?_ | with_reducible refine bel_drewN ?_ _ | with_reducible refine bel_trans ?_ (by assumption)))⟩
end Go.Proofs.YtcbbefibebkfgaaDoor
