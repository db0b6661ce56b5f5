import Derived.Test.YtgcjhicpkmhbaaaDoorPkTokenS
/- The laws' comparison of two rows of tokens: of the same tokens it answers true. No condition but the length. -/
namespace Go.Proofs.YtgcjhicpkmhbaaaDoor
open Go.RowKit
set_option maxRecDepth 100000
set_option maxHeartbeats 4000000
theorem sameTokens_any (A1 A2 : Option Addr) (n c1 c2 : Nat) (l : List Vl) (w : World) (B1 B2 : Nat) (h1 : RdS vC 3 w B1 A1 n l) (h2 : RdS vC 3 w B2 A2 n l) (hn : n ≤ 1048576) :
    Calls Tryd.prog 16 #[.slice A1 n c1, .slice A2 n c2] w fun e w' => e = .returned (.bool true) ∧ Below w.heap.size w w' := by
  go_enter Tryd.func16, Tryd.ntmps16
  go_wp2
  go_loopw [5] (fun i wr => ∃ k m : Nat, k ≤ n ∧ i = .int .i64 k ∧ wr = w.drewN m) (fun i _ => n - (intOf i).toNat)
  case atStart => exact ⟨0, 0, Nat.zero_le _, rfl, rfl⟩
  case round =>
    obtain ⟨k, m, hk, rfl, rfl⟩ := hrel
    by_cases hlt : k < n
    · obtain ⟨b1, o1, rfl, hb1, hc1⟩ := h1.2.val (by omega)
      obtain ⟨b2, o2, rfl, hb2, hc2⟩ := h2.2.val (by omega)
      obtain ⟨ek, en, es, he, c0, c1, c2⟩ := hc1 k hlt
      obtain ⟨ek2, en2, es2, he2, c02, c12, c22⟩ := hc2 k hlt
      rw [he] at he2
      injection he2 with e1 e2 e3
      subst e1 e2 e3
      clear he hc1 hc2
      have hk0 : (0:Int) ≤ (k : Int) := by omega
      have hk1 : (k:Int) < (n : Int) := by omega
      go_wp2_with (go_quiet (fail))
      go_roundw
      case rel => exact ⟨k + 1, _, by omega, by go_num, rfl⟩
      case measure => simp [intOf]; omega
    · go_wp2
      go_ret
      exact ⟨rfl, bel_drewN (bel_refl _) _⟩
end Go.Proofs.YtgcjhicpkmhbaaaDoor
