/- The laws' helpers on bytes, said for the walks of the exact laws. No condition but lengths. -/
import Derived.Test.YtpejngdcbhbchaaBy
import Derived.Test.YtpejngdcbhbchaaStep
namespace Go.Proofs.Ytpejngdcbhbchaa
open Go.RowKit
set_option maxRecDepth 100000
set_option maxHeartbeats 2000000

theorem toByteS_b (A : Option Addr) (n c : Nat) (bs : List UInt8) (w : World) (B : Nat) (hr : RdY w B A n bs) (hn : n ≤ 70368744177664) :
    Calls Try.prog 9 #[.slice A n c] w fun e w' => ∃ v', e = .returned v' ∧ OwnB w' w.heap.size 5 v' bs ∧ Below w.heap.size w w' :=
  (toByteS_any A n c bs w B hr.2 hr.1 hn).mono fun _ _ ⟨v, h1, h2, h3, _⟩ => ⟨v, h1, h2, h3⟩
theorem eqByteS_b (A1 A2 : Option Addr) (n1 c1 n2 c2 : Nat) (l1 l2 : List UInt8) (w : World) (B B2 : Nat) (h1 : RdY w B A1 n1 l1) (h2 : RdY w B2 A2 n2 l2) (hn : n1 ≤ 4611686018427387904) :
    Calls Try.prog 12 #[.slice A1 n1 c1, .slice A2 n2 c2] w fun e w' => e = .returned (.bool (decide (l1 = l2))) ∧ Below w.heap.size w w' :=
  (eqByteS_any A1 A2 n1 c1 n2 c2 l1 l2 w w.heap.size (h1.2.more h1.1) (h2.2.more h2.1) hn).mono fun _ _ ⟨h, m, hm⟩ => ⟨h, by rw [hm]; exact bel_drewN (bel_refl _) m⟩
theorem markByteS_b (A : Option Addr) (c : Nat) (bs : List UInt8) (K : Int) (k0 : Nat) (w : World) (base : Nat) (ho : OwnB w base 5 (.slice A bs.length c) bs) (hK : K = k0) (hn : bs.length ≤ 70368744177664) (hk0 : k0 ≤ 70368744177664) :
    Calls Try.prog 14 #[.slice A bs.length c, .int .i64 K] w fun e w' => e = .returned (.int .i64 ((k0 + 1 * bs.length : Nat) : Int)) ∧ OwnB w' base 5 (.slice A bs.length c) (marksB k0 bs.length) ∧ w.grownBy w' (Value.ownBlock (.slice A bs.length c)) :=
  (markByteS_any (.slice A bs.length c) bs K k0 hK w base ho hn hk0).mono fun e w' ⟨h1, h2, h3⟩ => ⟨by rw [h1, Nat.one_mul], h2, h3⟩
theorem heldByteS_b (A : Option Addr) (c n : Nat) (K : Int) (k0 : Nat) (w : World) (B : Nat) (hr : RdY w B A n (marksB k0 n)) (hK : K = k0) (hn : n ≤ 70368744177664) (hk0 : k0 ≤ 70368744177664) :
    Calls Try.prog 16 #[.slice A n c, .int .i64 K] w fun e w' => e = .returned (.int .i64 ((k0 + 1 * n : Nat) : Int)) ∧ Below w.heap.size w w' :=
  (heldByteS_any A n c K k0 hK w B hr.2 hn hk0).mono fun e w' ⟨h1, h2⟩ => ⟨by rw [h1, Nat.one_mul], by rw [h2]; exact bel_refl _⟩
end Go.Proofs.Ytpejngdcbhbchaa
