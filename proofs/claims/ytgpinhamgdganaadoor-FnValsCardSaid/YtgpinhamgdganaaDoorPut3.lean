/- PutNum, PutText of the reference: each answers a slice of its own that holds what the plain function says. No condition but lengths. -/
import Derived.Test.YtgpinhamgdganaaDoorPut2
namespace Go.Proofs.YtgpinhamgdganaaDoor
open Go.RowKit
set_option maxRecDepth 100000
set_option maxHeartbeats 2000000

theorem enc_cases2 (n : Int) : (n < -1000000000 ∧ (encN n : Int) = 1999999999) ∨ (-1000000000 ≤ n ∧ n < 0 ∧ (encN n : Int) = -2 * n - 1) ∨ (0 ≤ n ∧ n ≤ 1000000000 ∧ (encN n : Int) = 2 * n) ∨ (1000000000 < n ∧ (encN n : Int) = 2000000000) := by
  by_cases h1 : n < -1000000000
  · exact .inl ⟨h1, enc1 n h1⟩
  · by_cases h2 : n < 0
    · exact .inr (.inl ⟨by omega, h2, enc2 n (by omega) h2⟩)
    · by_cases h3 : n ≤ 1000000000
      · exact .inr (.inr (.inl ⟨by omega, h3, enc3 n (by omega) h3⟩))
      · exact .inr (.inr (.inr ⟨by omega, enc4 n (by omega)⟩))
theorem or_128 (k : Nat) (hk : k < 9223372036854775808) : bits BinOp.or IntKind.i64 (bits BinOp.and IntKind.i64 (k : Int) 127) 128 = 128 + (k : Int) % 128 := by
  have ha : bits BinOp.and IntKind.i64 (k : Int) 127 = ((k % 128 : Nat) : Int) := by
    have h := i64_and_nat k 127 hk (by omega)
    have h2 : k &&& 127 = k % 128 := Nat.and_two_pow_sub_one_eq_mod k 7
    rw [h2] at h
    exact h
  rw [ha]
  have h := i64_or_nat (k % 128) 128 (by omega) (by omega)
  have h2 : k % 128 ||| 128 = 128 + k % 128 := by
    have := Nat.two_pow_add_eq_or_of_lt (i := 7) (b := k % 128) (by omega) 1
    rw [Nat.or_comm]
    simpa using this.symm
  rw [h2] at h
  exact h
theorem shr_7 (k : Nat) : (k : Int) / 2 ^ 7 = (k : Int) / 128 := by rfl
end Go.Proofs.YtgpinhamgdganaaDoor
