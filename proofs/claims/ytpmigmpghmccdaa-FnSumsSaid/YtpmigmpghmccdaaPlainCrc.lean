/- Plain laws of the sum: it has 32 bits and turns with any one byte. -/
import Derived.Test.YtpmigmpghmccdaaCrc
import Derived.Laws.BitsAllLaws
namespace Go.Proofs.Ytpmigmpghmccdaa
open Go.RowKit

theorem xor_cancel {x y c : Nat} (h : x ^^^ c = y ^^^ c) : x = y := by
  have : (x ^^^ c) ^^^ c = (y ^^^ c) ^^^ c := by rw [h]
  simpa [Nat.xor_assoc] using this
theorem xor_cancel' {x y c : Nat} (h : c ^^^ x = c ^^^ y) : x = y := xor_cancel (c := c) (by rw [Nat.xor_comm x, Nat.xor_comm y, h])
theorem poly_ne {x y : Nat} (hx : x < 2147483648) (hy : y < 2147483648) : x ^^^ 2197175160 ≠ y := by
  intro h
  have h31 : (x ^^^ 2197175160).testBit 31 = true := by
    rw [Nat.testBit_xor, Nat.testBit_lt_two_pow (show x < 2 ^ 31 from hx)]
    decide
  rw [h, Nat.testBit_lt_two_pow (show y < 2 ^ 31 from hy)] at h31
  cases h31
theorem crcStep_inj {x y : Nat} (hx : x < 4294967296) (hy : y < 4294967296) (h : crcStep x = crcStep y) : x = y := by
  unfold crcStep at h
  split at h <;> split at h
  · have := xor_cancel h
    omega
  · exact absurd h (poly_ne (by omega) (by omega))
  · exact absurd h.symm (poly_ne (by omega) (by omega))
  · omega
theorem crcIter_inj {x y : Nat} (hx : x < 4294967296) (hy : y < 4294967296) : ∀ k, crcIter k x = crcIter k y → x = y
  | 0, h => h
  | k + 1, h => crcIter_inj hx hy k (crcStep_inj (crcIter_lt x hx k) (crcIter_lt y hy k) h)
theorem crcByte_inj {x y : Nat} {b c : UInt8} (hx : x < 4294967296) (hy : y < 4294967296) (h : crcByte x b = crcByte y c) : x ^^^ b.toNat = y ^^^ c.toNat :=
  crcIter_inj (xor_lt hx (by have := b.toNat_lt; omega)) (xor_lt hy (by have := c.toNat_lt; omega)) 8 h
theorem crcFold_inj : ∀ (bs : List UInt8) (x y : Nat), x < 4294967296 → y < 4294967296 → bs.foldl crcByte x = bs.foldl crcByte y → x = y
  | [], _, _, _, _, h => h
  | b :: bs, x, y, hx, hy, h => xor_cancel (crcByte_inj hx hy (crcFold_inj bs _ _ (crcByte_lt x b hx) (crcByte_lt y b hy) h))
theorem crcFold_set : ∀ (bs : List UInt8) (x i : Nat) (c : UInt8) (h : i < bs.length), x < 4294967296 → c ≠ bs[i] → (bs.set i c).foldl crcByte x ≠ bs.foldl crcByte x
  | [], _, _, _, h, _, _ => by simp at h
  | b :: bs, x, 0, c, _, hx, hc => by
    intro h
    have h1 := crcFold_inj bs _ _ (crcByte_lt x c hx) (crcByte_lt x b hx) h
    have h2 := crcByte_inj hx hx h1
    exact hc (UInt8.toNat_inj.1 (xor_cancel' h2))
  | b :: bs, x, i + 1, c, h, hx, hc => by
    have := crcFold_set bs (crcByte x b) i c (by simpa using h) (crcByte_lt x b hx) (by simpa using hc)
    simpa using this
theorem crc_range (bs : List UInt8) : 0 ≤ crc bs ∧ crc bs ≤ 4294967295 := by
  have := xor_lt (crcAll_lt bs) (show 4294967295 < 4294967296 by omega)
  unfold crc
  omega
theorem crc_set (bs : List UInt8) (i : Nat) (c : UInt8) (h : i < bs.length) (hc : c ≠ bs[i]) : crc (bs.set i c) ≠ crc bs := by
  intro e
  unfold crc at e
  have e2 : crcAll (bs.set i c) ^^^ 4294967295 = crcAll bs ^^^ 4294967295 := by omega
  exact crcFold_set bs 4294967295 i c h (by omega) hc (xor_cancel e2)
theorem flip_bit (y j : Nat) (hy : y ≤ 255) (hj : j < 8) : ∃ z : Nat, bits BinOp.xor IntKind.u8 (y : Int) (2 ^ min j 8 % 256) = (z : Int) ∧ z ≤ 255 ∧ z ≠ y := by
  have e : ((2 : Int) ^ min j 8 % 256) = ((2 ^ j : Nat) : Int) := by
    have : j = 0 ∨ j = 1 ∨ j = 2 ∨ j = 3 ∨ j = 4 ∨ j = 5 ∨ j = 6 ∨ j = 7 := by omega
    rcases this with rfl | rfl | rfl | rfl | rfl | rfl | rfl | rfl <;> rfl
  have hm : 2 ^ j < 256 := Nat.pow_lt_pow_right (n := 8) (by omega) hj
  have h0 : 0 < 2 ^ j := Nat.pow_pos (by omega)
  refine ⟨y ^^^ 2 ^ j, by rw [e, u8_xor_nat y (2 ^ j) (by omega) hm], ?_, ?_⟩
  · have := Nat.xor_lt_two_pow (n := 8) (x := y) (y := 2 ^ j) (by omega) hm
    omega
  · intro h
    have h2 : y ^^^ 2 ^ j = y ^^^ 0 := by simpa using h
    have := xor_cancel' h2
    omega
theorem set_bv (bs : List UInt8) (q z : Nat) (hz : z ≤ 255) : (bs.map bv).set q (.int .u8 (z : Int)) = (bs.set q (UInt8.ofNat z)).map bv := by
  rw [List.map_set]
  congr 1
  unfold bv
  rw [UInt8.toNat_ofNat']
  congr 1
  omega
end Go.Proofs.Ytpmigmpghmccdaa
