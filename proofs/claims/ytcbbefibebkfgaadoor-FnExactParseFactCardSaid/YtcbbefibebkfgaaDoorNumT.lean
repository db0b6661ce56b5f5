/- Numbers as texts: what the reference writes of a number that is kept is its decimal numeral. Condition: the number is one that is kept. -/
import Derived.Test.YtcbbefibebkfgaaDoorLib
import Derived.Test.YtcbbefibebkfgaaDoorChecked
import Derived.Test.YtcbbefibebkfgaaDoorOwn
import Derived.Test.YtcbbefibebkfgaaDoorHeld2
import Derived.Lib.ItoaMem
import Derived.Lib.ItoaLen
import Derived.Lib.Hide
namespace Go.Proofs.YtcbbefibebkfgaaDoor
open Go.RowKit
set_option maxRecDepth 100000
set_option maxHeartbeats 4000000
def numT (n : Int) : ByteArray := ⟨(Lib.itoa n).toArray⟩
theorem digits_small {n : Nat} (h : n < 10) : Lib.decDigits n = [UInt8.ofNat (48 + n)] := by rw [Lib.decDigits, dif_pos h]
theorem digits_big {n : Nat} (h : ¬ n < 10) : Lib.decDigits n = Lib.decDigits (n / 10) ++ [UInt8.ofNat (48 + n % 10)] := by rw [Lib.decDigits, dif_neg h]
theorem cat_arr (a b : List UInt8) : (⟨a.toArray⟩ ++ ⟨b.toArray⟩ : ByteArray) = ⟨(a ++ b).toArray⟩ := by
  apply ByteArray.ext
  simp
theorem digits_len {n : Nat} (h : n ≤ 1000000000) : (Lib.decDigits n).length ≤ 21 := by
  rw [← Lib.itoa_nonneg]
  exact Lib.itoa_length_le _ (by omega) (by omega)
end Go.Proofs.YtcbbefibebkfgaaDoor
