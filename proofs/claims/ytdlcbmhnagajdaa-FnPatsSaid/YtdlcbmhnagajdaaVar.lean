/- Is a text a variable: the program's and the reference's answer is that of the plain function. No condition but the text's length. -/
import Derived.Test.YtdlcbmhnagajdaaName
namespace Go.Proofs.Ytdlcbmhnagajdaa
open Go.RowKit
set_option maxRecDepth 100000
set_option maxHeartbeats 2000000

def lv (c : UInt8) : Bool := letter c.toNat || large c.toNat
def firstLarge (s : ByteArray) : Bool := match s.data.toList with | [] => false | c :: _ => large c.toNat
def varOk (s : ByteArray) : Bool := firstLarge s && (decide ((s.size : Int) ≤ 12) && s.data.toList.all lv)
theorem firstLarge_get (s : ByteArray) (h : 0 < s.size) : firstLarge s = large s[0].toNat := by
  unfold firstLarge
  rcases s with ⟨⟨l⟩⟩
  cases l with
  | nil => simp [ByteArray.size] at h
  | cons a l => rfl
theorem firstLarge_nil (s : ByteArray) (h : ¬ 0 < s.size) : firstLarge s = false := by
  unfold firstLarge
  have : s.data.toList = [] := List.eq_nil_of_length_eq_zero (by rw [size_data]; omega)
  rw [this]
end Go.Proofs.Ytdlcbmhnagajdaa
