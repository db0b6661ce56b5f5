/- Contracts of the functions on single bytes and names: each answers what the plain function says, the world as it was. No condition but the string's length. -/
import Derived.Test.YtdlcbmhnagajdaaChecked
import Derived.Test.YtdlcbmhnagajdaaLib
namespace Go.Proofs.Ytdlcbmhnagajdaa
open Go.RowKit

def inB (x a b : Int) : Bool := decide (a ≤ x) && decide (x ≤ b)
def small (c : Int) : Bool := decide (97 ≤ c) && decide (c ≤ 122)
def large (c : Int) : Bool := decide (65 ≤ c) && decide (c ≤ 90)
def digit (c : Int) : Bool := decide (48 ≤ c) && decide (c ≤ 57)
def letter (c : Int) : Bool := small c || digit c || c == 95
def lett (c : UInt8) : Bool := letter c.toNat
def word (s : ByteArray) (most : Int) : Bool := decide ((s.size : Int) ≤ most) && s.data.toList.all lett
def firstSmall (s : ByteArray) : Bool := match s.data.toList with | [] => false | c :: _ => small c.toNat
def nameOk (s : ByteArray) : Bool := firstSmall s && word s 12

theorem firstSmall_get (s : ByteArray) (h : 0 < s.size) : firstSmall s = small s[0].toNat := by
  unfold firstSmall
  rcases s with ⟨⟨l⟩⟩
  cases l with
  | nil => simp [ByteArray.size] at h
  | cons a l => rfl

end Go.Proofs.Ytdlcbmhnagajdaa
