/- The laws' own helpers: is the input too big; a byte of the input or a number in its place. No condition but lengths. -/
import Derived.Test.YtgcjhicpkmhbaaaDoorOwn
import Derived.Test.YtgcjhicpkmhbaaaDoorChecked
namespace Go.Proofs.YtgcjhicpkmhbaaaDoor
open Go.RowKit
set_option maxRecDepth 100000
set_option maxHeartbeats 2000000

theorem big_any (A : Option Addr) (n c : Nat) (w : World) :
    Calls Tryd.prog 11 #[.slice A n c] w fun e w' => e = .returned (.bool (decide ((1048576 : Int) < n))) ∧ w = w' := by
  go_enter Tryd.func11, Tryd.ntmps11
  go_wp2
  go_ret
  exact ⟨rfl, rfl⟩
def atN (code : List UInt8) (i : Nat) : Nat := match code[i]? with | some b => b.toNat | none => (i * 31 + code.length * 7) % 256
theorem atN_le (code : List UInt8) (i : Nat) : atN code i ≤ 255 := by
  unfold atN
  split
  · exact byte_le _
  · omega
theorem RdB.front {w : World} {B n : Nat} {A : Option Addr} {bs : List UInt8} (h : RdB w B A n bs) (k : Nat) (hk : k ≤ n) : RdB w B A k (bs.take k) := by
  have hl := h.len
  refine ⟨by simp; omega, fun h0 => ?_⟩
  obtain ⟨b, o, rfl, hb, hc⟩ := h.2 (by omega)
  refine ⟨b, o, rfl, hb, fun j u hu => hc j u ?_⟩
  rw [List.map_take, List.getElem?_take] at hu
  split at hu
  · exact hu
  · cases hu
end Go.Proofs.YtgcjhicpkmhbaaaDoor
