/- The laws' own helpers on slices of bytes: copying, comparing, marking, holding. No condition but lengths. -/
import Derived.Test.YtcbbefibebkfgaaGreatDoorOwn
import Derived.Test.YtcbbefibebkfgaaGreatDoorChecked
namespace Go.Proofs.YtcbbefibebkfgaaGreatDoor
open Go.RowKit
set_option maxRecDepth 100000
set_option maxHeartbeats 2000000

theorem infoB : (Tryz.prog.info? 5).map (fun i => (i.zero, i.size, i.bytes)) = some (some (.int .u8 0), 1, 1) := by kernel_rfl

def marksB (k n : Nat) : List UInt8 := (List.range n).map fun i => UInt8.ofNat (k + i)
theorem marksB_len (k n : Nat) : (marksB k n).length = n := by simp [marksB]
theorem marksB_get (k n i : Nat) (h : i < (marksB k n).length) : (marksB k n)[i] = UInt8.ofNat (k + i) := by simp [marksB]
theorem ofNat_mod (k : Nat) : ((UInt8.ofNat k).toNat : Int) = (k : Int) % 256 := by rw [UInt8.toNat_ofNat']; omega
end Go.Proofs.YtcbbefibebkfgaaGreatDoor
