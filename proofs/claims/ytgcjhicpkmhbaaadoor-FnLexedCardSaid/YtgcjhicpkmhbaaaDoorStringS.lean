/- Slices of String: the laws' helpers on them. Each answers what the plain function says. No condition but lengths. -/
import Derived.Test.YtgcjhicpkmhbaaaDoorValS
import Derived.Test.YtgcjhicpkmhbaaaDoorStep
namespace Go.Proofs.YtgcjhicpkmhbaaaDoor
open Go.RowKit
set_option maxRecDepth 100000
set_option maxHeartbeats 2000000

def sC (a : ByteArray) : List Value := [.string a]
theorem sC_sz : Sz sC 1 := fun _ => rfl
theorem RdT.string_ {w : World} {B n : Nat} {A : Option Addr} {xs : List ByteArray} (h : RdT sC 1 w B A n xs) (hn : 0 < n) :
    ∃ b o, A = some ⟨b, o, none⟩ ∧ b < B ∧ ∀ k (hk : k < n), ∃ (es : ByteArray), xs[k]'(by rw [h.1]; exact hk) = es ∧ w.cell? ⟨b, o + k, none⟩ = some (.string es) := by
  obtain ⟨b, o, e, hb, hc⟩ := h.at_ sC_sz hn
  exact ⟨b, o, e, hb, fun k hk => ⟨_, rfl, by have := hc k hk 0 _ (by omega) rfl; simpa using this⟩⟩
def totS (xs : List ByteArray) : Nat := xs.length + sumF ByteArray.size xs
theorem totS_mem {xs : List ByteArray} {x : ByteArray} (h : x ∈ xs) : ByteArray.size x ≤ totS xs := by
  have := sumF_mem ByteArray.size xs x h
  unfold totS; omega
theorem infoString : (Tryd.prog.info? 9).map (fun i => (i.zero, i.size, i.bytes)) = some (some (.string ⟨#[]⟩), 1, 16) := by kernel_rfl
end Go.Proofs.YtgcjhicpkmhbaaaDoor
