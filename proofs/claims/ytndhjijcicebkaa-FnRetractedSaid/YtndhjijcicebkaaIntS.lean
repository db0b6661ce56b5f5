/- Slices of Int: the laws' helpers on them. Each answers what the plain function says. No condition but lengths. -/
import Derived.Test.YtndhjijcicebkaaValS
import Derived.Test.YtndhjijcicebkaaStep
namespace Go.Proofs.Ytndhjijcicebkaa
open Go.RowKit
set_option maxRecDepth 100000
set_option maxHeartbeats 2000000

def iC (a : Int) : List Value := [.int .i64 a]
theorem iC_sz : Sz iC 1 := fun _ => rfl
theorem RdT.int_ {w : World} {B n : Nat} {A : Option Addr} {xs : List Int} (h : RdT iC 1 w B A n xs) (hn : 0 < n) :
    ∃ b o, A = some ⟨b, o, none⟩ ∧ b < B ∧ ∀ k (hk : k < n), ∃ (en : Int), xs[k]'(by rw [h.1]; exact hk) = en ∧ w.cell? ⟨b, o + k, none⟩ = some (.int .i64 en) := by
  obtain ⟨b, o, e, hb, hc⟩ := h.at_ iC_sz hn
  exact ⟨b, o, e, hb, fun k hk => ⟨_, rfl, by have := hc k hk 0 _ (by omega) rfl; simpa using this⟩⟩
theorem infoInt : (Try.prog.info? 3).map (fun i => (i.zero, i.size, i.bytes)) = some (some (.int .i64 0), 1, 8) := by kernel_rfl
end Go.Proofs.Ytndhjijcicebkaa
