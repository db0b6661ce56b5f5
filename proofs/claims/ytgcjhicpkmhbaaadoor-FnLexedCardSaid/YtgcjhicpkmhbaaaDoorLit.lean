/- An empty literal is a row of the call's own. Names no program. No condition. -/
import Derived.Test.YtgcjhicpkmhbaaaDoorSl
namespace Go.Proofs.YtgcjhicpkmhbaaaDoor
open Go.RowKit
theorem lit0 {α : Type} {f : α → List Value} {z : Nat} (w : World) (e : TypeId) : OwnT f z (w.alloc (.cells #[] e)) w.heap.size e (.slice (some ⟨w.heap.size, 0, none⟩) 0 0) [] := by
  have := World.ownsRow_lit (base := w.heap.size) (e := e) (size := z) w #[] 0 (Nat.le_refl _) (Nat.zero_le _) (by simp)
  exact this
end Go.Proofs.YtgcjhicpkmhbaaaDoor
