/- An item is appended to a row of items of the call's own. No condition. -/
import Derived.Test.YtndhjijcicebkaaItemM
import Derived.Test.YtndhjijcicebkaaApp
namespace Go.Proofs.Ytndhjijcicebkaa
open Go.RowKit
theorem OwnI.snoc {w w' : World} {base : Nat} {v v' : Value} {rs : List IR} {r : IR} (h : OwnI w base v rs) (hr : OwnT vC 3 w base 90 (ownV r) r.fs) (hfresh : ∀ q ∈ rs, ∀ b, (ownV q).ownBlock = some b → (ownV r).ownBlock ≠ some b) (h2 : OwnT irC 3 w' base 55 v' (rs ++ [r])) (hg : w.grownBy w' v.ownBlock) : OwnI w' base v' (rs ++ [r]) := by
  refine ⟨h2, fun q hq => ?_, ?_⟩
  · rcases List.mem_append.1 hq with h3 | h3
    · exact World.ownsRow.kept (h.2.1 q h3) hg (own_ne (h.2.1 q h3) h.1 (by decide))
    · rw [List.mem_singleton] at h3
      subst h3
      exact World.ownsRow.kept hr hg (own_ne hr h.1 (by decide))
  · rw [List.pairwise_append]
    refine ⟨h.2.2, List.pairwise_singleton _ _, fun q hq x hx b hb => ?_⟩
    rw [List.mem_singleton] at hx
    subst hx
    exact hfresh q hq b hb
/-- a row made later lies elsewhere -/
theorem fresh_row {w w2 : World} {base : Nat} {e : TypeId} {v : Value} {rs : List IR} {r : IR} (h : OwnI w base v rs) (hr : OwnT vC 3 w2 w.heap.size e (ownV r) r.fs) : ∀ q ∈ rs, ∀ b, (ownV q).ownBlock = some b → (ownV r).ownBlock ≠ some b := fun q hq b hb he => by
  have h1 := (World.ownsRow.lt (h.2.1 q hq) b hb).2
  have h2 := (World.ownsRow.lt hr b he).1
  omega
theorem OwnI.nil_ (w : World) (base : Nat) : OwnI w base (.slice none 0 0) [] := ⟨OwnT.nil_ _ _ _, fun _ h => absurd h List.not_mem_nil, List.Pairwise.nil⟩
theorem OwnI.alloc {w : World} {base : Nat} {v : Value} {rs : List IR} (h : OwnI w base v rs) (o : Obj) : OwnI (w.alloc o) base v rs := ⟨h.1.alloc o, fun r hr => (h.2.1 r hr).alloc o, h.2.2⟩
theorem OwnI.form {w : World} {base : Nat} {v : Value} {rs : List IR} (h : OwnI w base v rs) : ∃ A c, v = .slice A rs.length c ∧ rs.length ≤ c := by
  obtain ⟨A, c, e, h1, _⟩ := h.1.form
  exact ⟨A, c, e, h1⟩
theorem irC_one (rs : List IR) : ∀ u ∈ fl irC rs, u.oneCell' = true := by
  intro u hu
  simp only [fl, List.mem_flatMap] at hu
  obtain ⟨x, _, hu⟩ := hu
  simp [irC] at hu
  rcases hu with rfl | rfl | rfl <;> rfl
end Go.Proofs.Ytndhjijcicebkaa
