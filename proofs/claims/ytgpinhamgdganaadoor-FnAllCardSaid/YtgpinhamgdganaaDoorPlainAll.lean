/- Plain laws: a right condition has a text. No condition. -/
import Derived.Test.YtgpinhamgdganaaDoorCondText
namespace Go.Proofs.YtgpinhamgdganaaDoor
open Go.RowKit
theorem condText_ne {c : Cd} (h : condOk c = true) : decide (condText c = ⟨#[]⟩) = false := by
  rw [decide_eq_false_iff_not]
  intro e
  have := congrArg ByteArray.size e
  rw [condText, if_pos h, ByteArray.size_append, ByteArray.size_append] at this
  have h0 : (⟨#[]⟩ : ByteArray).size = 0 := rfl
  have h1 : (⟨#[32, 35, 32]⟩ : ByteArray).size = 3 := rfl
  have h2 : (⟨#[32, 60, 32]⟩ : ByteArray).size = 3 := rfl
  have h3 : (⟨#[32, 61, 32]⟩ : ByteArray).size = 3 := rfl
  split at this
  · omega
  · split at this <;> omega
theorem condText_none {c : Cd} (h : condOk c = false) : condText c = ⟨#[]⟩ := by rw [condText, h]; rfl
end Go.Proofs.YtgpinhamgdganaaDoor
