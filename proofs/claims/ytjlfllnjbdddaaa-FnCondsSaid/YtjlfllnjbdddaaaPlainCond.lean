/- Plain laws of conditions: of two values one condition at least holds. No condition. -/
import Derived.Test.YtjlfllnjbdddaaaPlainFact
import Derived.Test.YtjlfllnjbdddaaaBindOf
namespace Go.Proofs.Ytjlfllnjbdddaaa
open Go.RowKit

theorem conds_law (l r : Ag) (xs : List Bd) : ∃ (kl nl : Int) (sl : ByteArray) (a : Bool) (kr nr : Int) (sr : ByteArray) (b s o le m : Bool),
    argVal l xs = (⟨kl, nl, sl⟩, a) ∧ argVal r xs = (⟨kr, nr, sr⟩, b) ∧ holds ⟨1, l, r⟩ xs = s ∧ holds ⟨2, l, r⟩ xs = o ∧ holds ⟨3, l, r⟩ xs = le ∧ holds ⟨3, r, l⟩ xs = m ∧
    ((a = false ∧ s = false ∧ o = false ∧ le = false ∧ m = false) ∨ (a = true ∧ b = false ∧ s = false ∧ o = false ∧ le = false ∧ m = false) ∨
     (a = true ∧ b = true ∧ s = true ∧ o = false ∧ le = false ∧ m = false) ∨ (a = true ∧ b = true ∧ s = false ∧ o = true ∧ le = true ∧ m = false) ∨ (a = true ∧ b = true ∧ s = false ∧ o = true ∧ le = false ∧ m = true)) := by
  obtain ⟨⟨⟨kl, nl, sl⟩, a⟩, ha⟩ : ∃ x, argVal l xs = x := ⟨_, rfl⟩
  obtain ⟨⟨⟨kr, nr, sr⟩, b⟩, hb⟩ : ∃ x, argVal r xs = x := ⟨_, rfl⟩
  refine ⟨kl, nl, sl, a, kr, nr, sr, b, _, _, _, _, ha, hb, rfl, rfl, rfl, rfl, ?_⟩
  unfold holds
  rw [ha, hb]
  cases a
  · simp
  cases b
  · simp
  rcases lessV_tri' ⟨kl, nl, sl⟩ ⟨kr, nr, sr⟩ with ⟨h1, h2, h3⟩ | ⟨h1, h2, h3⟩ | ⟨h3, h1⟩
  · simp [h1, h2, h3]
  · simp [h1, h2, h3]
  · injection h3 with e1 e2 e3
    subst e1 e2 e3
    simp [h1]
end Go.Proofs.Ytjlfllnjbdddaaa
