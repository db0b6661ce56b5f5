/- How a slice of tokens is opened. No condition. -/
import Derived.Test.YtnncdibojclhnaaDoorRead2
import Derived.Test.YtnncdibojclhnaaDoorTokenS
namespace Go.Proofs.YtnncdibojclhnaaDoor
open Go Go.ChangeShapes Go.WideShapes Go.RowKit
set_option maxRecDepth 100000
theorem totT_sizes {xs : List Vl} (h : (totT xs : Int) ≤ 1048576) : ∀ x ∈ xs, x.s.size ≤ 1048576 := fun x hx => by
  have := totT_mem hx
  unfold szOf at this
  omega
theorem read_token {H : Type} {enc : TypeId × Value → H} {W : World} {base : Nat} {spare : Nat → Bool} {held : Bool} : ∀ n cs (x : DataW H × List MemPlace), DataW.trod enc Tryd.prog W base spare held n 29 cs = some x → cs.length = 3 → ∃ a : Vl, cs = vC a ∧ a.s.size ≤ 9223372036854775807 :=
  read_iis Tryd.underlying29 Tryd.underlying3 Tryd.underlying3 Tryd.underlying9 (by kernel_rfl)
theorem open_tokenS {H : Type} {enc : TypeId × Value → H} {W : World} {r : Reach} {b0 : Nat} {v : Value} {d : DataW H} {p : List MemPlace} (hv : Value.okWide Tryd.prog W r b0 69 v) (h : DataW.Trod enc Tryd.prog W 0 (fun _ => true) true 69 v d p) :
    ∃ A n c xs, v = .slice A n c ∧ n ≤ c ∧ c ≤ 9223372036854775807 ∧ RdS vC 3 W W.heap.size A n xs ∧ ∀ a ∈ xs, a.s.size ≤ 9223372036854775807 := by
  obtain ⟨A0, n0, c0, rfl⟩ := okWide_slice Tryd.underlying69 hv
  obtain ⟨fuel, hf⟩ := h
  obtain ⟨A, n, c, xs, e, h1, h2, h3, h4⟩ := read_list (f := vC) (z := 3) Tryd.underlying69 (by kernel_rfl) (by omega) vC_sz read_token hf
  simp [Value.cells] at e
  exact ⟨A, n, c, xs, by rw [e.1, e.2.1, e.2.2], h1, h2, h3, h4⟩
end Go.Proofs.YtnncdibojclhnaaDoor
