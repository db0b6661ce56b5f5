/- How a law's argument that is a store is opened. No condition. -/
import Derived.Test.YtndhjijcicebkaaRead2
import Derived.Test.YtndhjijcicebkaaItem
namespace Go.Proofs.Ytndhjijcicebkaa
open Go.ChangeShapes Go.WideShapes Go.ChangeAt Go.RowKit
open Go.Deep
set_option maxRecDepth 100000

theorem read_item {H : Type} {enc : TypeId × Value → H} {W : World} {base : Nat} {spare : Nat → Bool} {held : Bool} : ∀ n cs (x : DataW H × List MemPlace), DataW.trod enc Try.prog W base spare held n 94 cs = some x → cs.length = 3 → ∃ a : IR, cs = irC a ∧ (goodI a ∧ RdS vC 3 W W.heap.size a.A a.fs.length a.fs) := by
  intro n cs x h hl
  match cs, hl with
  | [c0, c1, c2], _ =>
    obtain ⟨n0, y0, t0⟩ := field_of Try.underlying94 h 0 _ rfl 0 1 rfl (by kernel_rfl)
    obtain ⟨n1, y1, t1⟩ := field_of Try.underlying94 h 1 _ rfl 1 2 rfl (by kernel_rfl)
    obtain ⟨id, rfl⟩ := read_int Try.underlying3 t0
    obtain ⟨n2, y2, t2⟩ := field_of Try.underlying27 t1 0 _ rfl 0 1 rfl (by kernel_rfl)
    obtain ⟨n3, y3, t3⟩ := field_of Try.underlying27 t1 1 _ rfl 1 1 rfl (by kernel_rfl)
    obtain ⟨kd, rfl, hk⟩ := read_str Try.underlying9 t2
    obtain ⟨A, n, c, xs, e, h1, h2, h3, h4⟩ := read_list (f := vC) (z := 3) Try.underlying25 (by kernel_rfl) (by omega) vC_sz (read_iis Try.underlying96 Try.underlying3 Try.underlying3 Try.underlying9 (by kernel_rfl)) t3
    simp at e
    have hn := h3.len
    subst hn
    exact ⟨⟨id, kd, A, c, xs⟩, by rw [e]; rfl, ⟨hk, by simp only; omega, h4⟩, h3⟩
theorem open_store {H : Type} {enc : TypeId × Value → H} {W : World} {r : Reach} {b0 : Nat} {v : Value} {d : DataW H} {p : List MemPlace} (hv : Value.okWide Try.prog W r b0 24 v) (h : DataW.Trod enc Try.prog W 0 (fun _ => true) true 24 v d p) :
    ∃ A n c rs nx, v = .agg #[.slice A n c, .int .i64 nx] ∧ n ≤ c ∧ c ≤ 9223372036854775807 ∧ RdI W W.heap.size A n rs ∧ ∀ a ∈ rs, goodI a := by
  obtain ⟨cs, rfl, hsz⟩ := okWide_struct Try.underlying24 hv
  obtain ⟨fuel, hf⟩ := h
  have hC : Try.prog.cellsOf 24 = 2 := by kernel_rfl
  obtain ⟨l⟩ := cs
  match l, hsz.trans hC with
  | [c0, c1], _ =>
    obtain ⟨n0, y0, t0⟩ := field_of Try.underlying24 hf 0 _ rfl 0 1 rfl (by kernel_rfl)
    obtain ⟨n1, y1, t1⟩ := field_of Try.underlying24 hf 1 _ rfl 1 1 rfl (by kernel_rfl)
    obtain ⟨nx, rfl⟩ := read_int Try.underlying3 t1
    obtain ⟨A, n, c, xs, e, h1, h2, h3, h4⟩ := read_list (f := irC) (z := 3) Try.underlying22 (by kernel_rfl) (by omega) irC_sz read_item t0
    simp [Value.cells] at e
    exact ⟨A, n, c, xs, nx, by rw [e], h1, h2, ⟨h3, fun a ha => (h4 a ha).2⟩, fun a ha => (h4 a ha).1⟩
end Go.Proofs.Ytndhjijcicebkaa
