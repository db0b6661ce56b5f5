/- How a law's argument that is a pattern is opened. No condition. -/
import Derived.Test.YtnncdibojclhnaaDoorReadE
namespace Go.Proofs.YtnncdibojclhnaaDoor
open Go.ChangeShapes Go.WideShapes Go.ChangeAt Go.RowKit
open Go.Deep
set_option maxRecDepth 100000

theorem open_pat {H : Type} {enc : TypeId × Value → H} {W : World} {r : Reach} {b0 : Nat} {v : Value} {d : DataW H} {p : List MemPlace} (hv : Value.okWide Tryd.prog W r b0 49 v) (h : DataW.Trod enc Tryd.prog W 0 (fun _ => true) true 49 v d p) :
    ∃ kd A n c xs no, v = .agg #[.string kd, .slice A n c, .bool no] ∧ n ≤ c ∧ c ≤ 9223372036854775807 ∧ kd.size ≤ 9223372036854775807 ∧ RdS aC 5 W W.heap.size A n xs ∧ ∀ a ∈ xs, goodA a := by
  obtain ⟨cs, rfl, hsz⟩ := okWide_struct Tryd.underlying49 hv
  obtain ⟨fuel, hf⟩ := h
  have hC : Tryd.prog.cellsOf 49 = 3 := by kernel_rfl
  obtain ⟨l⟩ := cs
  match l, hsz.trans hC with
  | [c0, c1, c2], _ =>
    obtain ⟨n0, y0, t0⟩ := field_of Tryd.underlying49 hf 0 _ rfl 0 1 rfl (by kernel_rfl)
    obtain ⟨n1, y1, t1⟩ := field_of Tryd.underlying49 hf 1 _ rfl 1 1 rfl (by kernel_rfl)
    obtain ⟨n2, y2, t2⟩ := field_of Tryd.underlying49 hf 2 _ rfl 2 1 rfl (by kernel_rfl)
    obtain ⟨kd, rfl, hk⟩ := read_str Tryd.underlying9 t0
    obtain ⟨no, rfl⟩ := read_bool Tryd.underlying4 t2
    obtain ⟨A, n, c, xs, e, h1, h2, h3, h4⟩ := read_list (f := aC) (z := 5) Tryd.underlying47 (by kernel_rfl) (by omega) aC_sz read_arg t1
    simp [Value.cells] at e
    exact ⟨kd, A, n, c, xs, no, by rw [e], h1, h2, hk, h3, h4⟩
end Go.Proofs.YtnncdibojclhnaaDoor
