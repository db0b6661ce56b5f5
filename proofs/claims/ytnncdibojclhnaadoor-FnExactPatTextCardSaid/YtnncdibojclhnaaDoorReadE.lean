/- How a law's arguments of the struct types are opened. No condition. -/
import Derived.Test.YtnncdibojclhnaaDoorRead2
import Derived.Test.YtnncdibojclhnaaDoorArgS
import Derived.Test.YtnncdibojclhnaaDoorCond
namespace Go.Proofs.YtnncdibojclhnaaDoor
open Go.ChangeShapes Go.WideShapes Go.ChangeAt Go.RowKit
open Go.Deep
set_option maxRecDepth 100000

theorem read_val {H : Type} {enc : TypeId × Value → H} {W : World} {base : Nat} {spare : Nat → Bool} {held : Bool} : ∀ n cs (x : DataW H × List MemPlace), DataW.trod enc Tryd.prog W base spare held n 23 cs = some x → cs.length = 3 → ∃ a : Vl, cs = vC a ∧ a.s.size ≤ 9223372036854775807 :=
  read_iis Tryd.underlying23 Tryd.underlying3 Tryd.underlying3 Tryd.underlying9 (by kernel_rfl)
theorem read_arg {H : Type} {enc : TypeId × Value → H} {W : World} {base : Nat} {spare : Nat → Bool} {held : Bool} : ∀ n cs (x : DataW H × List MemPlace), DataW.trod enc Tryd.prog W base spare held n 36 cs = some x → cs.length = 5 → ∃ a : Ag, cs = aC a ∧ goodA a := by
  intro n cs x h hl
  match cs, hl with
  | [c0, c1, c2, c3, c4], _ =>
    obtain ⟨_, _, t0⟩ := field_of Tryd.underlying36 h 0 _ rfl 0 1 rfl (by kernel_rfl)
    obtain ⟨x0, e0⟩ := read_int Tryd.underlying3 t0
    obtain ⟨_, _, t1⟩ := field_of Tryd.underlying36 h 1 _ rfl 1 1 rfl (by kernel_rfl)
    obtain ⟨x1, e1, g1⟩ := read_str Tryd.underlying9 t1
    obtain ⟨_, _, t2⟩ := field_of Tryd.underlying36 h 2 _ rfl 2 3 rfl (by kernel_rfl)
    obtain ⟨x2, e2, g2⟩ := read_val _ _ _ t2 rfl
    simp [vC] at e2
    refine ⟨⟨x0, x1, x2⟩, ?_, ⟨g1, g2⟩⟩
    simp [aC, e0, e1, e2]
theorem open_arg {H : Type} {enc : TypeId × Value → H} {W : World} {r : Reach} {b0 : Nat} {v : Value} {d : DataW H} {p : List MemPlace} (hv : Value.okWide Tryd.prog W r b0 36 v) (h : DataW.Trod enc Tryd.prog W 0 (fun _ => true) true 36 v d p) :
    ∃ k s vk vn vs, v = .agg #[.int .i64 k, .string s, .int .i64 vk, .int .i64 vn, .string vs] ∧ s.size ≤ 9223372036854775807 ∧ vs.size ≤ 9223372036854775807 := by
  obtain ⟨cs, rfl, hsz⟩ := okWide_struct Tryd.underlying36 hv
  obtain ⟨fuel, hf⟩ := h
  have hC : Tryd.prog.cellsOf 36 = 5 := by kernel_rfl
  obtain ⟨a, ha, hg⟩ := read_arg _ _ _ hf (by rw [← hC, ← hsz]; simp [Value.cells])
  refine ⟨a.k, a.s, a.v.k, a.v.n, a.v.s, ?_, hg⟩
  obtain ⟨l⟩ := cs
  simp [Value.cells, aC] at ha
  rw [ha]
theorem open_argS {H : Type} {enc : TypeId × Value → H} {W : World} {r : Reach} {b0 : Nat} {v : Value} {d : DataW H} {p : List MemPlace} (hv : Value.okWide Tryd.prog W r b0 47 v) (h : DataW.Trod enc Tryd.prog W 0 (fun _ => true) true 47 v d p) :
    ∃ A n c xs, v = .slice A n c ∧ n ≤ c ∧ c ≤ 9223372036854775807 ∧ RdS aC 5 W W.heap.size A n xs ∧ ∀ a ∈ xs, goodA a := by
  obtain ⟨A0, n0, c0, rfl⟩ := okWide_slice Tryd.underlying47 hv
  obtain ⟨fuel, hf⟩ := h
  obtain ⟨A, n, c, xs, e, h1, h2, h3, h4⟩ := read_list (f := aC) (z := 5) Tryd.underlying47 (by kernel_rfl) (by omega) aC_sz read_arg hf
  simp [Value.cells] at e
  exact ⟨A, n, c, xs, by rw [e.1, e.2.1, e.2.2], h1, h2, h3, h4⟩
theorem read_cond {H : Type} {enc : TypeId × Value → H} {W : World} {base : Nat} {spare : Nat → Bool} {held : Bool} : ∀ n cs (x : DataW H × List MemPlace), DataW.trod enc Tryd.prog W base spare held n 38 cs = some x → cs.length = 11 → ∃ a : Cd, cs = cC a ∧ goodC a := by
  intro n cs x h hl
  match cs, hl with
  | [c0, c1, c2, c3, c4, c5, c6, c7, c8, c9, c10], _ =>
    obtain ⟨_, _, t0⟩ := field_of Tryd.underlying38 h 0 _ rfl 0 1 rfl (by kernel_rfl)
    obtain ⟨x0, e0⟩ := read_int Tryd.underlying3 t0
    obtain ⟨_, _, t1⟩ := field_of Tryd.underlying38 h 1 _ rfl 1 5 rfl (by kernel_rfl)
    obtain ⟨x1, e1, g1⟩ := read_arg _ _ _ t1 rfl
    simp [aC] at e1
    obtain ⟨_, _, t2⟩ := field_of Tryd.underlying38 h 2 _ rfl 6 5 rfl (by kernel_rfl)
    obtain ⟨x2, e2, g2⟩ := read_arg _ _ _ t2 rfl
    simp [aC] at e2
    refine ⟨⟨x0, x1, x2⟩, ?_, ⟨g1.1, g1.2, g2.1, g2.2⟩⟩
    simp [cC, e0, e1, e2]
theorem open_cond {H : Type} {enc : TypeId × Value → H} {W : World} {r : Reach} {b0 : Nat} {v : Value} {d : DataW H} {p : List MemPlace} (hv : Value.okWide Tryd.prog W r b0 38 v) (h : DataW.Trod enc Tryd.prog W 0 (fun _ => true) true 38 v d p) :
    ∃ op lk ls lvk lvn lvs rk rs rvk rvn rvs, v = .agg #[.int .i64 op, .int .i64 lk, .string ls, .int .i64 lvk, .int .i64 lvn, .string lvs, .int .i64 rk, .string rs, .int .i64 rvk, .int .i64 rvn, .string rvs] ∧ ls.size ≤ 9223372036854775807 ∧ lvs.size ≤ 9223372036854775807 ∧ rs.size ≤ 9223372036854775807 ∧ rvs.size ≤ 9223372036854775807 := by
  obtain ⟨cs, rfl, hsz⟩ := okWide_struct Tryd.underlying38 hv
  obtain ⟨fuel, hf⟩ := h
  have hC : Tryd.prog.cellsOf 38 = 11 := by kernel_rfl
  obtain ⟨a, ha, hg⟩ := read_cond _ _ _ hf (by rw [← hC, ← hsz]; simp [Value.cells])
  refine ⟨a.op, a.l.k, a.l.s, a.l.v.k, a.l.v.n, a.l.v.s, a.r.k, a.r.s, a.r.v.k, a.r.v.n, a.r.v.s, ?_, hg⟩
  obtain ⟨l⟩ := cs
  simp [Value.cells, cC] at ha
  rw [ha]
end Go.Proofs.YtnncdibojclhnaaDoor
