import Derived.Test.YtgcjhicpkmhbaaaDoorPkPlainParse2
import Derived.Test.YtgcjhicpkmhbaaaDoorWhole
import Derived.Test.YtgcjhicpkmhbaaaDoorBox
/- Reading a value of its text, by the program and by the reference. Conditions: the text's length; the library's variables are as its text lays them. -/
namespace Go.Proofs.YtgcjhicpkmhbaaaDoor
open Go.RowKit
set_option maxRecDepth 100000
set_option maxHeartbeats 4000000
theorem digits_bound (m : Nat) : m < 10 ^ (Lib.decDigits m).length := by
  induction m using Nat.strongRecOn with
  | _ m ih =>
  by_cases hs : m < 10
  · rw [dig_small hs]; simpa using hs
  · rw [dig_big hs, List.length_append, List.length_singleton, Nat.pow_succ]
    have := ih (m / 10) (by omega)
    omega
theorem whole_bound (L : List UInt8) : -1 ≤ wholeT L ∧ wholeT L < 10000000000 := by
  rcases Int.lt_or_le (wholeT L) 0 with h | h
  · refine ⟨?_, by omega⟩
    unfold wholeT at h ⊢
    split
    · split <;> omega
    · omega
  · obtain ⟨m, hm, hT, hl⟩ := whole_nonneg h
    refine ⟨by omega, ?_⟩
    rw [hm]
    have := digits_bound m
    rw [← hT] at this
    have h2 : 10 ^ L.length ≤ 10 ^ 10 := Nat.pow_le_pow_right (by decide) hl
    omega
theorem World.alloc_size2 (w : World) (o : Obj) : (w.alloc o).heap.size = w.heap.size + 1 := by simp
theorem VarE.kept {w w' : World} (h : VarE w) (hb : Below w.heap.size w w') : VarE w' := by
  obtain ⟨tp, p, h⟩ := h
  refine ⟨tp, p, ?_⟩
  unfold World.var? at *
  cases hg : Tryd.prog.globalNamed "strconv.ErrSyntax" with
  | none => simp [hg] at h
  | some g =>
    simp only [hg, Option.bind_some] at h ⊢
    have hlt : g < w.heap.size := by
      rcases Nat.lt_or_ge g w.heap.size with h' | h'
      · exact h'
      · rw [Array.getElem?_eq_none h'] at h; simp at h
    rw [hb.block g hlt]
    exact h
end Go.Proofs.YtgcjhicpkmhbaaaDoor
