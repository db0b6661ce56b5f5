/- Whole structs in and out of a block that is known whole; a function's result that lies in a block. Names no program. No condition. -/
import Derived.Test.YtgcjhicpkmhbaaaDoorBox
import Derived.Deep.MidRow
namespace Go.Proofs.YtgcjhicpkmhbaaaDoor
open Go.RowKit

theorem bel_cells {a : World} {b : Nat} : ∀ {w : World} {o : Nat}, Below a.heap.size a w → a.heap.size ≤ b → ∀ cs : List Value, Below a.heap.size a (w.setCells b o cs)
  | w, o, h, hb, [] => h
  | w, o, h, hb, v :: cs => by
    unfold World.setCells
    exact bel_cells (bel_set h hb v) hb cs
theorem Blk.range {w : World} {b : Nat} {t : TypeId} {cs : List Value} (h : Blk w b t cs.toArray) : w.rangeAt b 0 cs := fun j v hv => by
  rw [Nat.zero_add, h.cell j]
  simpa using hv
theorem Blk.there_ {w : World} {b : Nat} {t : TypeId} {cs : Array Value} {n : Nat} (h : Blk w b t cs) (hn : cs.size = n) : w.there b 0 n := fun j hj => by
  rw [Nat.zero_add, h.cell j, h.frozen j]
  exact ⟨by simp; omega, rfl⟩
/-- a whole struct is stored into a block of the call's own: behind it the world is a letter -/
theorem wpList_store_blk {P : Program} {ops : Array Oper} {rest : List Oper} {op : Oper} {a : Act} {w : World} {Q : Exit → Act → World → Prop} (hgd : op.guard = none) (ty : TypeId) (x y : Operand) (ho : op.op = .store ty x y)
    (b : Nat) (cs : List Value) (hx : a.eval x = .pointer (some ⟨b, 0, none⟩)) (hy : a.eval y = .agg cs.toArray) {t : TypeId} {cs0 : Array Value} (hB : Blk w b t cs0) (hn : cs0.size = cs.length)
    (hi : (P.info? ty).map (·.size) = some cs.length) (h1 : ∀ v ∈ cs, v.oneCell' = true) (a0 : World) (hb : Below a0.heap.size a0 w) (hab : a0.heap.size ≤ b)
    (h : ∀ W', W'.rangeAt b 0 cs → Below a0.heap.size a0 W' → wpList P ops Q rest (a.put op.dst undef) W') : wpList P ops Q (op :: rest) a w := by
  refine wpList_store_mid hgd ty x y ho b 0 cs.toArray hx hy (hB.there_ (by simpa using hn)) (by simpa using hi) (all_oneCell_toArray h1) ?_
  exact h _ (World.rangeAt_setCells_same w b 0 cs (hB.there_ (by simpa using hn))) (bel_cells hb hab cs)
section
variable {P : Program} {fn : Func} {R : Ending → World → Prop} {a : Act} {w : World} {t u x : Tmp} {T : TypeId} {d : TypeDesc} {b : Nat} {cs : List Value}
theorem ret_row (h : fn.results = #[.cell t T]) (hp : a.tmps.getD t undef = .pointer (some ⟨b, 0, none⟩)) (hc : w.rangeAt b 0 cs) (hu : P.underlying T = some d) (hd : d.isRow = true) (hi : (P.info? T).map (·.size) = some cs.length)
    (hdf : a.defers = []) (hR : R (.returned (.agg cs.toArray)) w) : bodyPost P fn R .ret a w :=
  bodyPost_ret (v := .agg cs.toArray) (by
    have hp' : a.tmps[t]?.getD undef = .pointer (some ⟨b, 0, none⟩) := by simpa using hp
    simp [results, h, hp', asAddr, run_loadVar_mid w b 0 T cs d hc hu hd hi]) hdf hR
end
end Go.Proofs.YtgcjhicpkmhbaaaDoor
