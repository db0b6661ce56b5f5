/- append to a row of structs of the call's own. Names no program. No condition. -/
import Derived.Test.YtgcjhicpkmhbaaaDoorStep
namespace Go.Proofs.YtgcjhicpkmhbaaaDoor
open Go.RowKit

theorem appT {α : Type} {f : α → List Value} {z : Nat} {P : Program} {w : World} {ops : Array Oper} {rest : List Oper} {o : Oper} {a : Act} {Q : Exit → Act → World → Prop} (hgd : o.guard = none) (s x : Operand) (t : TypeId)
    (ho : o.op = .call { callee := .builtin .append, args := #[s, x], argTypes := #[t, t] }) (_hf : Sz f z)
    (base : Nat) (e : TypeId) (i : TypeInfo) {zv : Value} {bytes : Nat} (ht : P.underlying t = some (.slice e)) (hi : P.info? e = some i) (hz : i.zero = some zv) (hsize : i.size = z) (hby : i.bytes = bytes) (hzs : zv.cells.size = z) (hz0 : 0 < z)
    (v : Value) (xs : List α) (hs : a.eval s = v) (hown : OwnT f z w base e v xs) (A : Option Addr) (m c : Nat) (news : List α) {B : Nat} (hx : a.eval x = .slice A m c) (hr : RdT f z w B A m news) (h1 : ∀ u ∈ fl f news, u.oneCell' = true)
    (h63 : (xs.length + m) * bytes ≤ 140737488355328) (hbase : base ≤ w.heap.size)
    (h : ∀ v' w', OwnT f z w' base e v' (xs ++ news) → Below base w w' → w.heap.size ≤ w'.heap.size → wpList P ops Q rest (a.put o.dst v') w') (hml : xs.length + m ≤ 140737488355328 := by omega) : wpList P ops Q (o :: rest) a w := by
  have hl := hr.len
  refine wpList_append_any hgd s x t ho base e i zv z bytes ht hi hz hsize hby hzs hz0 v xs.length _ hs hown B A m c _ hx hr.2 h1 (by simp only [maxLen]; omega) h63 hbase fun v' w' h2 h3 => ?_
  refine h v' w' ?_ ((Below.refl base w).grown h3 hbase fun k hk => (World.ownsRow.lt hown k hk).1) h3.size
  unfold OwnT
  rw [fl_append, List.length_append, hl]
  exact h2
/-- one element in a new block -/
theorem RdT.new1 {α : Type} {f : α → List Value} {z : Nat} (hf : Sz f z) (w : World) (e : TypeId) (x : α) : RdT f z (w.alloc (.cells (f x).toArray e)) (w.heap.size + 1) (some ⟨w.heap.size, 0, none⟩) 1 [x] := by
  refine ⟨rfl, by rw [fl_one, hf x, Nat.one_mul], fun _ => ⟨w.heap.size, 0, rfl, by omega, fun j u hu => ?_⟩⟩
  rw [cell_of_row (w.alloc (.cells (f x).toArray e)) w.heap.size (0 + j) (f x).toArray e (0, 0) (heap_alloc_new w _)]
  rw [fl_one] at hu
  simpa using hu
end Go.Proofs.YtgcjhicpkmhbaaaDoor
