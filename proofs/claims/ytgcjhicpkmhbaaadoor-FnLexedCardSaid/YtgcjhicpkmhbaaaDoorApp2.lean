/- append to a row of structs of the call's own, inside a region that draws its order. Names no program. No condition. -/
import Derived.Test.YtgcjhicpkmhbaaaDoorApp
namespace Go.Proofs.YtgcjhicpkmhbaaaDoor
open Go.RowKit

theorem appO {α : Type} {f : α → List Value} {z : Nat} {P : Program} {w : World} {o : Oper} {a : Act} {K : Act → World → Prop} {Q : Exit → Act → World → Prop} (s x : Operand) (t : TypeId)
    (ho : o.op = .call { callee := .builtin .append, args := #[s, x], argTypes := #[t, t] }) (_hf : Sz f z)
    (base : Nat) (e : TypeId) (i : TypeInfo) {zv : Value} {bytes : Nat} (ht : P.underlying t = some (.slice e)) (hi : P.info? e = some i) (hz : i.zero = some zv) (hsize : i.size = z) (hby : i.bytes = bytes) (hzs : zv.cells.size = z) (hz0 : 0 < z)
    (v : Value) (xs : List α) (hs : a.eval s = v) (hown : OwnT f z w base e v xs) (A : Option Addr) (m c : Nat) (news : List α) {B : Nat} (hx : a.eval x = .slice A m c) (hr : RdT f z w B A m news) (h1 : ∀ u ∈ fl f news, u.oneCell' = true)
    (h63 : (xs.length + m) * bytes ≤ 140737488355328) (hbase : base ≤ w.heap.size)
    (h : ∀ v' w', OwnT f z w' base e v' (xs ++ news) → Below base w w' → w.heap.size ≤ w'.heap.size → K (a.put o.dst v') w') (hml : xs.length + m ≤ 140737488355328 := by omega) : o.wp P a w K Q := by
  have hl := hr.len
  refine wp_append_any s x t ho base e i zv z bytes ht hi hz hsize hby hzs hz0 v xs.length _ hs hown B A m c _ hx hr.2 h1 (by simp only [maxLen]; omega) h63 hbase fun v' w' h2 h3 => ?_
  refine h v' w' ?_ ((Below.refl base w).grown h3 hbase fun k hk => (World.ownsRow.lt hown k hk).1) h3.size
  unfold OwnT
  rw [fl_append, List.length_append, hl]
  exact h2
end Go.Proofs.YtgcjhicpkmhbaaaDoor
