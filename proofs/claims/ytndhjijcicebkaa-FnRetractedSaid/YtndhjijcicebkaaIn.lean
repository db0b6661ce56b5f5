/- What changes only in blocks lo .. hi - 1 leaves all else alone. Names no program. No condition. -/
import Derived.Test.YtndhjijcicebkaaStep
namespace Go.Proofs.Ytndhjijcicebkaa
open Go.RowKit

structure GrIn (w w' : World) (lo hi : Nat) : Prop where
  os : w'.os = w.os
  tape : w'.tape = w.tape
  output : w'.output = w.output
  size : w.heap.size ≤ w'.heap.size
  block : ∀ k, k < w.heap.size → (k < lo ∨ hi ≤ k) → w'.heap[k]? = w.heap[k]?
section
variable {w w1 w2 w' : World} {lo hi : Nat}
theorem GrIn.refl (w : World) (lo hi : Nat) : GrIn w w lo hi := ⟨rfl, rfl, rfl, Nat.le_refl _, fun _ _ _ => rfl⟩
theorem GrIn.trans (h : GrIn w w1 lo hi) (h2 : GrIn w1 w2 lo hi) : GrIn w w2 lo hi :=
  ⟨h2.os.trans h.os, h2.tape.trans h.tape, h2.output.trans h.output, Nat.le_trans h.size h2.size, fun k hk hd => (h2.block k (Nat.lt_of_lt_of_le hk h.size) hd).trans (h.block k hk hd)⟩
theorem GrIn.grown {u : Value} (hg : w.grownBy w' u.ownBlock) (hu : InB u lo hi) : GrIn w w' lo hi :=
  ⟨hg.os, hg.tape, hg.output, hg.size, fun k hk hd => hg.block k hk (fun e => by have := hu k e.symm; omega)⟩
theorem GrIn.alloc (h : GrIn w w1 lo hi) (o : Obj) : GrIn w (w1.alloc o) lo hi :=
  h.trans ⟨rfl, rfl, rfl, by simp, fun k hk _ => heap_alloc_old w1 o hk⟩
theorem GrIn.below (h : GrIn w w1 lo hi) (hb : Below w1.heap.size w1 w2) : GrIn w w2 lo hi :=
  h.trans ⟨hb.os, hb.tape, hb.output, hb.size, fun k hk _ => hb.block k hk⟩
theorem GrIn.set (h : GrIn w w1 lo hi) {p : Addr} (hp : lo ≤ p.block ∧ p.block < hi) (u : Value) : GrIn w (w1.setCell p u) lo hi :=
  h.trans ⟨rfl, rfl, rfl, by simp, fun k _ hd => heap_setCell_other w1 p k u (by omega)⟩
theorem GrIn.bel {B : Nat} (h : GrIn w w' lo hi) (hB : B ≤ lo) (hs : B ≤ w.heap.size) : Below B w w' :=
  ⟨h.os, h.tape, h.output, h.size, fun k hk => h.block k (by omega) (by omega)⟩
theorem GrIn.cell {b o : Nat} {x : Value} (h : GrIn w w' lo hi) (hc : w.cell? ⟨b, o, none⟩ = some x) (hd : b < lo ∨ hi ≤ b) : w'.cell? ⟨b, o, none⟩ = some x :=
  (World.cell?_of_block (a := ⟨b, o, none⟩) (h.block b (cell_lt hc) hd)).trans hc
end
theorem own_in {w w' : World} {base : Nat} {e : TypeId} {size n : Nat} {v : Value} {xs : List Value} {l1 h1 lo hi : Nat} (h : w.ownsRow base e size v n xs) (hg : GrIn w w' lo hi) (hv : InB v l1 h1) (hd : h1 ≤ lo ∨ hi ≤ l1) : w'.ownsRow base e size v n xs := by
  refine ⟨h.1, ?_⟩
  rcases h.2 with hn | ⟨g, cap, cur, rfl, hb, hgg, rest⟩
  · exact .inl hn
  · refine .inr ⟨g, cap, cur, rfl, hb, ?_, rest⟩
    have := hv g rfl
    rw [hg.block g (Array.getElem?_eq_some_iff.1 hgg).1 (by omega)]
    exact hgg
theorem OwnT.inn {α : Type} {f : α → List Value} {z : Nat} {w w' : World} {base : Nat} {e : TypeId} {v : Value} {xs : List α} {l1 h1 lo hi : Nat} (h : OwnT f z w base e v xs) (hg : GrIn w w' lo hi) (hv : InB v l1 h1) (hd : h1 ≤ lo ∨ hi ≤ l1) : OwnT f z w' base e v xs := own_in h hg hv hd
end Go.Proofs.Ytndhjijcicebkaa
