/- What the walks of the laws carry from call to call: readings, rows of the call's own, where they lie. Names no program. No condition. -/
import Derived.Test.YtgcjhicpkmhbaaaDoorSl
namespace Go.Proofs.YtgcjhicpkmhbaaaDoor
open Go.RowKit

/-- bytes: a reading with where it lies -/
def RdY (w : World) (B : Nat) (A : Option Addr) (n : Nat) (bs : List UInt8) : Prop := B ≤ w.heap.size ∧ RdB w B A n bs
section
variable {w w' : World} {B n : Nat} {A : Option Addr} {bs : List UInt8}
theorem RdY.len (h : RdY w B A n bs) : bs.length = n := h.2.len
theorem RdY.b (h : RdY w B A n bs) : RdB w B A n bs := h.2
theorem RdY.le (h : RdY w B A n bs) : B ≤ w.heap.size := h.1
theorem RdY.kept (h : RdY w B A n bs) (hb : Below w.heap.size w w') : RdY w' B A n bs := ⟨Nat.le_trans h.1 hb.size, h.2.below (hb.mono h.1)⟩
theorem RdY.alloc (h : RdY w B A n bs) (o : Obj) : RdY (w.alloc o) B A n bs := ⟨by have := h.1; simp; omega, h.2.below ((Below.refl B w).alloc h.1 o)⟩
theorem RdY.drew (h : RdY w B A n bs) : RdY w.drew B A n bs := h
theorem RdY.drewN (h : RdY w B A n bs) (k : Nat) : RdY (w.drewN k) B A n bs := h
theorem RdY.belowB (h : RdY w B A n bs) (hb : Below B w w') : RdY w' B A n bs := ⟨Nat.le_trans h.1 hb.size, h.2.below hb⟩
end
theorem OwnB.lower {w : World} {base b2 : Nat} {e : TypeId} {v : Value} {bs : List UInt8} (h : OwnB w base e v bs) (hb : b2 ≤ base) : OwnB w b2 e v bs := own_base h hb
theorem OwnB.rdO {w : World} {base : Nat} {e : TypeId} {A : Option Addr} {c : Nat} {bs : List UInt8} (h : OwnB w base e (.slice A bs.length c) bs) : RdY w w.heap.size A bs.length bs := ⟨Nat.le_refl _, Rd.of_own h⟩
theorem OwnB.rdM {w : World} {base : Nat} {e : TypeId} {A : Option Addr} {n c : Nat} {bs : List UInt8} (h : OwnB w base e (.slice A n c) bs) (hl : bs.length = n) : RdY w w.heap.size A n bs := by
  subst hl; exact h.rdO
theorem OwnB.inL {w : World} {base lo : Nat} {e : TypeId} {v : Value} {bs : List UInt8} (h : OwnB w base e v bs) (hl : lo ≤ base) : InB v lo w.heap.size := fun k hk => by
  have := InB.of_own h k hk; omega
theorem OwnB.far {w w' : World} {base : Nat} {e : TypeId} {v u : Value} {bs : List UInt8} {l1 h1 l2 h2 : Nat} (h : OwnB w base e v bs) (hg : w.grownBy w' u.ownBlock) (hv : InB v l1 h1) (hu : InB u l2 h2) (hd : h1 ≤ l2 ∨ h2 ≤ l1) : OwnB w' base e v bs := own_far h hg hv hu hd
theorem OwnB.alloc {w : World} {base : Nat} {e : TypeId} {v : Value} {bs : List UInt8} (h : OwnB w base e v bs) (o : Obj) : OwnB (w.alloc o) base e v bs := World.ownsRow.alloc h o
theorem OwnB.drew {w : World} {base : Nat} {e : TypeId} {v : Value} {bs : List UInt8} (h : OwnB w base e v bs) : OwnB w.drew base e v bs := h
section
variable {α : Type} {f : α → List Value} {z : Nat} {w w' : World} {base lo : Nat} {e : TypeId} {v u : Value} {xs : List α}
theorem OwnT.rdO {A : Option Addr} {c : Nat} (h : OwnT f z w base e (.slice A xs.length c) xs) : RdS f z w w.heap.size A xs.length xs := ⟨Nat.le_refl _, rfl, Rd.of_own h⟩
theorem OwnT.rdM {A : Option Addr} {n c : Nat} (h : OwnT f z w base e (.slice A n c) xs) (hl : xs.length = n) : RdS f z w w.heap.size A n xs := by
  subst hl; exact h.rdO
theorem OwnT.inL (h : OwnT f z w base e v xs) (hl : lo ≤ base) : InB v lo w.heap.size := fun k hk => by
  have := InB.of_own h k hk; omega
theorem OwnT.far {l1 h1 l2 h2 : Nat} (h : OwnT f z w base e v xs) (hg : w.grownBy w' u.ownBlock) (hv : InB v l1 h1) (hu : InB u l2 h2) (hd : h1 ≤ l2 ∨ h2 ≤ l1) : OwnT f z w' base e v xs := own_far h hg hv hu hd
theorem OwnT.alloc (h : OwnT f z w base e v xs) (o : Obj) : OwnT f z (w.alloc o) base e v xs := World.ownsRow.alloc h o
theorem OwnT.drew (h : OwnT f z w base e v xs) : OwnT f z w.drew base e v xs := h
end
theorem cell_far {w w' : World} {u : Value} {lo hi b o : Nat} {x : Value} (h : w.cell? ⟨b, o, none⟩ = some x) (hg : w.grownBy w' u.ownBlock) (hu : InB u lo hi) (hd : b < lo ∨ hi ≤ b) : w'.cell? ⟨b, o, none⟩ = some x :=
  hg.cell (a := ⟨b, o, none⟩) h (fun e => by have := hu b e.symm; omega)
end Go.Proofs.YtgcjhicpkmhbaaaDoor
