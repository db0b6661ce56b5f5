/- Slices of small structs: what a slice value reads as, and what a row of the call's own holds. Names no program. No condition. -/
import Derived.Test.YtgcjhicpkmhbaaaDoorOwn
namespace Go.Proofs.YtgcjhicpkmhbaaaDoor
open Go.RowKit

/-- the cells of a list of structs, z cells each -/
def fl {α : Type} (f : α → List Value) (xs : List α) : List Value := xs.flatMap f
def Sz {α : Type} (f : α → List Value) (z : Nat) : Prop := ∀ x, (f x).length = z
theorem fl_len {α : Type} {f : α → List Value} {z : Nat} (hf : Sz f z) (xs : List α) : (fl f xs).length = xs.length * z := by
  induction xs with
  | nil => simp [fl]
  | cons a l ih =>
    have : (fl f (a :: l)).length = (f a).length + (fl f l).length := by simp [fl]
    rw [this, ih, hf a, List.length_cons, Nat.succ_mul, Nat.add_comm]
theorem fl_append {α : Type} (f : α → List Value) (xs ys : List α) : fl f (xs ++ ys) = fl f xs ++ fl f ys := by simp [fl]
theorem fl_one {α : Type} (f : α → List Value) (x : α) : fl f [x] = f x := by simp [fl]
theorem fl_get {α : Type} {f : α → List Value} {z : Nat} (hf : Sz f z) : ∀ (xs : List α) (k d : Nat) (hk : k < xs.length), d < z → (fl f xs)[k * z + d]? = (f xs[k])[d]?
  | a :: l, 0, d, _, hd => by
    have : fl f (a :: l) = f a ++ fl f l := by simp [fl]
    rw [this, Nat.zero_mul, Nat.zero_add, List.getElem?_append_left (by rw [hf a]; exact hd)]
    rfl
  | a :: l, k + 1, d, hk, hd => by
    have : fl f (a :: l) = f a ++ fl f l := by simp [fl]
    rw [this, List.getElem?_append_right (by rw [hf a, Nat.succ_mul]; omega), hf a, show (k + 1) * z + d - z = k * z + d by rw [Nat.succ_mul]; omega]
    rw [fl_get hf l k d (by simpa using hk) hd]
    rfl
theorem fl_inj {α : Type} {f : α → List Value} {z : Nat} (hf : Sz f z) (hz : 0 < z) (hi : ∀ x y, f x = f y → x = y) {xs ys : List α} (h : fl f xs = fl f ys) : xs = ys := by
  have hl : xs.length = ys.length := by
    have := congrArg List.length h
    rw [fl_len hf, fl_len hf] at this
    exact Nat.eq_of_mul_eq_mul_right hz this
  refine List.ext_getElem hl fun k h1 h2 => hi _ _ (List.ext_getElem? fun d => ?_)
  by_cases hd : d < z
  · rw [← fl_get hf xs k d h1 hd, ← fl_get hf ys k d h2 hd, h]
  · rw [List.getElem?_eq_none (by rw [hf]; omega), List.getElem?_eq_none (by rw [hf]; omega)]

/-- a slice of structs -/
def RdT {α : Type} (f : α → List Value) (z : Nat) (w : World) (B : Nat) (A : Option Addr) (n : Nat) (xs : List α) : Prop := xs.length = n ∧ Rd w B z A n (fl f xs)
section
variable {α : Type} {f : α → List Value} {z : Nat} {w w' : World} {B B' n : Nat} {A : Option Addr} {xs : List α}
theorem RdT.len (h : RdT f z w B A n xs) : xs.length = n := h.1
theorem RdT.below (h : RdT f z w B A n xs) (hb : Below B w w') : RdT f z w' B A n xs := ⟨h.1, h.2.below hb⟩
theorem RdT.more (h : RdT f z w B A n xs) (hB : B ≤ B') : RdT f z w B' A n xs := ⟨h.1, h.2.more hB⟩
theorem RdT.drew (h : RdT f z w B A n xs) : RdT f z w.drew B A n xs := h
theorem RdT.drewN (h : RdT f z w B A n xs) (k : Nat) : RdT f z (w.drewN k) B A n xs := h
theorem RdT.nil_ (w : World) (B : Nat) (A : Option Addr) : RdT f z w B A 0 [] := ⟨rfl, Rd.nil_ w B z A⟩
theorem RdT.at_ (h : RdT f z w B A n xs) (hf : Sz f z) (hn : 0 < n) :
    ∃ b o, A = some ⟨b, o, none⟩ ∧ b < B ∧ ∀ k (hk : k < n) d u, d < z → (f (xs[k]'(by rw [h.1]; exact hk)))[d]? = some u → w.cell? ⟨b, o + k * z + d, none⟩ = some u := by
  obtain ⟨b, o, e, hb, hc⟩ := h.2.2 hn
  refine ⟨b, o, e, hb, fun k hk d u hd hu => ?_⟩
  rw [Nat.add_assoc]
  exact hc (k * z + d) u (by rw [fl_get hf xs k d (by rw [h.1]; exact hk) hd]; exact hu)
theorem RdT.front (h : RdT f z w B A n xs) (hf : Sz f z) (k : Nat) (hk : k ≤ n) : RdT f z w B A k (xs.take k) := by
  have hl := h.1
  refine ⟨by simp; omega, by rw [fl_len hf, List.length_take, Nat.min_eq_left (by omega)], fun h0 => ?_⟩
  obtain ⟨b, o, e, hb, hc⟩ := h.2.2 (by omega)
  refine ⟨b, o, e, hb, fun j u hu => hc j u ?_⟩
  have hj : j < k * z := by
    rcases Nat.lt_or_ge j (k * z) with h1 | h1
    · exact h1
    · rw [List.getElem?_eq_none (by rw [fl_len hf]; simp; rw [Nat.min_eq_left (by omega)]; exact h1)] at hu; cases hu
  have : fl f xs = fl f (xs.take k) ++ fl f (xs.drop k) := by rw [← fl_append, List.take_append_drop]
  rw [this, List.getElem?_append_left (by rw [fl_len hf]; simp; rw [Nat.min_eq_left (by omega)]; exact hj)]
  exact hu
end

/-- the same, with where it lies: below block B, which is there -/
def RdS {α : Type} (f : α → List Value) (z : Nat) (w : World) (B : Nat) (A : Option Addr) (n : Nat) (xs : List α) : Prop := B ≤ w.heap.size ∧ RdT f z w B A n xs
section
variable {α : Type} {f : α → List Value} {z : Nat} {w w' : World} {B n : Nat} {A : Option Addr} {xs : List α}
theorem RdS.len (h : RdS f z w B A n xs) : xs.length = n := h.2.1
theorem RdS.kept (h : RdS f z w B A n xs) (hb : Below w.heap.size w w') : RdS f z w' B A n xs := ⟨Nat.le_trans h.1 hb.size, h.2.below (hb.mono h.1)⟩
theorem RdS.drew (h : RdS f z w B A n xs) : RdS f z w.drew B A n xs := h
theorem RdS.drewN (h : RdS f z w B A n xs) (k : Nat) : RdS f z (w.drewN k) B A n xs := h
theorem RdS.alloc (h : RdS f z w B A n xs) (o : Obj) : RdS f z (w.alloc o) B A n xs := ⟨by have := h.1; simp; omega, h.2.below ((Below.refl B w).alloc h.1 o)⟩
theorem RdS.setCell (h : RdS f z w B A n xs) {p : Addr} (hp : B ≤ p.block) (u : Value) : RdS f z (w.setCell p u) B A n xs := ⟨by simpa using h.1, h.2.below ((Below.refl B w).setCell hp u)⟩
theorem RdS.belowB (h : RdS f z w B A n xs) (hb : Below B w w') : RdS f z w' B A n xs := ⟨Nat.le_trans h.1 hb.size, h.2.below hb⟩
end

/-- a row of structs of the call's own -/
def OwnT {α : Type} (f : α → List Value) (z : Nat) (w : World) (base : Nat) (e : TypeId) (v : Value) (xs : List α) : Prop := w.ownsRow base e z v xs.length (fl f xs)
section
variable {α : Type} {f : α → List Value} {z : Nat} {w w' : World} {base b2 : Nat} {e : TypeId} {v : Value} {xs : List α}
theorem OwnT.form (h : OwnT f z w base e v xs) : ∃ A c, v = .slice A xs.length c ∧ xs.length ≤ c ∧ RdT f z w w.heap.size A xs.length xs := by
  obtain ⟨A, c, rfl, h1, _⟩ := own_slice h
  exact ⟨A, c, rfl, h1, rfl, Rd.of_own h⟩
theorem OwnT.rd (h : OwnT f z w base e v xs) : ∃ A c, v = .slice A xs.length c ∧ xs.length ≤ c ∧ RdS f z w w.heap.size A xs.length xs := by
  obtain ⟨A, c, rfl, h1, h2⟩ := h.form
  exact ⟨A, c, rfl, h1, Nat.le_refl _, h2⟩
theorem OwnT.kept (h : OwnT f z w base e v xs) (hb : Below w.heap.size w w') : OwnT f z w' base e v xs := own_kept h hb
theorem OwnT.nil_ (w : World) (base : Nat) (e : TypeId) : OwnT f z w base e (.slice none 0 0) [] := World.ownsRow_nil w base e z
theorem OwnT.lower (h : OwnT f z w base e v xs) (hb : b2 ≤ base) : OwnT f z w b2 e v xs := by
  refine ⟨h.1, ?_⟩
  rcases h.2 with hn | ⟨g, cap, cur, rfl, hb', rest⟩
  · exact .inl hn
  · exact .inr ⟨g, cap, cur, rfl, Nat.le_trans hb hb', rest⟩
theorem OwnT.drewN (h : OwnT f z w base e v xs) (k : Nat) : OwnT f z (w.drewN k) base e v xs := h
theorem OwnT.low (h : OwnT f z w base e v xs) {p : Addr} (hp : p.block < base) (u : Value) : OwnT f z (w.setCell p u) base e v xs := by
  refine World.ownsRow.kept h (row := some p.block) ⟨rfl, rfl, rfl, by simp, fun k _ hk => heap_setCell_other w p k u (fun e => hk (by rw [e]))⟩ ?_
  cases hb : v.ownBlock with
  | none => exact .inl rfl
  | some k => exact .inr fun e => by injection e with e; have := (World.ownsRow.lt h k hb).1; omega
theorem OwnT.inB (h : OwnT f z w base e v xs) : InB v base w.heap.size := InB.of_own h
end
theorem own_there {w : World} {base : Nat} {e : TypeId} {size n cap g : Nat} {xs : List Value} (h : w.ownsRow base e size (.slice (some ⟨g, 0, none⟩) n cap) n xs) (j : Nat) (hj : j < n * size) : (∃ old, w.cell? ⟨g, j, none⟩ = some old) ∧ w.frozen? ⟨g, j, none⟩ = false := by
  refine ⟨?_, h.frozenAt j⟩
  rw [h.cellAt j hj]
  exact ⟨_, List.getElem?_eq_getElem (by rw [h.1]; exact hj)⟩
def szR (left : Int) (t : Nat) : Int := if (t : Int) ≤ left then left - t else -1
theorem szR_fit {left : Int} {t : Nat} (h : (t : Int) ≤ left) : szR left t = left - t := if_pos h
theorem szR_big {left : Int} {t : Nat} (h : left < (t : Int)) : szR left t = -1 := if_neg (by omega)
/-- the sum of what f says of each -/
def sumF {α : Type} (f : α → Nat) (xs : List α) : Nat := (xs.map f).sum
theorem sumF_snoc {α : Type} (f : α → Nat) (xs : List α) (k : Nat) (hk : k < xs.length) : sumF f (xs.take (k + 1)) = sumF f (xs.take k) + f xs[k] := by
  unfold sumF
  rw [List.take_succ_eq_append_getElem hk, List.map_append, List.sum_append_nat]
  simp
theorem sumF_full {α : Type} (f : α → Nat) (xs : List α) (k : Nat) (hk : xs.length ≤ k) : sumF f (xs.take k) = sumF f xs := by rw [List.take_of_length_le hk]
theorem sumF_take_le {α : Type} (f : α → Nat) (xs : List α) (k : Nat) : sumF f (xs.take k) ≤ sumF f xs := by
  have h : sumF f xs = sumF f (xs.take k) + sumF f (xs.drop k) := by
    unfold sumF
    rw [← List.sum_append_nat, ← List.map_append, List.take_append_drop]
  omega
theorem sumF_mem {α : Type} (f : α → Nat) (xs : List α) (x : α) (h : x ∈ xs) : f x ≤ sumF f xs := by
  induction xs with
  | nil => cases h
  | cons a l ih =>
    have e : sumF f (a :: l) = f a + sumF f l := by simp [sumF]
    rcases List.mem_cons.1 h with rfl | h
    · omega
    · have := ih h; omega
/-- two lists of cells agree up to place j -/
def Agree (ys zs : List Value) (j : Nat) : Prop := ∀ i, i < j → ys[i]? = zs[i]?
theorem Agree.zero (ys zs : List Value) : Agree ys zs 0 := fun _ h => absurd h (by omega)
theorem Agree.set {ys zs : List Value} {j : Nat} {u : Value} (h : Agree ys zs j) (hj : j < ys.length) (hu : zs[j]? = some u) : Agree (ys.set j u) zs (j + 1) := by
  intro i hi
  rw [List.getElem?_set]
  by_cases e : j = i
  · subst e
    rw [if_pos rfl, if_pos hj, hu]
  · rw [if_neg e]
    exact h i (by omega)
theorem Agree.full {ys zs : List Value} {j : Nat} (h : Agree ys zs j) (h1 : ys.length = j) (h2 : zs.length = j) : ys = zs := by
  refine List.ext_getElem? fun i => ?_
  by_cases hi : i < j
  · exact h i hi
  · rw [List.getElem?_eq_none (by omega), List.getElem?_eq_none (by omega)]
theorem agree_fl {α : Type} {f : α → List Value} {z : Nat} (hf : Sz f z) {ys : List Value} {xs : List α} {k d : Nat} {u : Value} (hk : k < xs.length) (hd : d < z) (hu : (f xs[k])[d]? = some u) (h : Agree ys (fl f xs) (k * z + d)) (hl : ys.length = xs.length * z) : Agree (ys.set (k * z + d) u) (fl f xs) (k * z + d + 1) := by
  refine h.set ?_ (by rw [fl_get hf xs k d hk hd, hu])
  rw [hl]
  have : k * z + z ≤ xs.length * z := by rw [← Nat.succ_mul]; exact Nat.mul_le_mul_right _ hk
  omega
/-- lists agree up to element k -/
def Same {α : Type} (xs ys : List α) (k : Nat) : Prop := ∀ j (h1 : j < xs.length) (h2 : j < ys.length), j < k → xs[j] = ys[j]
theorem Same.zero {α : Type} (xs ys : List α) : Same xs ys 0 := fun _ _ _ h => absurd h (by omega)
theorem Same.succ {α : Type} {xs ys : List α} {k : Nat} (h : Same xs ys k) (h1 : k < xs.length) (h2 : k < ys.length) (he : xs[k] = ys[k]) : Same xs ys (k + 1) := by
  intro j h3 h4 hj
  by_cases e : j = k
  · subst e; exact he
  · exact h j h3 h4 (by omega)
theorem Same.full {α : Type} {xs ys : List α} {k : Nat} (h : Same xs ys k) (hl : xs.length = ys.length) (hk : xs.length ≤ k) : xs = ys :=
  List.ext_getElem hl fun j h1 h2 => h j h1 h2 (by omega)
end Go.Proofs.YtgcjhicpkmhbaaaDoor
