/- One append to a row of the call's own, with what it leaves of the rest; a literal's row is the call's own. Names no program. No condition but lengths. -/
import Derived.Test.YtgcjhicpkmhbaaaDoorApp
import Derived.Test.YtgcjhicpkmhbaaaDoorLit
import Derived.Test.YtgcjhicpkmhbaaaDoorStringS
import Derived.Test.YtgcjhicpkmhbaaaDoorBox
namespace Go.Proofs.YtgcjhicpkmhbaaaDoor
open Go Go.RowKit
theorem appTG {α : Type} {f : α → List Value} {z : Nat} {P : Program} {w : World} {ops : Array Oper} {rest : List Oper} {o : Oper} {a : Act} {Q : Exit → Act → World → Prop} (hgd : o.guard = none) (s x : Operand) (t : TypeId)
    (ho : o.op = .call { callee := .builtin .append, args := #[s, x], argTypes := #[t, t] }) (_hf : Sz f z)
    (base : Nat) (e : TypeId) (i : TypeInfo) {zv : Value} {bytes : Nat} (ht : P.underlying t = some (.slice e)) (hi : P.info? e = some i) (hz : i.zero = some zv) (hsize : i.size = z) (hby : i.bytes = bytes) (hzs : zv.cells.size = z) (hz0 : 0 < z)
    (v : Value) (xs : List α) (hs : a.eval s = v) (hown : OwnT f z w base e v xs) (A : Option Addr) (m c : Nat) (news : List α) {B : Nat} (hx : a.eval x = .slice A m c) (hr : RdT f z w B A m news) (h1 : ∀ u ∈ fl f news, u.oneCell' = true)
    (h63 : (xs.length + m) * bytes ≤ 140737488355328) (hbase : base ≤ w.heap.size)
    (h : ∀ v' w', OwnT f z w' base e v' (xs ++ news) → Below base w w' → w.grownBy w' v.ownBlock → wpList P ops Q rest (a.put o.dst v') w') (hml : xs.length + m ≤ 140737488355328 := by omega) : wpList P ops Q (o :: rest) a w := by
  have hl := hr.len
  refine wpList_append_any hgd s x t ho base e i zv z bytes ht hi hz hsize hby hzs hz0 v xs.length _ hs hown B A m c _ hx hr.2 h1 (by simp only [maxLen]; omega) h63 hbase fun v' w' h2 h3 => ?_
  refine h v' w' ?_ ((Below.refl base w).grown h3 hbase fun k hk => (World.ownsRow.lt hown k hk).1) h3
  unfold OwnT
  rw [fl_append, List.length_append, hl]
  exact h2
theorem lit_own {α : Type} {f : α → List Value} {z : Nat} (hf : Sz f z) (w : World) (e : TypeId) (xs : List α) (hm : xs.length ≤ maxLen) : OwnT f z (w.alloc (.cells (fl f xs).toArray e)) w.heap.size e (.slice (some ⟨w.heap.size, 0, none⟩) xs.length xs.length) xs := by
  have := World.ownsRow_lit (base := w.heap.size) (e := e) (size := z) w (fl f xs).toArray xs.length (Nat.le_refl _) hm (by rw [List.size_toArray, fl_len hf])
  exact this
theorem row_ne {w : World} {base b2 : Nat} {e e2 : TypeId} {s1 s2 n1 n2 : Nat} {v u : Value} {xs ys : List Value} (h : w.ownsRow base e s1 v n1 xs) (k : w.ownsRow b2 e2 s2 u n2 ys) (hne : e ≠ e2) : v.ownBlock = none ∨ v.ownBlock ≠ u.ownBlock := by
  rcases h.2 with ⟨rfl, _⟩ | ⟨g, cap, cur, rfl, _, hg, _⟩
  · exact .inl rfl
  · refine .inr fun he => ?_
    rcases k.2 with ⟨rfl, _⟩ | ⟨g2, cap2, cur2, rfl, _, hg2, _⟩
    · simp [Value.ownBlock] at he
    · simp [Value.ownBlock] at he
      subst he
      rw [hg] at hg2
      simp at hg2
      exact hne hg2.2
theorem row_blk_ne {α : Type} {f : α → List Value} {z : Nat} {w : World} {base : Nat} {e : TypeId} {v : Value} {xs : List α} (h : OwnT f z w base e v xs) {b : Nat} {t : TypeId} {cs : Array Value} (hB : Blk w b t cs) (hne : e ≠ t) : v.ownBlock ≠ some b := by
  intro hv
  rcases h.2 with ⟨rfl, _⟩ | ⟨g, cap, cur, rfl, _, hg, _⟩
  · cases hv
  · injection hv with hv
    have hv : g = b := hv
    subst hv
    unfold Blk at hB
    rw [hg] at hB
    injection hB with hB
    injection hB with h1 h2
    exact hne h2
theorem row_set {α : Type} {f : α → List Value} {z : Nat} {w : World} {base : Nat} {e : TypeId} {v : Value} {xs : List α} (h : OwnT f z w base e v xs) {b : Nat} {t : TypeId} {cs : Array Value} (hB : Blk w b t cs) (hne : e ≠ t) (i : Nat) (u : Value) : OwnT f z (w.setCell ⟨b, i, none⟩ u) base e v xs :=
  World.ownsRow.kept h (row := some b) ⟨rfl, rfl, rfl, by simp, fun k _ hk => heap_setCell_other w ⟨b, i, none⟩ k u (fun e => hk (by rw [e]))⟩ (.inr (row_blk_ne h hB hne))
theorem fl_string : ∀ xs : List ByteArray, fl sC xs = xs.map Value.string
  | [] => rfl
  | a :: l => by
    have := fl_string l
    simp only [fl, List.flatMap_cons, List.map_cons] at this ⊢
    rw [this]
    rfl
end Go.Proofs.YtgcjhicpkmhbaaaDoor
