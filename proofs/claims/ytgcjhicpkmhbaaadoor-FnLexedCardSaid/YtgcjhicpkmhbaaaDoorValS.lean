/- Slices of values and facts: the laws' helpers on them. Each answers what the plain function says and makes at most new blocks. No condition but lengths. -/
import Derived.Test.YtgcjhicpkmhbaaaDoorVal
import Derived.Test.YtgcjhicpkmhbaaaDoorSl
namespace Go.Proofs.YtgcjhicpkmhbaaaDoor
open Go.RowKit
set_option maxRecDepth 100000
set_option maxHeartbeats 2000000

def vC (v : Vl) : List Value := [.int .i64 v.k, .int .i64 v.n, .string v.s]
theorem vC_sz : Sz vC 3 := fun _ => rfl
theorem vC_inj (x y : Vl) (h : vC x = vC y) : x = y := by
  cases x; cases y; simp [vC] at h; simp [h]
/-- the cells of an element -/
theorem RdT.val {w : World} {B n : Nat} {A : Option Addr} {xs : List Vl} (h : RdT vC 3 w B A n xs) (hn : 0 < n) :
    ∃ b o, A = some ⟨b, o, none⟩ ∧ b < B ∧ ∀ k (hk : k < n), ∃ x y s, xs[k]'(by rw [h.1]; exact hk) = ⟨x, y, s⟩ ∧ w.cell? ⟨b, o + k * 3, none⟩ = some (.int .i64 x) ∧ w.cell? ⟨b, o + k * 3 + 1, none⟩ = some (.int .i64 y) ∧ w.cell? ⟨b, o + k * 3 + 2, none⟩ = some (.string s) := by
  obtain ⟨b, o, e, hb, hc⟩ := h.at_ vC_sz hn
  exact ⟨b, o, e, hb, fun k hk => ⟨_, _, _, rfl, hc k hk 0 _ (by omega) rfl, hc k hk 1 _ (by omega) rfl, hc k hk 2 _ (by omega) rfl⟩⟩
def szOf (v : Vl) : Nat := v.s.size
def totV (xs : List Vl) : Nat := xs.length + sumF szOf xs
theorem totV_mem {xs : List Vl} {x : Vl} (h : x ∈ xs) : x.s.size ≤ totV xs := by
  have := sumF_mem szOf xs x h
  unfold totV; unfold szOf at this ⊢; omega
end Go.Proofs.YtgcjhicpkmhbaaaDoor
