/- What the walks of the laws on stores need. Names no program. No condition. -/
import Derived.Test.YtndhjijcicebkaaItem
import Derived.Test.YtndhjijcicebkaaStore
import Derived.Test.YtndhjijcicebkaaItemM
namespace Go.Proofs.Ytndhjijcicebkaa
open Go.RowKit

theorem map_len {rs rs' : List IR} (h : rs'.map itOf = rs.map itOf) : rs'.length = rs.length := by simpa using congrArg List.length h
theorem fs_le {N M : Nat} {rs : List IR} (hs : ∀ r ∈ rs, r.fs.length ≤ N) (hNM : N ≤ M) : ∀ r ∈ rs, r.fs.length ≤ M := fun r hr => Nat.le_trans (hs r hr) hNM
theorem fs_map {N : Nat} {rs rs' : List IR} (h : rs'.map itOf = rs.map itOf) (hs : ∀ r ∈ rs, r.fs.length ≤ N) : ∀ r ∈ rs', r.fs.length ≤ N := fun r hr => by
  have h1 : itOf r ∈ rs.map itOf := by rw [← h]; exact List.mem_map_of_mem hr
  obtain ⟨q, hq, he⟩ := List.mem_map.1 h1
  have h2 := hs q hq
  have : q.fs = r.fs := congrArg (fun x : It => x.f.fs) he
  rw [← this]; omega
theorem good_map {N M : Nat} {rs rs' : List IR} (h : rs'.map itOf = rs.map itOf) (hg : ∀ r ∈ rs, goodI r) (hs : ∀ r ∈ rs', r.fs.length ≤ N) (hNM : N ≤ M) : ∀ r ∈ rs', goodI r ∧ r.fs.length ≤ M := fun r hr => by
  have h1 : itOf r ∈ rs.map itOf := by rw [← h]; exact List.mem_map_of_mem hr
  obtain ⟨q, hq, he⟩ := List.mem_map.1 h1
  have h2 := hg q hq
  have e1 : q.fs = r.fs := congrArg (fun x : It => x.f.fs) he
  have e2 : q.kd = r.kd := congrArg (fun x : It => x.f.kd) he
  refine ⟨?_, by have := hs r hr; omega⟩
  unfold goodI at h2 ⊢
  rw [← e1, ← e2]; exact h2
theorem st_eq {l1 l2 l : List It} {nx : Int} (h1 : l1 = l) (h2 : l2 = l) : St.mk l1 nx = St.mk l2 nx := by rw [h1, h2]
theorem totSt_fs {rs : List IR} (h : (totSt rs : Int) ≤ 1048576) : ∀ r ∈ rs, r.fs.length ≤ 1048576 := fun r hr => by
  have h1 := totI_mem hr
  unfold szIt totF totV at h1
  unfold totSt at h
  simp only at h1
  omega
theorem sumF_map {rs : List IR} : sumF (fun r : IR => r.fs.length) rs = sumF (fun x : It => x.f.fs.length) (rs.map itOf) := by
  unfold sumF
  rw [List.map_map]
  rfl
theorem sumF_mono {α : Type} {f g : α → Nat} (h : ∀ x, f x ≤ g x) : ∀ xs : List α, sumF f xs ≤ sumF g xs
  | [] => Nat.le_refl _
  | a :: l => by
    have e : ∀ f : α → Nat, sumF f (a :: l) = f a + sumF f l := fun f => by simp [sumF]
    rw [e, e]
    have := sumF_mono h l
    have := h a
    omega
theorem mark_bound {rs rs' : List IR} (h : rs'.map itOf = rs.map itOf) (ht : (totSt rs : Int) ≤ 1048576) (k : Nat) : markEnd rs' k ≤ k + 3145728 := by
  have h1 := markEnd_le rs' k
  have h2 := map_len h
  have h3 : sumF (fun r : IR => r.fs.length) rs' = sumF (fun r : IR => r.fs.length) rs := by rw [sumF_map, sumF_map, h]
  have h4 : sumF (fun r : IR => r.fs.length) rs ≤ sumF szIt rs := sumF_mono (fun r => by unfold szIt totF totV; simp only; omega) rs
  unfold totSt totI at ht
  omega
end Go.Proofs.Ytndhjijcicebkaa
