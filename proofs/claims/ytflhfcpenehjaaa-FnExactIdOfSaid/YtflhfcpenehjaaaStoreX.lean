/- What the walks of the laws on stores need. Names no program. No condition. -/
import Derived.Test.YtflhfcpenehjaaaItem
import Derived.Test.YtflhfcpenehjaaaStore
import Derived.Test.YtflhfcpenehjaaaFactOf
namespace Go.Proofs.Ytflhfcpenehjaaa
open Go.RowKit

theorem map_len {rs rs' : List IR} (h : rs'.map itOf = rs.map itOf) : rs'.length = rs.length := by simpa using congrArg List.length h
theorem fs_le {N M : Nat} {rs : List IR} (hs : ∀ r ∈ rs, r.fs.length ≤ N) (hNM : N ≤ M) : ∀ r ∈ rs, r.fs.length ≤ M := fun r hr => Nat.le_trans (hs r hr) hNM
theorem fs_map {N : Nat} {rs rs' : List IR} (h : rs'.map itOf = rs.map itOf) (hs : ∀ r ∈ rs, r.fs.length ≤ N) : ∀ r ∈ rs', r.fs.length ≤ N := fun r hr => by
  have h1 : itOf r ∈ rs.map itOf := by rw [← h]; exact List.mem_map_of_mem hr
  obtain ⟨q, hq, he⟩ := List.mem_map.1 h1
  have h2 := hs q hq
  have : q.fs = r.fs := congrArg (fun x : It => x.f.fs) he
  rw [← this]; omega
theorem good_map {N M : Nat} {rs rs' : List IR} (h : rs'.map itOf = rs.map itOf) (hg : ∀ r ∈ rs, goodI r) (hs : ∀ r ∈ rs', r.fs.length ≤ N) (hNM : N ≤ M) : ∀ r ∈ rs', goodI r ∧ r.fs.length ≤ M := fun r hr => by
  have h1 : itOf r ∈ rs.map itOf := by rw [← h]; exact List.mem_map_of_mem hr
  obtain ⟨q, hq, he⟩ := List.mem_map.1 h1
  have h2 := hg q hq
  have e1 : q.fs = r.fs := congrArg (fun x : It => x.f.fs) he
  have e2 : q.kd = r.kd := congrArg (fun x : It => x.f.kd) he
  refine ⟨?_, by have := hs r hr; omega⟩
  unfold goodI at h2 ⊢
  rw [← e1, ← e2]; exact h2
theorem st_eq {l1 l2 l : List It} {nx : Int} (h1 : l1 = l) (h2 : l2 = l) : St.mk l1 nx = St.mk l2 nx := by rw [h1, h2]
theorem totSt_fs {rs : List IR} (h : (totSt rs : Int) ≤ 1048576) : ∀ r ∈ rs, r.fs.length ≤ 1048576 := fun r hr => by
  have h1 := totI_mem hr
  unfold szIt totF totV at h1
  unfold totSt at h
  simp only at h1
  omega
theorem factOf_len {N : Nat} {id : Int} {kd : ByteArray} {fs : List Vl} {b : Bool} : ∀ {rs : List IR}, (∀ r ∈ rs, r.fs.length ≤ N) → factOf (rs.map itOf) id = (⟨kd, fs⟩, b) → fs.length ≤ N
  | [], _, h => by
    simp [factOf] at h
    simp [← h.1.2]
  | r :: l, hs, h => by
    simp only [List.map_cons, factOf] at h
    split at h
    · simp [itOf] at h
      rw [← h.1.2]
      exact hs r (List.mem_cons_self)
    · exact factOf_len (fun q hq => hs q (List.mem_cons_of_mem _ hq)) h
end Go.Proofs.Ytflhfcpenehjaaa
