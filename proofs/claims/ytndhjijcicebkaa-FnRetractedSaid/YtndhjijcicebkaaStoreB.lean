/- How great the result of an assertion or of a retraction is. Names no program. No condition. -/
import Derived.Test.YtndhjijcicebkaaRetract2
namespace Go.Proofs.Ytndhjijcicebkaa
open Go.RowKit
def bigI (l : List It) : Prop := (∀ x ∈ l, x.f.fs.length ≤ 1048576) ∧ l.length ≤ 1048576 ∧ 2 * l.length + 3 * sumF (fun x : It => x.f.fs.length) l ≤ 3145728
theorem sumF_all {α : Type} (f : α → Nat) (M : Nat) : ∀ l : List α, (∀ x ∈ l, f x ≤ M) → sumF f l ≤ l.length * M
  | [], _ => by simp [sumF]
  | a :: l, h => by
    have e : sumF f (a :: l) = f a + sumF f l := by simp [sumF]
    have := sumF_all f M l fun x hx => h x (List.mem_cons_of_mem _ hx)
    have := h a (List.mem_cons_self ..)
    rw [e, List.length_cons, Nat.succ_mul]
    omega
theorem factOk_fs {f : Ft} (h : factOk f = true) : f.fs.length ≤ 5 := by
  unfold factOk at h
  simp only [Bool.and_eq_true, decide_eq_true_eq] at h
  exact h.2.2
theorem right_big {l : List It} {nx : Int} (h : Right l nx) : bigI l := by
  obtain ⟨_, h2, h3, _, _⟩ := h
  have hf : ∀ x ∈ l, x.f.fs.length ≤ 5 := fun x hx => factOk_fs (h3 x hx).1
  have := sumF_all (fun x : It => x.f.fs.length) 5 l hf
  exact ⟨fun x hx => by have := hf x hx; omega, by omega, by omega⟩
theorem tot_big {rs : List IR} (h : (totSt rs : Int) ≤ 1048576) : bigI (rs.map itOf) := by
  refine ⟨fun x hx => ?_, ?_, ?_⟩
  · obtain ⟨r, hr, rfl⟩ := List.mem_map.1 hx
    exact totSt_fs h r hr
  · rw [List.length_map]
    unfold totSt totI at h
    omega
  · rw [List.length_map, ← sumF_map]
    have h4 : sumF (fun r : IR => r.fs.length) rs ≤ sumF szIt rs := sumF_mono (fun r => by unfold szIt totF totV; simp only; omega) rs
    unfold totSt totI at h
    omega
theorem assertF_big {rs : List IR} {nx nx' id : Int} {f : Ft} {l' : List It} {ok : Bool} (h : assertF (rs.map itOf) nx f = (l', nx', id, ok)) (ht : (totSt rs : Int) ≤ 1048576) : bigI l' := by
  cases ok
  · have := assert_no (l := rs.map itOf) (nx := nx) (f := f) (by rw [h])
    rw [h] at this
    injection this with e _
    rw [e]
    exact tot_big ht
  · exact right_big (assert_yes h).1
theorem retractF_big {rs : List IR} {nx id : Int} {l' : List It} {ok : Bool} (h : retractF (rs.map itOf) nx id = (l', ok)) (ht : (totSt rs : Int) ≤ 1048576) : bigI l' := by
  cases ok
  · have := retract_no (l := rs.map itOf) (nx := nx) (id := id) (by rw [h])
    rw [h] at this
    injection this with e _
    rw [e]
    exact tot_big ht
  · obtain ⟨_, _, _, _, h4, _⟩ := retract_yes h
    exact right_big h4
theorem fs_of {rs : List IR} {l : List It} (h : rs.map itOf = l) (hb : bigI l) : ∀ r ∈ rs, r.fs.length ≤ 1048576 := fun r hr => hb.1 (itOf r) (by rw [← h]; exact List.mem_map_of_mem hr)
theorem len_of {rs : List IR} {l : List It} (h : rs.map itOf = l) (hb : bigI l) : rs.length ≤ 1048576 := by
  have := hb.2.1
  rw [← h, List.length_map] at this
  exact this
theorem mark_of {rs : List IR} {l : List It} (h : rs.map itOf = l) (hb : bigI l) (k : Nat) : markEnd rs k ≤ k + 3145728 := by
  have h1 := markEnd_le rs k
  have h2 := hb.2.2
  rw [← h, List.length_map, ← sumF_map] at h2
  omega
theorem good_of {rs rs' : List IR} (h : rs'.map itOf = rs.map itOf) (hg : ∀ r ∈ rs, goodI r) (hs : ∀ r ∈ rs', r.fs.length ≤ 1048576) : ∀ r ∈ rs', goodI r := fun r hr => (good_map h hg hs (Nat.le_refl _) r hr).1
end Go.Proofs.Ytndhjijcicebkaa
