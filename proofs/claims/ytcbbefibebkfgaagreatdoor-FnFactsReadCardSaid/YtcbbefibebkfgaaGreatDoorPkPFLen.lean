import Derived.Test.YtcbbefibebkfgaaGreatDoorPkPlainSplit
/- A fact read of a text has few fields, and short texts. Names no program. No condition. -/
namespace Go.Proofs.YtcbbefibebkfgaaGreatDoor
theorem parseF_len {s kd : ByteArray} {fs : List Vl} {b : Bool} (h : parseF s = (⟨kd, fs⟩, b)) : fs.length ≤ 5 := by
  cases b
  · have h2 := parseF_false (s := s) (by rw [h])
    rw [h] at h2
    unfold noneF at h2
    injection h2 with e _
    injection e with _ e
    rw [e]
    exact Nat.zero_le _
  · exact (factOk_parts (parseF_true h).1).2.1
theorem parseF_small {s kd : ByteArray} {fs : List Vl} {b : Bool} (h : parseF s = (⟨kd, fs⟩, b)) : kd.size ≤ 30 ∧ ∀ x ∈ fs, x.s.size ≤ 30 := by
  cases b
  · have h2 := parseF_false (s := s) (by rw [h])
    rw [h] at h2
    unfold noneF at h2
    injection h2 with e _
    injection e with e1 e
    rw [e, e1]
    exact ⟨Nat.zero_le _, fun x hx => by cases hx⟩
  · obtain ⟨h1, _, h3⟩ := factOk_parts (parseF_true h).1
    refine ⟨by simp only at h1; omega, fun x hx => ?_⟩
    have := valOk_len (k := x.k) (n := x.n) (s := x.s) (h3 x hx)
    omega
end Go.Proofs.YtcbbefibebkfgaaGreatDoor
