/- Texts of facts, of the program and of the reference. Each answers what the plain function says and makes at most new blocks. Conditions: lengths; the library's table of powers of ten is as its text lays it. -/
import Derived.Test.YtcbbefibebkfgaaDoorCondText
import Derived.Test.YtcbbefibebkfgaaDoorFact
import Derived.Test.YtcbbefibebkfgaaDoorJoinT
import Derived.Test.YtcbbefibebkfgaaDoorApp2
import Derived.Test.YtcbbefibebkfgaaDoorBox
import Derived.Test.YtcbbefibebkfgaaDoorHeld2
namespace Go.Proofs.YtcbbefibebkfgaaDoor
open Go.RowKit
set_option maxRecDepth 100000
set_option maxHeartbeats 4000000
def factText (f : Ft) : ByteArray := if factOk f then ((f.kd ++ ⟨#[40]⟩) ++ joinB ⟨#[44]⟩ (f.fs.map rawText)) ++ ⟨#[41]⟩ else ⟨#[]⟩
theorem factOk_parts {f : Ft} (h : factOk f = true) : f.kd.size ≤ 12 ∧ f.fs.length ≤ 5 ∧ ∀ x ∈ f.fs, valOk x = true := by
  unfold factOk at h
  simp only [Bool.and_eq_true, decide_eq_true_eq, List.all_eq_true] at h
  refine ⟨?_, h.2.2, h.2.1⟩
  have := h.1
  unfold nameOk at this
  simp only [Bool.and_eq_true] at this
  have := word_len this.2
  omega
theorem factText_tl {l : List Vl} (h : ∀ x ∈ l, valOk x = true) : ∀ x ∈ l.map rawText, x.size ≤ 30 := by
  intro x hx
  obtain ⟨y, hy, rfl⟩ := List.mem_map.1 hx
  exact rawText_len (h y hy)
theorem factText_sz {l : List Vl} (h : ∀ x ∈ l, valOk x = true) (hl : l.length ≤ 5) (k : Nat) : (joinB ⟨#[44]⟩ ((l.map rawText).take k)).size ≤ 5 * (30 + 1) := by
  have h1 := joinB_len (M := 30) ⟨#[44]⟩ ((l.map rawText).take k) (fun x hx => factText_tl h x (List.mem_of_mem_take hx))
  have h2 : ((l.map rawText).take k).length ≤ 5 := by rw [List.length_take, List.length_map]; omega
  have h3 : (⟨#[44]⟩ : ByteArray).size = 1 := rfl
  rw [h3] at h1
  exact Nat.le_trans h1 (Nat.mul_le_mul_right _ h2)
theorem cat_nil (s : ByteArray) : s ++ (⟨#[]⟩ : ByteArray) = s := by
  apply ByteArray.ext
  simp
end Go.Proofs.YtcbbefibebkfgaaDoor
