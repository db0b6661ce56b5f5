/- LessFact of the program and of the reference. Each answers what the plain function says and makes at most new blocks. No condition but lengths. -/
import Derived.Test.YtnncdibojclhnaaDoorFact2
namespace Go.Proofs.YtnncdibojclhnaaDoor
open Go.RowKit
set_option maxRecDepth 100000
set_option maxHeartbeats 2000000

def lessVs : List Vl → List Vl → Bool
  | a :: x, b :: y => if a = b then lessVs x y else lessV a b
  | _, _ => false
def lessF (a b : Ft) : Bool := if a.kd ≠ b.kd then lessS a.kd b.kd else if a.fs.length ≠ b.fs.length then decide (a.fs.length < b.fs.length) else lessVs a.fs b.fs
theorem lessVs_step {l1 l2 : List Vl} {k : Nat} (h1 : k < l1.length) (h2 : k < l2.length) (he : l1[k] = l2[k]) : lessVs (l1.drop k) (l2.drop k) = lessVs (l1.drop (k + 1)) (l2.drop (k + 1)) := by
  rw [List.drop_eq_getElem_cons h1, List.drop_eq_getElem_cons h2, lessVs, if_pos he]
theorem lessVs_stop {l1 l2 : List Vl} {k : Nat} (h1 : k < l1.length) (h2 : k < l2.length) (he : l1[k] ≠ l2[k]) : lessVs (l1.drop k) (l2.drop k) = lessV l1[k] l2[k] := by
  rw [List.drop_eq_getElem_cons h1, List.drop_eq_getElem_cons h2, lessVs, if_neg he]
theorem lessVs_end {l1 l2 : List Vl} {k : Nat} (h1 : l1.length ≤ k) : lessVs (l1.drop k) (l2.drop k) = false := by
  rw [List.drop_eq_nil_of_le h1]
  rfl
def cmpVs : List Vl → List Vl → Int
  | a :: x, b :: y => if cmpV a b = 0 then cmpVs x y else cmpV a b
  | _, _ => 0
theorem cmpVs_step {l1 l2 : List Vl} {k : Nat} (h1 : k < l1.length) (h2 : k < l2.length) (he : cmpV l1[k] l2[k] = 0) : cmpVs (l1.drop k) (l2.drop k) = cmpVs (l1.drop (k + 1)) (l2.drop (k + 1)) := by
  rw [List.drop_eq_getElem_cons h1, List.drop_eq_getElem_cons h2, cmpVs, if_pos he]
theorem cmpVs_stop {l1 l2 : List Vl} {k : Nat} (h1 : k < l1.length) (h2 : k < l2.length) (he : cmpV l1[k] l2[k] ≠ 0) : cmpVs (l1.drop k) (l2.drop k) = cmpV l1[k] l2[k] := by
  rw [List.drop_eq_getElem_cons h1, List.drop_eq_getElem_cons h2, cmpVs, if_neg he]
theorem cmpVs_end {l1 l2 : List Vl} {k : Nat} (h1 : l1.length ≤ k) : cmpVs (l1.drop k) (l2.drop k) = 0 := by
  rw [List.drop_eq_nil_of_le h1]
  rfl
theorem lessS_irrefl (a : ByteArray) : lessS a a = false := bless_irrefl _
theorem lessS_total {a b : ByteArray} (h1 : lessS a b = false) (h2 : lessS b a = false) : a = b := by
  have h3 := bless_total a.toList b.toList h1
  have h4 : a.toList = b.toList := by
    apply Decidable.byContradiction
    intro hne
    have := h3 hne
    unfold lessS at h2
    rw [h2] at this
    cases this
  have := str_eq a b
  rw [h4] at this
  simpa using this
theorem cmpI_zero {x y : Int} : cmpI x y = 0 ↔ x = y := by
  unfold cmpI
  by_cases h1 : x < y
  · simp [h1]; omega
  · by_cases h2 : y < x
    · simp [h1, h2]; omega
    · simp [h1, h2]; omega
theorem cmpS_zero {x y : ByteArray} : cmpS x y = 0 ↔ x = y := by
  unfold cmpS
  constructor
  · intro h
    cases h1 : lessS x y
    · cases h2 : lessS y x
      · exact lessS_total h1 h2
      · simp [h1, h2] at h
    · simp [h1] at h
  · rintro rfl
    simp [lessS_irrefl]
theorem or3_zero {a b c : Int} : or3 a b c = 0 ↔ a = 0 ∧ b = 0 ∧ c = 0 := by
  unfold or3
  split
  · constructor
    · intro h; contradiction
    · intro h; exact absurd h.1 (by assumption)
  · split
    · constructor
      · intro h; contradiction
      · intro h; exact absurd h.2.1 (by assumption)
    · constructor
      · intro h; exact ⟨by simp_all, by simp_all, h⟩
      · intro h; exact h.2.2
theorem cmpV_zero {a b : Vl} : cmpV a b = 0 ↔ a = b := by
  unfold cmpV
  rw [or3_zero, cmpI_zero, cmpI_zero, cmpS_zero]
  cases a; cases b
  simp
theorem cmpVs_less : ∀ (l1 l2 : List Vl), decide (cmpVs l1 l2 < 0) = lessVs l1 l2
  | [], _ => by simp [cmpVs, lessVs]
  | _ :: _, [] => by simp [cmpVs, lessVs]
  | a :: x, b :: y => by
    unfold cmpVs lessVs
    by_cases h : a = b
    · rw [if_pos (cmpV_zero.2 h), if_pos h, cmpVs_less x y]
    · rw [if_neg (fun e => h (cmpV_zero.1 e)), if_neg h, lessV_cmp]
theorem cmpS_less (a b : ByteArray) : decide (cmpS a b < 0) = lessS a b := by
  unfold cmpS
  cases lessS a b <;> simp
  cases lessS b a <;> simp
def or2 (a b : Int) : Int := if a ≠ 0 then a else b
end Go.Proofs.YtnncdibojclhnaaDoor
