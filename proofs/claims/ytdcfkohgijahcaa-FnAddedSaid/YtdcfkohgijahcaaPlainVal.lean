/- Plain laws of values: of two unlike ones one is less; what is added is taken away again. No condition. -/
import Derived.Test.YtdcfkohgijahcaaFact3
import Derived.Test.YtdcfkohgijahcaaAdd2
namespace Go.Proofs.Ytdcfkohgijahcaa
open Go.RowKit

theorem str_ext (s t : ByteArray) : s.toList = t.toList ↔ s = t := by
  have := str_eq s t
  constructor
  · intro h; rw [h] at this; simpa using this
  · rintro rfl; rfl
theorem lessV_tri (a b : Vl) : (lessV a b = true ∧ lessV b a = false ∧ ¬ a = b) ∨ (lessV a b = false ∧ lessV b a = true ∧ ¬ a = b) ∨ (a = b ∧ lessV a b = false) := by
  have hI : ∀ x y : Int, cmpI y x = - cmpI x y := fun x y => by unfold cmpI; split <;> split <;> (try split) <;> omega
  have hS : ∀ x y : ByteArray, cmpS y x = - cmpS x y := fun x y => by
    unfold cmpS
    cases h1 : lessS x y <;> cases h2 : lessS y x
    · rfl
    · rfl
    · rfl
    · have := bless_asymm x.toList y.toList h1
      unfold lessS at h2
      rw [h2] at this; cases this
  have hV : cmpV b a = - cmpV a b := by
    unfold cmpV or3
    rw [hI a.k b.k, hI a.n b.n, hS a.s b.s]
    by_cases e1 : cmpI a.k b.k = 0
    · by_cases e2 : cmpI a.n b.n = 0
      · simp [e1, e2]
      · simp [e1, e2]
    · simp [e1]
  have h1 := lessV_cmp a b
  have h2 := lessV_cmp b a
  rw [hV] at h2
  by_cases hz : cmpV a b = 0
  · refine .inr (.inr ⟨cmpV_zero.1 hz, ?_⟩)
    rw [← h1, hz]; rfl
  · have hne : ¬ a = b := fun e => hz (cmpV_zero.2 e)
    by_cases hl : cmpV a b < 0
    · exact .inl ⟨by rw [← h1]; simp [hl], by rw [← h2]; simp; omega, hne⟩
    · exact .inr (.inl ⟨by rw [← h1]; simp [hl], by rw [← h2]; simp; omega, hne⟩)
theorem empty_of_size {s : ByteArray} (h : s.size = 0) : s = ⟨#[]⟩ := by
  rcases s with ⟨⟨l⟩⟩
  cases l with
  | nil => rfl
  | cons a l => simp [ByteArray.size] at h
theorem added (a b : Vl) : sumR a b (a.n + b.n) = (zeroV, false) ∨
    (∃ x y : Int, a = intV x ∧ b = intV y ∧ -1000000000 ≤ x ∧ x ≤ 1000000000 ∧ -1000000000 ≤ y ∧ y ≤ 1000000000 ∧ -1000000000 ≤ x + y ∧ x + y ≤ 1000000000 ∧ sumR (intV x) (intV y) (x + y) = (intV (x + y), true) ∧ sumR (intV (x + y)) (intV y) (x + y - y) = (intV x, true) ∧ sumR (intV y) (intV x) (y + x) = (intV (x + y), true)) := by
  have ok : ∀ z : Int, valOk (intV z) = inB z (-1000000000) 1000000000 := fun z => by unfold valOk intV; simp [ByteArray.size]
  have inr : ∀ z : Int, inB z (-1000000000) 1000000000 = true ↔ (-1000000000 ≤ z ∧ z ≤ 1000000000) := fun z => by unfold inB; simp
  by_cases h : a.k = 1 ∧ b.k = 1 ∧ valOk a = true ∧ valOk b = true
  · obtain ⟨hk, hk2, hv, hv2⟩ := h
    have ga : a = intV a.n ∧ -1000000000 ≤ a.n ∧ a.n ≤ 1000000000 := by
      unfold valOk at hv
      rw [if_pos hk] at hv
      simp only [Bool.and_eq_true, decide_eq_true_eq] at hv
      have := (inr a.n).1 hv.1
      refine ⟨?_, this.1, this.2⟩
      cases a
      simp only at hk hv
      unfold intV
      rw [hk, empty_of_size hv.2]
    have gb : b = intV b.n ∧ -1000000000 ≤ b.n ∧ b.n ≤ 1000000000 := by
      unfold valOk at hv2
      rw [if_pos hk2] at hv2
      simp only [Bool.and_eq_true, decide_eq_true_eq] at hv2
      have := (inr b.n).1 hv2.1
      refine ⟨?_, this.1, this.2⟩
      cases b
      simp only at hk2 hv2
      unfold intV
      rw [hk2, empty_of_size hv2.2]
    by_cases hr : -1000000000 ≤ a.n + b.n ∧ a.n + b.n ≤ 1000000000
    · have su : ∀ x y z : Int, -1000000000 ≤ x → x ≤ 1000000000 → -1000000000 ≤ y → y ≤ 1000000000 → -1000000000 ≤ z → z ≤ 1000000000 → sumR (intV x) (intV y) z = (intV z, true) := fun x y z h1 h2 h3 h4 h5 h6 => by
        unfold sumR intR
        rw [ok, ok, ok, if_pos ⟨rfl, rfl, (inr x).2 ⟨h1, h2⟩, (inr y).2 ⟨h3, h4⟩⟩, if_pos ((inr z).2 ⟨h5, h6⟩)]
      refine .inr ⟨a.n, b.n, ga.1, gb.1, ga.2.1, ga.2.2, gb.2.1, gb.2.2, hr.1, hr.2, su _ _ _ ga.2.1 ga.2.2 gb.2.1 gb.2.2 hr.1 hr.2, ?_, ?_⟩
      · rw [show a.n + b.n - b.n = a.n by omega]
        exact su _ _ _ hr.1 hr.2 gb.2.1 gb.2.2 ga.2.1 ga.2.2
      · rw [show b.n + a.n = a.n + b.n by omega]
        exact su _ _ _ gb.2.1 gb.2.2 ga.2.1 ga.2.2 hr.1 hr.2
    · refine .inl ?_
      unfold sumR intR
      rw [if_pos ⟨hk, hk2, hv, hv2⟩, if_neg]
      rw [ok, inr]
      exact hr
  · refine .inl ?_
    unfold sumR
    rw [if_neg h]
end Go.Proofs.Ytdcfkohgijahcaa
