/- Plain laws of facts: of two unlike ones one is less; what is less than what is less is less. No condition. -/
import Derived.Test.YtjlfllnjbdddaaaFact3
namespace Go.Proofs.Ytjlfllnjbdddaaa
open Go.RowKit

theorem bless_trans : ∀ x y z : List UInt8, Op.bytesLess x y = true → Op.bytesLess y z = true → Op.bytesLess x z = true
  | [], [], _, h, _ => by simp [Op.bytesLess] at h
  | [], _ :: _, [], _, h => by simp [Op.bytesLess] at h
  | [], _ :: _, _ :: _, _, _ => rfl
  | _ :: _, [], _, h, _ => by simp [Op.bytesLess] at h
  | _ :: _, _ :: _, [], _, h => by simp [Op.bytesLess] at h
  | a :: x, b :: y, c :: z, h1, h2 => by
    simp only [Op.bytesLess, Bool.or_eq_true, Bool.and_eq_true, decide_eq_true_eq, beq_iff_eq] at h1 h2 ⊢
    rcases h1 with h1 | ⟨rfl, h1⟩
    · rcases h2 with h2 | ⟨rfl, h2⟩
      · rw [UInt8.lt_iff_toNat_lt] at h1 h2 ⊢; exact .inl (by omega)
      · exact .inl h1
    · rcases h2 with h2 | ⟨rfl, h2⟩
      · exact .inl h2
      · exact .inr ⟨rfl, bless_trans x y z h1 h2⟩
theorem lessS_trans {a b c : ByteArray} (h1 : lessS a b = true) (h2 : lessS b c = true) : lessS a c = true := bless_trans _ _ _ h1 h2
theorem lessS_asymm {a b : ByteArray} (h : lessS a b = true) : lessS b a = false := bless_asymm _ _ h
theorem lessS_tri (a b : ByteArray) : (lessS a b = true ∧ lessS b a = false ∧ ¬ a = b) ∨ (lessS a b = false ∧ lessS b a = true ∧ ¬ a = b) ∨ (a = b ∧ lessS a b = false) := by
  cases h1 : lessS a b
  · cases h2 : lessS b a
    · exact .inr (.inr ⟨lessS_total h1 h2, rfl⟩)
    · refine .inr (.inl ⟨rfl, rfl, ?_⟩)
      rintro rfl; rw [h1] at h2; cases h2
  · refine .inl ⟨rfl, lessS_asymm h1, ?_⟩
    rintro rfl; rw [lessS_irrefl] at h1; cases h1
theorem lessV_tri' (a b : Vl) : (lessV a b = true ∧ lessV b a = false ∧ ¬ a = b) ∨ (lessV a b = false ∧ lessV b a = true ∧ ¬ a = b) ∨ (a = b ∧ lessV a b = false) := by
  have hs := lessS_tri a.s b.s
  cases a with | mk k n s =>
  cases b with | mk k2 n2 s2 =>
  unfold lessV
  simp only [Vl.mk.injEq] at hs ⊢
  by_cases e1 : k = k2
  · subst e1
    by_cases e2 : n = n2
    · subst e2
      simpa using hs
    · have e2' : ¬ n2 = n := fun h => e2 h.symm
      by_cases h : n < n2
      · left; simp [e2, e2', h]; omega
      · right; left; simp [e2, e2']; omega
  · have e1' : ¬ k2 = k := fun h => e1 h.symm
    by_cases h : k < k2
    · left; simp [e1, e1', h]; omega
    · right; left; simp [e1, e1']; omega
theorem lessV_trans {a b c : Vl} (h1 : lessV a b = true) (h2 : lessV b c = true) : lessV a c = true := by
  cases a with | mk k n s =>
  cases b with | mk k2 n2 s2 =>
  cases c with | mk k3 n3 s3 =>
  unfold lessV at *
  simp only at *
  by_cases e1 : k = k2
  · by_cases e2 : k2 = k3
    · rw [if_neg (by simpa using e1)] at h1
      rw [if_neg (by simpa using e2)] at h2
      rw [if_neg (by simp; omega)]
      by_cases f1 : n = n2
      · by_cases f2 : n2 = n3
        · rw [if_neg (by simpa using f1)] at h1
          rw [if_neg (by simpa using f2)] at h2
          rw [if_neg (by simp; omega)]
          exact lessS_trans h1 h2
        · rw [if_pos f2] at h2
          rw [if_pos (by omega)]
          simp at h2 ⊢; omega
      · rw [if_pos f1] at h1
        by_cases f2 : n2 = n3
        · rw [if_pos (by omega)]
          simp at h1 ⊢; omega
        · rw [if_pos f2] at h2
          simp at h1 h2
          rw [if_pos (by omega)]
          simp; omega
    · rw [if_pos e2] at h2
      rw [if_pos (by omega)]
      simp at h2 ⊢; omega
  · rw [if_pos e1] at h1
    by_cases e2 : k2 = k3
    · rw [if_pos (by omega)]
      simp at h1 ⊢; omega
    · rw [if_pos e2] at h2
      simp at h1 h2
      rw [if_pos (by omega)]
      simp; omega
theorem lessVs_tri : ∀ a b : List Vl, a.length = b.length → (lessVs a b = true ∧ lessVs b a = false ∧ ¬ a = b) ∨ (lessVs a b = false ∧ lessVs b a = true ∧ ¬ a = b) ∨ (a = b ∧ lessVs a b = false)
  | [], [], _ => .inr (.inr ⟨rfl, rfl⟩)
  | [], _ :: _, h => by simp at h
  | _ :: _, [], h => by simp at h
  | x :: a, y :: b, h => by
    unfold lessVs
    by_cases e : x = y
    · subst e
      rw [if_pos rfl, if_pos rfl]
      rcases lessVs_tri a b (by simpa using h) with h1 | h1 | h1
      · exact .inl ⟨h1.1, h1.2.1, fun e => h1.2.2 (by injection e)⟩
      · exact .inr (.inl ⟨h1.1, h1.2.1, fun e => h1.2.2 (by injection e)⟩)
      · exact .inr (.inr ⟨by rw [h1.1], h1.2⟩)
    · rw [if_neg e, if_neg (fun h => e h.symm)]
      rcases lessV_tri' x y with h1 | h1 | h1
      · exact .inl ⟨h1.1, h1.2.1, fun e' => e (by injection e')⟩
      · exact .inr (.inl ⟨h1.1, h1.2.1, fun e' => e (by injection e')⟩)
      · exact absurd h1.1 e
theorem lessVs_trans : ∀ a b c : List Vl, a.length = b.length → b.length = c.length → lessVs a b = true → lessVs b c = true → lessVs a c = true
  | [], _, _, _, _, h, _ => by simp [lessVs] at h
  | _ :: _, [], _, h, _, _, _ => by simp at h
  | _ :: _, _ :: _, [], _, h, _, _ => by simp at h
  | x :: a, y :: b, z :: c, l1, l2, h1, h2 => by
    unfold lessVs at *
    by_cases e1 : x = y
    · subst e1
      rw [if_pos rfl] at h1
      by_cases e2 : x = z
      · subst e2
        rw [if_pos rfl] at h2 ⊢
        exact lessVs_trans a b c (by simpa using l1) (by simpa using l2) h1 h2
      · rw [if_neg e2] at h2 ⊢
        exact h2
    · rw [if_neg e1] at h1
      by_cases e2 : y = z
      · subst e2
        rw [if_neg e1]
        exact h1
      · rw [if_neg e2] at h2
        have h3 := lessV_trans h1 h2
        rw [if_neg]
        · exact h3
        · rintro rfl
          rcases lessV_tri' x x with h | h | h
          · exact h.2.2 rfl
          · exact h.2.2 rfl
          · rw [h.2] at h3; cases h3
theorem lessF_tri (a b : Ft) : (lessF a b = true ∧ lessF b a = false ∧ ¬ a = b) ∨ (lessF a b = false ∧ lessF b a = true ∧ ¬ a = b) ∨ (a = b ∧ lessF a b = false) := by
  have hs := lessS_tri a.kd b.kd
  have hv := lessVs_tri a.fs b.fs
  cases a with | mk k f =>
  cases b with | mk k2 f2 =>
  unfold lessF
  simp only [Ft.mk.injEq] at hs hv ⊢
  by_cases e1 : k = k2
  · subst e1
    by_cases e2 : f.length = f2.length
    · have := hv e2
      simpa [e2] using this
    · have e2' : ¬ f2.length = f.length := fun h => e2 h.symm
      have hne : ¬ f = f2 := fun h => e2 (by rw [h])
      by_cases h : f.length < f2.length
      · left; simp [e2, e2', h, hne]; omega
      · right; left; simp [e2, e2', hne]; omega
  · have e1' : ¬ k2 = k := fun h => e1 h.symm
    rcases hs with h | h | h
    · left; simp [e1, e1', h.1, h.2.1]
    · right; left; simp [e1, e1', h.1, h.2.1]
    · exact absurd h.1 e1
theorem lessF_trans {a b c : Ft} (h1 : lessF a b = true) (h2 : lessF b c = true) : lessF a c = true := by
  cases a with | mk k f =>
  cases b with | mk k2 f2 =>
  cases c with | mk k3 f3 =>
  unfold lessF at *
  simp only at *
  have irr : ∀ x : ByteArray, lessS x x = false := lessS_irrefl
  by_cases e1 : k = k2
  · subst e1
    by_cases e2 : k = k3
    · subst e2
      rw [if_neg (by simp)] at h1 h2 ⊢
      by_cases g1 : f.length = f2.length
      · rw [if_neg (by simpa using g1)] at h1
        by_cases g2 : f2.length = f3.length
        · rw [if_neg (by simpa using g2)] at h2
          rw [if_neg (by simp; omega)]
          exact lessVs_trans f f2 f3 g1 g2 h1 h2
        · rw [if_pos g2] at h2
          rw [if_pos (by omega)]
          simp at h2 ⊢; omega
      · rw [if_pos g1] at h1
        by_cases g2 : f2.length = f3.length
        · rw [if_pos (by omega)]
          simp at h1 ⊢; omega
        · rw [if_pos g2] at h2
          simp at h1 h2
          rw [if_pos (by omega)]
          simp; omega
    · rw [if_pos e2] at h2 ⊢
      exact h2
  · rw [if_pos e1] at h1
    by_cases e2 : k2 = k3
    · subst e2
      rw [if_pos e1]
      exact h1
    · rw [if_pos e2] at h2
      have h3 := lessS_trans h1 h2
      rw [if_pos]
      · exact h3
      · rintro rfl; rw [irr] at h3; cases h3
end Go.Proofs.Ytjlfllnjbdddaaa
