import Derived.Test.YtgcjhicpkmhbaaaDoorPkPlainLexed
import Derived.Lib.ItoaLen
/- Right tokens are short, and so is their text. Names no program. No condition. -/
namespace Go.Proofs.YtgcjhicpkmhbaaaDoor
open Go.Lib Go.RowKit
theorem tok_small {t : Vl} (h : tokenOk t = true) : t.s.size ≤ 20 := by
  obtain ⟨k, n, s⟩ := t
  unfold tokenOk at h
  dsimp only at h ⊢
  split at h
  · rw [Bool.and_eq_true, decide_eq_true_eq] at h
    omega
  · split at h
    · unfold nameOk word at h
      simp only [Bool.and_eq_true, decide_eq_true_eq] at h
      omega
    · split at h
      · unfold varOk at h
        simp only [Bool.and_eq_true, decide_eq_true_eq] at h
        omega
      · split at h
        · unfold word at h
          simp only [Bool.and_eq_true, decide_eq_true_eq] at h
          omega
        · split at h
          · rw [Bool.and_eq_true] at h
            have h2 := h.2
            have hz : s.size = s.toList.length := by rw [ByteArray.toList_eq]; rfl
            rw [hz]
            unfold markOk at h2
            generalize s.toList = L at h2 ⊢
            rw [Bool.or_eq_true, beq_iff_eq] at h2
            rcases h2 with rfl | h2
            · decide
            · rw [List.any_eq_true] at h2
              obtain ⟨m, hm, he⟩ := h2
              rw [beq_iff_eq] at he
              subst he
              simp only [marks1, List.mem_cons, List.not_mem_nil, or_false] at hm
              rcases hm with rfl | rfl | rfl | rfl | rfl | rfl | rfl | rfl | rfl | rfl | rfl | rfl <;> decide
          · cases h
theorem tok_len {t : Vl} (h : tokenOk t = true) : 1 ≤ (tokL t).length ∧ (tokL t).length ≤ 22 := by
  obtain ⟨⟨c, m, e, _⟩, _⟩ := tok_one h (r := []) (Or.inl rfl)
  refine ⟨by rw [e]; simp, ?_⟩
  have hs := tok_small h
  rw [tokL_eq h]
  split
  · rename_i h1
    unfold tokenOk at h
    rw [if_pos h1, Bool.and_eq_true] at h
    have h2 := h.1
    unfold inB at h2
    simp only [Bool.and_eq_true, decide_eq_true_eq] at h2
    have := itoa_length_le t.n (by omega) (by omega)
    omega
  · split
    · simp only [List.length_cons, List.length_append, List.length_nil, size_data]
      omega
    · rw [size_data]; omega
theorem join_most : ∀ l : List Vl, (∀ t ∈ l, tokenOk t = true) → (join (l.map tokL) [32]).length ≤ 23 * l.length ∧ (joinTail [32] (l.map tokL)).length ≤ 23 * l.length
  | [], _ => by simp [joinTail, join_nil]
  | t :: l, h => by
    have h1 := (tok_len (h t (by simp))).2
    have ih := (join_most l fun x hx => h x (List.mem_cons_of_mem _ hx)).2
    rw [List.map_cons, join_cons, tail_cons]
    simp only [List.length_append, List.length_cons]
    omega
theorem joinTok_most {l : List Vl} (h : ∀ t ∈ l, tokenOk t = true) : (joinTok l).size ≤ 23 * l.length := by
  have e : (joinTok l).data.toList = join (l.map tokL) [32] := by
    unfold joinTok joinB
    rw [List.map_map]
    rfl
  rw [← size_data, e]
  exact (join_most l h).1
theorem text_some {t : Vl} (h : tokenOk t = true) : 1 ≤ (tokenText t).size := (tok_len h).1
end Go.Proofs.YtgcjhicpkmhbaaaDoor
