/- Plain laws: a pattern's variables stand once each, and each is one of its arguments; a right pattern has a text. No condition. -/
import Derived.Test.YtaacdnnjmiaaaaaDoorVarsOf
import Derived.Test.YtaacdnnjmiaaaaaDoorPatText
namespace Go.Proofs.YtaacdnnjmiaaaaaDoor
open Go.RowKit
theorem addVar_mem {acc : List ByteArray} {a : Ag} {s : ByteArray} (h : s ∈ addVar acc a) : s ∈ acc ∨ (a.k = 1 ∧ a.s = s) := by
  unfold addVar at h
  split at h
  · rename_i h1
    by_cases h2 : a.s ∈ acc
    · rw [addStr_in h2] at h; exact .inl h
    · rw [addStr_out h2, List.mem_append, List.mem_singleton] at h
      rcases h with h | h
      · exact .inl h
      · exact .inr ⟨h1, h.symm⟩
  · exact .inl h
theorem addVar_nodup {acc : List ByteArray} {a : Ag} (h : acc.Nodup) : (addVar acc a).Nodup := by
  unfold addVar
  split
  · by_cases h2 : a.s ∈ acc
    · rw [addStr_in h2]; exact h
    · rw [addStr_out h2]
      exact List.nodup_append.2 ⟨h, (by simp), fun x hx y hy => by rw [List.mem_singleton] at hy; subst hy; rintro rfl; exact h2 hx⟩
  · exact h
theorem vars_gen : ∀ (xs : List Ag) (acc : List ByteArray), acc.Nodup → ((xs.foldl addVar acc).Nodup ∧ ∀ s ∈ xs.foldl addVar acc, s ∈ acc ∨ ∃ a ∈ xs, a.k = 1 ∧ a.s = s)
  | [], acc, h => ⟨h, fun s hs => .inl hs⟩
  | a :: xs, acc, h => by
    obtain ⟨h1, h2⟩ := vars_gen xs (addVar acc a) (addVar_nodup h)
    refine ⟨h1, fun s hs => ?_⟩
    rcases h2 s hs with h3 | ⟨b, hb, h3⟩
    · rcases addVar_mem h3 with h4 | h4
      · exact .inl h4
      · exact .inr ⟨a, List.mem_cons_self, h4⟩
    · exact .inr ⟨b, List.mem_cons_of_mem _ hb, h3⟩
theorem vars_from {xs : List Ag} {s : ByteArray} (h : s ∈ varsOf xs) : ∃ a ∈ xs, a.k = 1 ∧ a.s = s := by
  rcases (vars_gen xs [] List.nodup_nil).2 s h with h | h
  · exact absurd h List.not_mem_nil
  · exact h
theorem nodup_take {l : List ByteArray} (h : l.Nodup) {i : Nat} (hi : i < l.length) : ¬ l[i] ∈ l.take i := by
  intro hm
  rw [List.mem_take_iff_getElem] at hm
  obtain ⟨j, hj, he⟩ := hm
  have := (List.getElem_inj h).1 he
  omega
theorem vars_once (xs : List Ag) {i : Nat} (hi : i < (varsOf xs).length) : ¬ (varsOf xs)[i] ∈ (varsOf xs).take i := nodup_take (vars_gen xs [] List.nodup_nil).1 hi
theorem patText_ne {f : Pt} (h : patOk f = true) : decide (patText f = ⟨#[]⟩) = false := by
  rw [decide_eq_false_iff_not]
  intro e
  have := congrArg ByteArray.size e
  have h0 : (⟨#[]⟩ : ByteArray).size = 0 := rfl
  have h1 : (⟨#[41]⟩ : ByteArray).size = 1 := rfl
  rw [patText, if_pos h] at this
  split at this
  · simp only [ByteArray.size_append] at this
    omega
  · simp only [ByteArray.size_append] at this
    omega
theorem patText_none {f : Pt} (h : patOk f = false) : patText f = ⟨#[]⟩ := by rw [patText, h]; rfl
end Go.Proofs.YtaacdnnjmiaaaaaDoor
