import Derived.Test.YtgcjhicpkmhbaaaDoorPkPlainLex
import Derived.Test.YtgcjhicpkmhbaaaDoorPkJoinTok
/- Tokens that are joined come back; what is read as tokens is right. Names no program. No condition. -/
namespace Go.Proofs.YtgcjhicpkmhbaaaDoor
open Go.Lib Go.RowKit
def tokL (t : Vl) : List UInt8 := (tokenText t).data.toList
def fine (r : List UInt8) : Prop := r = [] ∨ ∃ r', r = 32 :: r'
theorem run_all {p : UInt8 → Bool} (h32 : p 32 = false) : ∀ {m r : List UInt8}, (∀ b ∈ m, p b = true) → fine r → runL p (m ++ r) = m.length
  | [], r, _, hr => by
    rcases hr with rfl | ⟨r', rfl⟩
    · rfl
    · rw [List.nil_append, runL, h32]; rfl
  | c :: m, r, h, hr => by
    rw [List.cons_append, runL, if_pos (h c (by simp)), run_all h32 (fun b hb => h b (List.mem_cons_of_mem _ hb)) hr, List.length_cons]
theorem tokL_eq {t : Vl} (h : tokenOk t = true) : tokL t = if t.k = 1 then itoa t.n else if t.k = 4 then 39 :: (t.s.data.toList ++ [39]) else t.s.data.toList := by
  unfold tokL tokenText
  rw [if_pos h]
  split
  · rfl
  · split
    · exact quote_toList _
    · rfl
theorem list_eq {s : ByteArray} {L : List UInt8} (h : s.data.toList = L) : s = ⟨L.toArray⟩ := by
  apply ByteArray.ext
  apply Array.ext'
  exact h
theorem size_nil {s : ByteArray} (h : s.size = 0) : s = ⟨#[]⟩ := list_eq (L := []) (List.eq_nil_of_length_eq_zero (by rw [size_data]; exact h))
theorem not_blank {c : UInt8} (h : digit c.toNat = true ∨ small c.toNat = true ∨ large c.toNat = true) : blankB c = false ∧ c ≠ 37 := by
  constructor
  · rw [Bool.eq_false_iff]
    intro hb
    simp only [blankB, Bool.or_eq_true, beq_iff_eq] at hb
    rcases hb with ((rfl | rfl) | rfl) | rfl <;> (revert h; decide)
  · rintro rfl
    revert h
    decide
theorem one_digit {c : UInt8} {t : List UInt8} (h : digit c.toNat = true) : oneL (c :: t) = (⟨1, wholeT ((c :: t).take (runL digB (c :: t))), ⟨#[]⟩⟩, runL digB (c :: t)) := by
  rw [oneL, if_pos h]
theorem one_small {c : UInt8} {t : List UInt8} (h : small c.toNat = true) : oneL (c :: t) = (⟨2, 0, bytesOf ((c :: t).take (runL lett (c :: t)))⟩, runL lett (c :: t)) := by
  have h1 : ¬ digit c.toNat = true := by unfold small at h; unfold digit; simp at h ⊢; omega
  rw [oneL, if_neg h1, if_pos h]
theorem one_large {c : UInt8} {t : List UInt8} (h : large c.toNat = true) : oneL (c :: t) = (⟨3, 0, bytesOf ((c :: t).take (runL larB (c :: t)))⟩, runL larB (c :: t)) := by
  have h1 : ¬ digit c.toNat = true := by unfold large at h; unfold digit; simp at h ⊢; omega
  have h2 : ¬ small c.toNat = true := by unfold large at h; unfold small; simp at h ⊢; omega
  rw [oneL, if_neg h1, if_neg h2, if_pos h]
theorem one_text {t : List UInt8} (h : runL noQ t < t.length) : oneL (39 :: t) = (⟨4, 0, bytesOf (t.take (runL noQ t))⟩, runL noQ t + 2) := by
  rw [oneL, if_neg (by decide), if_neg (by decide), if_neg (by decide), if_pos rfl, if_pos h]
theorem one_mark {c : UInt8} {r : List UInt8} (h1 : digit c.toNat = false) (h2 : small c.toNat = false) (h3 : large c.toNat = false) (h4 : c ≠ 39) (h5 : ¬ (c = 45 ∧ r.head? = some 62)) : oneL (c :: r) = (⟨5, 0, ⟨#[c]⟩⟩, 1) := by
  rw [oneL, h1, h2, h3, if_neg (by decide), if_neg (by decide), if_neg (by decide), if_neg h4, if_neg h5]
theorem run_quote : ∀ {m r : List UInt8}, (∀ b ∈ m, lett b = true) → runL noQ (m ++ 39 :: r) = m.length
  | [], r, _ => by rw [List.nil_append, runL, if_neg (by decide)]; rfl
  | c :: m, r, h => by
    have hc : noQ c = true := by
      have := (lett_ne2 (h c (by simp)))
      unfold noQ
      simpa using this
    rw [List.cons_append, runL, if_pos hc, run_quote (fun b hb => h b (List.mem_cons_of_mem _ hb)), List.length_cons]
where
  lett_ne2 {b : UInt8} (h : lett b = true) : b ≠ 39 := by rintro rfl; revert h; decide
theorem tok_one {t : Vl} (h : tokenOk t = true) {r : List UInt8} (hr : fine r) : (∃ c m, tokL t = c :: m ∧ blankB c = false ∧ c ≠ 37) ∧ oneL (tokL t ++ r) = (t, (tokL t).length) := by
  have ht := tokL_eq h
  have hh : r.head? ≠ some 62 := by
    rcases hr with rfl | ⟨r', rfl⟩
    · simp
    · rw [List.head?_cons]; decide
  obtain ⟨k, n, s⟩ := t
  generalize tokL ⟨k, n, s⟩ = T at ht ⊢
  unfold tokenOk at h
  dsimp only at h ht
  by_cases k1 : k = 1
  · subst k1
    rw [if_pos rfl, Bool.and_eq_true, decide_eq_true_eq] at h
    obtain ⟨h1, h2⟩ := h
    have hs := size_nil h2
    subst hs
    unfold inB at h1
    rw [Bool.and_eq_true, decide_eq_true_eq, decide_eq_true_eq] at h1
    obtain ⟨m, rfl⟩ := Int.eq_ofNat_of_zero_le h1.1
    rw [if_pos rfl, itoa_nonneg] at ht
    obtain ⟨b, q, e, b0, b1⟩ := digits_cons m
    have hd : digit b.toNat = true := by unfold digit; simp; omega
    have hall : ∀ x ∈ T, digB x = true := fun x hx => by
      rw [ht] at hx
      have := digits_byte m x hx
      unfold digB digit
      simp
      omega
    have hr2 : runL digB (T ++ r) = T.length := run_all (by decide) hall hr
    have hw := whole_digits (m := m) (by omega)
    rw [← ht] at hw e
    refine ⟨⟨b, q, e, not_blank (Or.inl hd)⟩, ?_⟩
    have e2 : T ++ r = b :: (q ++ r) := by rw [e]; rfl
    rw [e2, one_digit hd, ← e2, hr2, List.take_left' rfl, hw]
  rw [if_neg k1] at h ht
  by_cases k2 : k = 2
  · subst k2
    rw [if_pos rfl, Bool.and_eq_true, decide_eq_true_eq] at h
    obtain ⟨rfl, h2⟩ := h
    rw [if_neg (by decide)] at ht
    unfold nameOk firstSmall word at h2
    cases hL : s.data.toList with
    | nil => rw [hL] at h2; simp at h2
    | cons c q =>
      rw [hL] at h2
      simp only [Bool.and_eq_true, List.all_eq_true] at h2
      obtain ⟨h3, _, h4⟩ := h2
      rw [hL] at ht
      rw [ht]
      have hr2 : runL lett (c :: q ++ r) = (c :: q).length := run_all (by decide) h4 hr
      refine ⟨⟨c, q, rfl, not_blank (Or.inr (Or.inl h3))⟩, ?_⟩
      rw [List.cons_append] at hr2 ⊢
      rw [one_small h3, hr2, ← List.cons_append, List.take_left' rfl, list_eq hL]
      rfl
  rw [if_neg k2] at h
  by_cases k3 : k = 3
  · subst k3
    rw [if_pos rfl, Bool.and_eq_true, decide_eq_true_eq] at h
    obtain ⟨rfl, h2⟩ := h
    rw [if_neg (by decide)] at ht
    unfold varOk firstLarge at h2
    cases hL : s.data.toList with
    | nil => rw [hL] at h2; simp at h2
    | cons c q =>
      rw [hL] at h2
      simp only [Bool.and_eq_true, List.all_eq_true] at h2
      obtain ⟨h3, _, h4⟩ := h2
      rw [hL] at ht
      rw [ht]
      have hr2 : runL larB (c :: q ++ r) = (c :: q).length := run_all (by decide) h4 hr
      refine ⟨⟨c, q, rfl, not_blank (Or.inr (Or.inr h3))⟩, ?_⟩
      rw [List.cons_append] at hr2 ⊢
      rw [one_large h3, hr2, ← List.cons_append, List.take_left' rfl, list_eq hL]
      rfl
  rw [if_neg k3] at h
  by_cases k4 : k = 4
  · subst k4
    rw [if_pos rfl, Bool.and_eq_true, decide_eq_true_eq] at h
    obtain ⟨rfl, h2⟩ := h
    rw [if_pos rfl] at ht
    unfold word at h2
    rw [Bool.and_eq_true, List.all_eq_true] at h2
    have hr2 : runL noQ (s.data.toList ++ 39 :: r) = s.data.toList.length := run_quote h2.2
    rw [ht]
    refine ⟨⟨39, _, rfl, by decide, by decide⟩, ?_⟩
    rw [List.cons_append, List.append_assoc, List.singleton_append, one_text (by rw [hr2]; simp), hr2, List.take_left' rfl]
    simp only [bytesOf, List.length_cons, List.length_append, List.length_nil]
  rw [if_neg k4] at h ht
  by_cases k5 : k = 5
  · subst k5
    rw [if_pos rfl, Bool.and_eq_true, decide_eq_true_eq] at h
    obtain ⟨rfl, h2⟩ := h
    unfold markOk at h2
    rw [ByteArray.toList_eq, Bool.or_eq_true] at h2
    rcases h2 with h2 | h2
    · have hL := eq_of_beq h2
      rw [hL] at ht
      have hs := list_eq hL
      subst hs
      rw [ht]
      exact ⟨⟨45, [62], rfl, by decide, by decide⟩, rfl⟩
    · simp only [marks1, List.any_cons, List.any_nil, Bool.or_false, Bool.or_eq_true, beq_iff_eq] at h2
      rcases h2 with hL | hL | hL | hL | hL | hL | hL | hL | hL | hL | hL | hL <;>
      · rw [hL] at ht
        have hs := list_eq hL
        subst hs
        rw [ht]
        refine ⟨⟨_, [], rfl, by decide, by decide⟩, ?_⟩
        rw [List.singleton_append, one_mark (by decide) (by decide) (by decide) (by decide) (fun e => hh e.2)]
        rfl
  rw [if_neg k5] at h
  cases h
where
  digits_byte : ∀ (m : Nat), ∀ b ∈ decDigits m, 48 ≤ b.toNat ∧ b.toNat ≤ 57 := by
    intro m
    induction m using Nat.strongRecOn with
    | _ m ih =>
    intro b hb
    have hd : ∀ d : Nat, d < 10 → 48 ≤ (UInt8.ofNat (48 + d)).toNat ∧ (UInt8.ofNat (48 + d)).toNat ≤ 57 := by
      intro d hd
      rw [UInt8.toNat_ofNat']
      omega
    by_cases h : m < 10
    · rw [dig_small h, List.mem_singleton] at hb
      subst hb
      exact hd m h
    · rw [dig_big h, List.mem_append, List.mem_singleton] at hb
      rcases hb with hb | rfl
      · exact ih (m / 10) (by omega) b hb
      · exact hd _ (by omega)
theorem tail_cons (y : List UInt8) (z : List (List UInt8)) : joinTail [32] (y :: z) = 32 :: (y ++ joinTail [32] z) := by simp [joinTail]
theorem join_len : ∀ l : List Vl, (∀ t ∈ l, tokenOk t = true) → l.length ≤ (join (l.map tokL) [32]).length ∧ l.length ≤ (joinTail [32] (l.map tokL)).length
  | [], _ => by simp
  | t :: l, h => by
    obtain ⟨⟨c, m, e, _⟩, _⟩ := tok_one (h t (by simp)) (r := []) (Or.inl rfl)
    have ih := (join_len l fun x hx => h x (List.mem_cons_of_mem _ hx)).2
    rw [List.map_cons, join_cons, tail_cons, e]
    simp only [List.length_append, List.length_cons]
    omega
theorem lex_join (N : Nat) : ∀ (l : List Vl) (n : Nat) (acc : List Vl), (∀ t ∈ l, tokenOk t = true) → l.length ≤ n → acc.length + l.length ≤ 3000 → lexF N (n + 1) (join (l.map tokL) [32]) acc = (acc ++ l, -1)
  | [], n, acc, _, _, _ => by
    rw [lexF, List.map_nil, join_nil, if_pos (by simp [passM]), List.append_nil]
  | t :: l, n, acc, h, hn, ha => by
    rw [List.length_cons] at hn ha
    obtain ⟨n, rfl⟩ : ∃ k, n = k + 1 := ⟨n - 1, by omega⟩
    have ih := lex_join N l n (acc ++ [t]) (fun x hx => h x (List.mem_cons_of_mem _ hx)) (by omega) (by rw [List.length_append, List.length_singleton]; omega)
    rw [List.map_cons, join_cons]
    have hf : fine (joinTail [32] (l.map tokL)) := by
      cases l with
      | nil => exact Or.inl rfl
      | cons u l => exact Or.inr ⟨_, by rw [List.map_cons, tail_cons]⟩
    have hp : passM false (joinTail [32] (l.map tokL)) = passM false (join (l.map tokL) [32]) := by
      cases l with
      | nil => rfl
      | cons u l =>
        rw [List.map_cons, tail_cons, join_cons, passM, if_pos (by decide)]
    obtain ⟨⟨c, m, e, h1, h2⟩, ho⟩ := tok_one (h t (by simp)) hf
    have hps : passM false (tokL t ++ joinTail [32] (l.map tokL)) = tokL t ++ joinTail [32] (l.map tokL) := by
      rw [e, List.cons_append, passM, h1, if_neg (by decide), if_neg h2]
    rw [lexF, hps, if_neg (by rw [e]; simp), ho, if_pos ⟨h t (by simp), by omega⟩]
    dsimp only
    rw [List.drop_left' rfl, lexF_pass2 hp, ih, List.append_assoc, List.singleton_append]
theorem lexed_join {l : List Vl} (h : ∀ t ∈ l, tokenOk t = true) (hl : l.length ≤ 3000) : lexed (joinTok l) = (l, -1) := by
  have e : (joinTok l).data.toList = join (l.map tokL) [32] := by
    unfold joinTok joinB
    rw [List.map_map]
    rfl
  have hz := (join_len l h).1
  unfold lexed
  rw [← size_data, e]
  exact lex_join _ l _ [] h hz (by simpa using hl)
theorem lexF_right (N : Nat) : ∀ (n : Nat) (L : List UInt8) (acc : List Vl), (∀ t ∈ acc, tokenOk t = true) → acc.length ≤ 3000 → (∀ t ∈ (lexF N n L acc).1, tokenOk t = true) ∧ (lexF N n L acc).1.length ≤ 3000 ∧ ((lexF N n L acc).2 = -1 ∨ ((lexF N n L acc).1 = [] ∧ (lexF N n L acc).2 < N))
  | 0, L, acc, h, hl => ⟨h, hl, Or.inl rfl⟩
  | n + 1, L, acc, h, hl => by
    rw [lexF]
    split
    · exact ⟨h, hl, Or.inl rfl⟩
    · rename_i h0
      split
      · rename_i h1
        refine lexF_right N n _ _ (fun t ht => ?_) (by rw [List.length_append, List.length_singleton]; omega)
        rcases List.mem_append.1 ht with ht | ht
        · exact h t ht
        · rw [List.mem_singleton] at ht
          rw [ht]
          exact h1.1
      · refine ⟨fun t ht => (by cases ht), Nat.zero_le _, Or.inr ⟨rfl, ?_⟩⟩
        have : 0 < (passM false L).length := List.length_pos_iff.2 h0
        dsimp only
        omega
theorem lexed_right (s : ByteArray) : (∀ t ∈ (lexed s).1, tokenOk t = true) ∧ (lexed s).1.length ≤ 3000 ∧ ((lexed s).2 = -1 ∨ ((lexed s).1 = [] ∧ (lexed s).2 < s.size)) :=
  lexF_right _ _ _ _ (fun t ht => by cases ht) (Nat.zero_le _)
end Go.Proofs.YtgcjhicpkmhbaaaDoor
