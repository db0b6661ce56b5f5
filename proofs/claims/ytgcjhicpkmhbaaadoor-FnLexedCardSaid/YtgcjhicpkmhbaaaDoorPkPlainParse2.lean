import Derived.Test.YtgcjhicpkmhbaaaDoorPkParseNum
/- Plain laws of values that are read of their text: what the program reads is what the reference reads. No condition. -/
namespace Go.Proofs.YtgcjhicpkmhbaaaDoor
open Go.RowKit Go.Lib
set_option maxRecDepth 100000
def z0 : Vl := ⟨0, 0, ⟨#[]⟩⟩
def midB (s : ByteArray) : ByteArray := s.extract 1 (s.size - 1)
def candV (s : ByteArray) : Vl := if 2 ≤ s.size ∧ s.data.toList.head? = some 39 then ⟨2, 0, midB s⟩ else ⟨1, numOf s.data.toList, ⟨#[]⟩⟩
def parseV (s : ByteArray) : Vl × Bool := if valOk (candV s) = true ∧ valText (candV s) = s then (candV s, true) else (z0, false)
def tupP (r : Vl × Bool) : Value := .tuple #[.agg #[.int .i64 r.1.k, .int .i64 r.1.n, .string r.1.s], .bool r.2]
theorem digits_len10 : ∀ (k m : Nat), m < 10 ^ (k + 1) → (decDigits m).length ≤ k + 1
  | 0, m, h => by rw [dig_small (by simpa using h)]; simp
  | k + 1, m, h => by
    by_cases hs : m < 10
    · rw [dig_small hs]; simp
    · rw [dig_big hs, List.length_append, List.length_singleton]
      have := digits_len10 k (m / 10) (by rw [Nat.pow_succ] at h; omega)
      omega
theorem digits_all {m : Nat} {b : UInt8} (h : (decDigits m).head? = some b) : 48 ≤ b.toNat ∧ b.toNat ≤ 57 := by
  induction m using Nat.strongRecOn with
  | _ m ih =>
  by_cases hs : m < 10
  · rw [dig_small hs] at h
    simp only [List.head?_cons, Option.some.injEq] at h
    subst h
    rw [UInt8.toNat_ofNat']
    omega
  · rw [dig_big hs, List.head?_append] at h
    cases hd : (decDigits (m / 10)).head? with
    | none => exact absurd (List.head?_eq_none_iff.1 hd) (digits_ne _)
    | some x =>
      rw [hd] at h
      simp only [Option.some_or, Option.some.injEq] at h
      subst h
      exact ih (m / 10) (by omega) hd
theorem digits_cons (m : Nat) : ∃ b r, decDigits m = b :: r ∧ 48 ≤ b.toNat ∧ b.toNat ≤ 57 := by
  cases h : decDigits m with
  | nil => exact absurd h (digits_ne m)
  | cons b r => exact ⟨b, r, rfl, digits_all (by rw [h]; rfl)⟩
theorem ne_of_nat {b : UInt8} {n : Nat} (h : 48 ≤ b.toNat) (hn : n < 48) : b ≠ UInt8.ofNat n := by
  rintro rfl
  rw [UInt8.toNat_ofNat'] at h
  omega
theorem whole_digits {m : Nat} (h : m < 10000000000) : wholeT (decDigits m) = (m : Int) := by
  have hl := digits_len10 9 m h
  have h1 : 1 ≤ (decDigits m).length := by
    obtain ⟨b, r, e, _⟩ := digits_cons m
    rw [e]; simp
  have hz : ¬ (1 < (decDigits m).length ∧ (decDigits m).head? = some 48) := by
    rintro ⟨h2, h3⟩
    by_cases hs : m < 10
    · rw [dig_small hs] at h2; simp at h2
    · exact digits_head m (by omega) h3
  unfold wholeT
  rw [if_pos ⟨⟨h1, by omega⟩, hz⟩, decFrom_digits]
theorem whole_nonneg {L : List UInt8} (h : 0 ≤ wholeT L) : ∃ m : Nat, wholeT L = m ∧ L = decDigits m ∧ L.length ≤ 10 := by
  unfold wholeT at h ⊢
  split at h
  · rename_i hc
    cases hd : decFrom 0 L with
    | none => rw [hd] at h; simp at h
    | some m =>
      rw [if_pos hc]
      refine ⟨m, rfl, ?_, hc.1.2⟩
      have := canon L.length L m rfl (by intro e; rw [e] at hc; simp at hc) hd (fun h1 h2 => hc.2 ⟨h1, h2⟩)
      exact this.1.symm
  · simp at h
theorem num_digits {m : Nat} (h : (decDigits m).length ≤ 10) : numOf (decDigits m) = (m : Int) := by
  obtain ⟨b, r, e, h0, h1⟩ := digits_cons m
  have hne : b ≠ 45 := ne_of_nat (n := 45) h0 (by omega)
  have hne2 : b ≠ 43 := ne_of_nat (n := 43) h0 (by omega)
  have hr : restT (decDigits m) = decDigits m := by
    unfold restT
    rw [e, List.head?_cons, if_neg (by simpa using hne)]
  have ha : atoi (decDigits m) = some (m : Int) := by
    have hd : decNat (decDigits m) = some m := by
      unfold decNat
      rw [if_neg (by rw [e]; simp), decFrom_digits]
    rw [e] at hd ⊢
    unfold atoi
    have e45 : (b == 45) = false := beq_eq_false_iff_ne.2 hne
    have e43 : (b == 43) = false := beq_eq_false_iff_ne.2 hne2
    simp only [e45, e43, Bool.false_eq_true, if_false, hd, Option.map_some]
  unfold numOf
  rw [hr, if_pos ⟨by rw [e]; simp, h⟩, ha]
  rfl
theorem num_neg {m : Nat} (h : (decDigits m).length ≤ 10) : numOf (45 :: decDigits m) = -(m : Int) := by
  obtain ⟨b, r, e, h0, h1⟩ := digits_cons m
  have hr : restT (45 :: decDigits m) = decDigits m := by
    unfold restT
    rw [List.head?_cons, if_pos rfl]; rfl
  have ha : atoi (45 :: decDigits m) = some (-(m : Int)) := by
    have hd : decNat (decDigits m) = some m := by
      unfold decNat
      rw [if_neg (by rw [e]; simp), decFrom_digits]
    unfold atoi
    simp only [beq_self_eq_true, if_true, hd, Option.map_some]
  unfold numOf
  rw [hr, if_pos ⟨by rw [e]; simp, h⟩, ha]
  rfl
theorem valOk_numv {m : Int} : valOk ⟨1, m, ⟨#[]⟩⟩ = true ↔ (-1000000000 ≤ m ∧ m ≤ 1000000000) := by
  unfold valOk inB
  simp only [if_true, Bool.and_eq_true, decide_eq_true_eq]
  exact ⟨fun h => h.1, fun h => ⟨h, rfl⟩⟩
theorem text_num {m : Int} {s : ByteArray} (h : valOk ⟨1, m, ⟨#[]⟩⟩ = true) : valText ⟨1, m, ⟨#[]⟩⟩ = s ↔ s.data.toList = itoa m := by
  unfold valText rawText
  rw [if_pos h]
  simp only [if_true]
  unfold numT
  constructor
  · rintro rfl; simp
  · intro e
    apply ByteArray.ext
    apply Array.ext'
    simpa using e.symm
theorem parse_M (s : ByteArray) (_ : 2 ≤ s.size) (T : List UInt8) (hL : s.data.toList = 45 :: T) :
    parseV s = if wholeT T ≤ 0 then (z0, false) else if valOk ⟨1, -wholeT T, ⟨#[]⟩⟩ = true then (⟨1, -wholeT T, ⟨#[]⟩⟩, true) else (z0, false) := by
  have hc : candV s = ⟨1, numOf s.data.toList, ⟨#[]⟩⟩ := by
    unfold candV
    rw [if_neg]
    rintro ⟨_, h⟩
    rw [hL] at h
    simp at h
  unfold parseV
  rw [hc]
  by_cases hx : wholeT T ≤ 0
  · rw [if_pos hx, if_neg]
    rintro ⟨hv, ht⟩
    rw [text_num hv, hL] at ht
    have hb := valOk_numv.1 hv
    rw [hL] at hb
    generalize numOf (45 :: T) = m at *
    unfold itoa at ht
    split at ht
    · injection ht with _ ht
      have := whole_digits (m := m.natAbs) (by omega)
      rw [← ht] at this
      omega
    · obtain ⟨b, r, e, h0, h1⟩ := digits_cons m.toNat
      rw [e] at ht
      injection ht with ht _
      subst ht
      exact absurd h0 (by decide)
  · rw [if_neg hx]
    obtain ⟨m, hm, hT, hl⟩ := whole_nonneg (L := T) (by omega)
    have hn : numOf s.data.toList = -wholeT T := by rw [hL, hm, hT]; exact num_neg (by rw [← hT]; exact hl)
    rw [hn]
    by_cases hv : valOk ⟨1, -wholeT T, ⟨#[]⟩⟩ = true
    · have htt : valText ⟨1, -wholeT T, ⟨#[]⟩⟩ = s := by rw [text_num hv, hL, hm, itoa_neg m (by omega), ← hT]
      rw [if_pos hv, if_pos ⟨hv, htt⟩]
    · rw [if_neg hv, if_neg (fun h => hv h.1)]
theorem cand_num {s : ByteArray} (h : ¬ (2 ≤ s.size ∧ s.data.toList.head? = some 39)) : candV s = ⟨1, numOf s.data.toList, ⟨#[]⟩⟩ := by
  unfold candV
  rw [if_neg h]
theorem quote_toList (m : ByteArray) : (quoteT m).data.toList = 39 :: (m.data.toList ++ [39]) := by
  unfold quoteT
  simp
theorem parse_D (s : ByteArray) (hQ : ¬ (2 ≤ s.size ∧ s.data.toList.head? = some 39 ∧ s.data.toList.getLast? = some 39)) (hM : ¬ (2 ≤ s.size ∧ s.data.toList.head? = some 45)) :
    parseV s = if wholeT s.data.toList < 0 then (z0, false) else if valOk ⟨1, wholeT s.data.toList, ⟨#[]⟩⟩ = true then (⟨1, wholeT s.data.toList, ⟨#[]⟩⟩, true) else (z0, false) := by
  by_cases hc : 2 ≤ s.size ∧ s.data.toList.head? = some 39
  · have hw : wholeT s.data.toList < 0 := by
      rcases Int.lt_or_le (wholeT s.data.toList) 0 with h | h
      · exact h
      · obtain ⟨m, _, e, _⟩ := whole_nonneg h
        have := hc.2
        rw [e] at this
        have := (digits_all this).1
        exact absurd this (by decide)
    rw [if_pos hw]
    unfold parseV
    rw [if_neg]
    rintro ⟨hv, ht⟩
    unfold candV at hv ht
    rw [if_pos hc] at hv ht
    unfold valText rawText at ht
    rw [if_pos hv] at ht
    simp only at ht
    rw [if_neg (by decide)] at ht
    apply hQ
    refine ⟨hc.1, hc.2, ?_⟩
    rw [← ht, quote_toList, ← List.cons_append, List.getLast?_append]
    rfl
  · unfold parseV
    rw [cand_num hc]
    by_cases hx : wholeT s.data.toList < 0
    · rw [if_pos hx, if_neg]
      rintro ⟨hv, ht⟩
      rw [text_num hv] at ht
      have hb := valOk_numv.1 hv
      generalize numOf s.data.toList = m at *
      unfold itoa at ht
      split at ht
      · apply hM
        obtain ⟨b, r, e, _⟩ := digits_cons m.natAbs
        refine ⟨?_, by rw [ht]; rfl⟩
        rw [← size_data, ht, e]
        simp
      · have := whole_digits (m := m.toNat) (by omega)
        rw [← ht] at this
        omega
    · rw [if_neg hx]
      obtain ⟨m, hm, hT, hl⟩ := whole_nonneg (L := s.data.toList) (by omega)
      have hn : numOf s.data.toList = wholeT s.data.toList := by
        rw [hm]
        have := num_digits (m := m) (by rw [← hT]; exact hl)
        rw [← hT] at this
        exact this
      rw [hn]
      by_cases hv : valOk ⟨1, wholeT s.data.toList, ⟨#[]⟩⟩ = true
      · have htt : valText ⟨1, wholeT s.data.toList, ⟨#[]⟩⟩ = s := by rw [text_num hv, hm, itoa_nonneg, ← hT]
        rw [if_pos hv, if_pos ⟨hv, htt⟩]
      · rw [if_neg hv, if_neg (fun h => hv h.1)]
theorem parse_Q (s : ByteArray) (h2 : 2 ≤ s.size) (hh : s.data.toList.head? = some 39) (hl : s.data.toList.getLast? = some 39) :
    parseV s = if valOk ⟨2, 0, midB s⟩ = true then (⟨2, 0, midB s⟩, true) else (z0, false) := by
  have hc : candV s = ⟨2, 0, midB s⟩ := by unfold candV; rw [if_pos ⟨h2, hh⟩]
  have hq : quoteT (midB s) = s := by
    apply ByteArray.ext
    apply Array.ext'
    rw [quote_toList]
    unfold midB
    have hn : s.data.toList.length = s.size := size_data s
    have e : (s.extract 1 (s.size - 1)).data.toList = s.data.toList.tail.take (s.size - 1 - 1) := by
      simp [ByteArray.data_extract]
    rw [e, ← hn]
    generalize s.data.toList = L at *
    cases L with
    | nil => cases hh
    | cons a t =>
      rw [List.head?_cons] at hh
      injection hh with hh
      subst hh
      rcases List.eq_nil_or_concat t with rfl | ⟨M, b, rfl⟩
      · simp at hn; omega
      · rw [List.concat_eq_append] at *
        rw [← List.cons_append, List.getLast?_append] at hl
        simp at hl
        subst hl
        simp
  unfold parseV
  rw [hc]
  by_cases hv : valOk ⟨2, 0, midB s⟩ = true
  · have htt : valText ⟨2, 0, midB s⟩ = s := by
      unfold valText rawText
      rw [if_pos hv]
      simp only
      rw [if_neg (by decide)]
      exact hq
    rw [if_pos hv, if_pos ⟨hv, htt⟩]
  · rw [if_neg hv, if_neg (fun h => hv h.1)]
end Go.Proofs.YtgcjhicpkmhbaaaDoor
