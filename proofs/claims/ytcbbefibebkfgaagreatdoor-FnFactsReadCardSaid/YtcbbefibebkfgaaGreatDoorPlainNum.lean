/- Plain laws of numbers and texts as bytes: what is put is got; cut it is not. -/
import Derived.Test.YtcbbefibebkfgaaGreatDoorPut3
namespace Go.Proofs.YtcbbefibebkfgaaGreatDoor
open Go.RowKit

theorem dec_enc (x : Int) : dec (encN x) = clampN x := by
  unfold dec encN
  have h1 : -1000000000 ≤ clampN x ∧ clampN x ≤ 1000000000 := by unfold clampN; omega
  generalize clampN x = c at *
  split <;> split <;> omega
theorem clamp_range (x : Int) : -1000000000 ≤ clampN x ∧ clampN x ≤ 1000000000 := by unfold clampN; omega
theorem drop_get {L l : List UInt8} {b : UInt8} {p : Nat} (h : L.drop p = b :: l) : ∃ hp : p < L.length, L[p] = b ∧ L.drop (p + 1) = l := by
  have hp : p < L.length := by
    rcases Nat.lt_or_ge p L.length with h1 | h1
    · exact h1
    · rw [List.drop_eq_nil_of_le h1] at h; cases h
  rw [List.drop_eq_getElem_cons hp] at h
  injection h with h1 h2
  exact ⟨hp, h1, h2⟩
theorem ofNat_toNat (m : Nat) (h : m < 256) : (UInt8.ofNat m).toNat = m := by rw [UInt8.toNat_ofNat']; omega
theorem gnum_put (L : List UInt8) (a : Nat) : ∀ f k u m (rest : List UInt8), L.drop (a + k) = numB f m ++ rest → m < 128 ^ f → 0 < f → (k = 0 ∨ 0 < m) →
    -1000000000 ≤ dec (u + m * 128 ^ k) → dec (u + m * 128 ^ k) ≤ 1000000000 →
    gnum L a f k u = (dec (u + m * 128 ^ k), ((a + k + (numB f m).length : Nat) : Int), true) := by
  intro f
  induction f with
  | zero => intro k u m rest _ _ h; omega
  | succ f ih =>
    intro k u m rest h hm _ hk h1 h2
    unfold numB at h
    by_cases hbig : 127 < m
    · rw [if_pos hbig, List.cons_append] at h
      obtain ⟨hp, hg, hd⟩ := drop_get h
      have hx : L[a + k].toNat = 128 + m % 128 := by rw [hg, ofNat_toNat _ (by omega)]
      have hmod : L[a + k].toNat % 128 = m % 128 := by rw [hx]; omega
      have hsum : u + m % 128 * 128 ^ k + m / 128 * 128 ^ (k + 1) = u + m * 128 ^ k := by
        rw [Nat.pow_succ, Nat.add_assoc, ← Nat.mul_assoc, Nat.mul_right_comm, ← Nat.add_mul]
        congr 2
        omega
      have hm1 : m / 128 < 128 ^ f := div_lt hm
      have hf : 0 < f := pos_of_lt hm hbig
      rw [gnum, dif_pos hp, if_pos (by rw [hx]; omega), hmod, ih (k + 1) _ (m / 128) rest (by rw [← Nat.add_assoc]; exact hd) hm1 hf (.inr (by omega)) (by rw [hsum]; exact h1) (by rw [hsum]; exact h2), hsum]
      rw [show numB (f + 1) m = UInt8.ofNat (128 + m % 128) :: numB f (m / 128) by rw [numB, if_pos hbig]]
      simp only [List.length_cons]
      rw [show a + (k + 1) + (numB f (m / 128)).length = a + k + ((numB f (m / 128)).length + 1) by omega]
    · rw [if_neg hbig, List.cons_append] at h
      obtain ⟨hp, hg, hd⟩ := drop_get h
      have hx : L[a + k].toNat = m := by rw [hg, ofNat_toNat _ (by omega)]
      have hmod : m % 128 = m := by omega
      rw [gnum, dif_pos hp, if_neg (by rw [hx]; omega), hx, hmod, if_neg (by omega)]
      rw [show numB (f + 1) m = [UInt8.ofNat m] by rw [numB, if_neg hbig]]
      simp
theorem gnum_cut (L : List UInt8) (a : Nat) : ∀ f k u, (∀ j, a + k ≤ j → (hj : j < L.length) → 128 ≤ L[j].toNat) → gnum L a f k u = (0, 0, false) := by
  intro f
  induction f with
  | zero => intro k u _; rfl
  | succ f ih =>
    intro k u h
    unfold gnum
    by_cases hp : a + k < L.length
    · rw [dif_pos hp, if_pos (h (a + k) (Nat.le_refl _) hp)]
      exact ih (k + 1) _ fun j hj hl => h j (by omega) hl
    · rw [dif_neg hp]
theorem numB_ne (f m : Nat) (hf : 0 < f) : 0 < (numB f m).length := by
  cases f with
  | zero => omega
  | succ f => unfold numB; split <;> simp
theorem numB_front : ∀ f m j, (h : j < (numB f m).length) → j + 1 < (numB f m).length → 128 ≤ ((numB f m)[j]).toNat := by
  intro f
  induction f with
  | zero => intro m j h; simp [numB] at h
  | succ f ih =>
    intro m j h hj
    unfold numB at h hj
    by_cases hbig : 127 < m
    · rw [if_pos hbig] at h hj
      simp only [List.length_cons] at h hj
      cases j with
      | zero =>
        simp only [numB, if_pos hbig, List.getElem_cons_zero]
        rw [ofNat_toNat _ (by omega)]; omega
      | succ j =>
        simp only [numB, if_pos hbig, List.getElem_cons_succ]
        exact ih _ j (by omega) (by omega)
    · rw [if_neg hbig] at hj
      simp at hj
theorem encN_lt5 (x : Int) : encN x < 128 ^ 5 := Nat.lt_of_le_of_lt (encN_lt x) (by decide)
theorem getNum_put (bs rest : List UInt8) (x : Int) : getNum (bs ++ putN x ++ rest) bs.length = (clampN x, ((bs.length + (putN x).length : Nat) : Int), true) := by
  unfold getNum
  rw [if_neg (by omega)]
  have hr := clamp_range x
  have := gnum_put (bs ++ putN x ++ rest) bs.length 5 0 0 (encN x) rest (by rw [List.append_assoc]; simp [putN]) (encN_lt5 x) (by omega) (.inl rfl) (by simp [dec_enc]; omega) (by simp [dec_enc]; omega)
  simp only [Nat.zero_add, Nat.pow_zero, Nat.mul_one, Nat.add_zero] at this
  rw [dec_enc] at this
  simpa [putN] using this
theorem getNum_cut (bs : List UInt8) (x : Int) : getNum ((bs ++ putN x).take ((bs ++ putN x).length - 1)) bs.length = (0, 0, false) := by
  have hp := numB_ne 5 (encN x) (by omega)
  unfold getNum
  rw [if_neg (by omega)]
  apply gnum_cut
  intro j hj hl
  simp only [Int.toNat_natCast, Nat.add_zero] at hj
  have hl2 : j - bs.length + 1 < (putN x).length := by
    simp only [List.length_take, List.length_append] at hl
    unfold putN
    unfold putN at hl
    omega
  have hget : ((bs ++ putN x).take ((bs ++ putN x).length - 1))[j] = (putN x)[j - bs.length]'(by omega) := by
    rw [List.getElem_take, List.getElem_append_right hj]
  rw [hget]
  exact numB_front 5 (encN x) (j - bs.length) _ hl2
theorem getText_put (c : List UInt8) (s : ByteArray) (rest : List UInt8) (hs : s.size ≤ 1000000000) : getText (c ++ putN s.size ++ s.data.toList ++ rest) c.length = (s, ((c.length + (putN s.size).length + s.size : Nat) : Int), true) := by
  have h := getNum_put c (s.data.toList ++ rest) s.size
  have hc : clampN s.size = s.size := by unfold clampN; omega
  rw [← List.append_assoc, hc] at h
  unfold getText
  rw [h]
  simp only
  rw [if_pos ⟨trivial, by omega, by simp only [List.length_append, size_data]; omega⟩]
  have hd : ((c ++ putN s.size ++ s.data.toList ++ rest).drop (c.length + (putN s.size).length)).take s.size = s.data.toList := by
    rw [List.append_assoc, List.drop_append_of_le_length (by simp), List.drop_of_length_le (by simp)]
    rw [List.nil_append, List.take_append_of_le_length (by rw [size_data]; exact Nat.le_refl _), List.take_of_length_le (by rw [size_data]; exact Nat.le_refl _)]
  simp only [Int.toNat_natCast, hd]
  rfl
end Go.Proofs.YtcbbefibebkfgaaGreatDoor
