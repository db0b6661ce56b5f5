/- Plain laws of decimal numerals: what a row of digits without a leading zero spells has just that row as its numeral. Names no program. No condition. -/
import Derived.Lib.AtoiErr
import Derived.Lib.AtoiBound
import Derived.Lib.ItoaMem
namespace Go.Proofs.YtgcjhicpkmhbaaaDoor
open Go.Lib
theorem decFrom_snoc (b : UInt8) : ∀ (l : List UInt8) (acc : Nat), decFrom acc (l ++ [b]) = (decFrom acc l).bind fun n => (digitVal b).map fun d => n * 10 + d
  | [], acc => by
    simp only [List.nil_append, decFrom]
    cases digitVal b <;> rfl
  | a :: t, acc => by
    simp only [List.cons_append, decFrom]
    cases digitVal a with
    | none => rfl
    | some d => exact decFrom_snoc b t _
theorem decFrom_app (r : List UInt8) : ∀ (l : List UInt8) (acc : Nat), decFrom acc (l ++ r) = (decFrom acc l).bind fun n => decFrom n r
  | [], acc => by simp [decFrom]
  | a :: t, acc => by
    simp only [List.cons_append, decFrom]
    cases digitVal a with
    | none => rfl
    | some d => exact decFrom_app r t _
/-- what the reference reads of a text as a number: -1 where it is none -/
def wholeT (L : List UInt8) : Int :=
  if (1 ≤ L.length ∧ L.length ≤ 10) ∧ ¬ (1 < L.length ∧ L.head? = some 48) then (match decFrom 0 L with | some m => (m : Int) | none => -1) else -1
theorem digitVal_of {b : UInt8} {d : Nat} (h : digitVal b = some d) : d ≤ 9 ∧ b = UInt8.ofNat (48 + d) := by
  unfold digitVal at h
  split at h
  · rename_i hb
    injection h with h
    refine ⟨by omega, ?_⟩
    have : 48 + d = b.toNat := by omega
    rw [this]
    exact (UInt8.ofNat_toNat).symm
  · cases h
theorem digitVal_to {d : Nat} (h : d ≤ 9) : digitVal (UInt8.ofNat (48 + d)) = some d := by
  have e : (UInt8.ofNat (48 + d)).toNat = 48 + d := by
    rw [UInt8.toNat_ofNat']
    omega
  unfold digitVal
  rw [e, if_pos ⟨by omega, by omega⟩]
  congr 1
  omega
theorem dig_small {n : Nat} (h : n < 10) : decDigits n = [UInt8.ofNat (48 + n)] := by rw [decDigits, dif_pos h]
theorem dig_big {n : Nat} (h : ¬ n < 10) : decDigits n = decDigits (n / 10) ++ [UInt8.ofNat (48 + n % 10)] := by rw [decDigits, dif_neg h]
theorem canon : ∀ (n : Nat) (l : List UInt8) (m : Nat), l.length = n → l ≠ [] → decFrom 0 l = some m → (1 < l.length → l.head? ≠ some 48) → decDigits m = l ∧ (l.head? ≠ some 48 → 1 ≤ m)
  | 0, l, _, hn, hne, _, _ => absurd (List.eq_nil_of_length_eq_zero hn) hne
  | n + 1, l, m, hn, hne, h, hz => by
    rcases List.eq_nil_or_concat l with rfl | ⟨L, b, rfl⟩
    · exact absurd rfl hne
    rw [List.concat_eq_append] at *
    rw [decFrom_snoc] at h
    obtain ⟨k, hk, h2⟩ := Option.bind_eq_some_iff.1 h
    obtain ⟨d, hd, rfl⟩ := Option.map_eq_some_iff.1 h2
    obtain ⟨hd9, rfl⟩ := digitVal_of hd
    by_cases hL : L = []
    · subst hL
      simp only [decFrom] at hk
      injection hk with hk
      subst hk
      refine ⟨by rw [dig_small (by omega)]; simp, fun hh => ?_⟩
      rcases Nat.eq_zero_or_pos d with h0 | h0
      · subst h0
        exact absurd rfl hh
      · omega
    · obtain ⟨a, t, rfl⟩ : ∃ a t, L = a :: t := by
        cases L with
        | nil => exact absurd rfl hL
        | cons a t => exact ⟨a, t, rfl⟩
      have hz' : (a :: t).head? ≠ some 48 := by
        have := hz (by simp)
        simpa using this
      obtain ⟨e1, e2⟩ := canon n (a :: t) k (by simp at hn ⊢; omega) hL hk (fun _ => hz')
      have hk1 := e2 hz'
      refine ⟨?_, fun _ => by omega⟩
      rw [dig_big (by omega), show (k * 10 + d) / 10 = k by omega, show (k * 10 + d) % 10 = d by omega, e1]
theorem decFrom_digits (m : Nat) : decFrom 0 (decDigits m) = some m := by
  induction m using Nat.strongRecOn with
  | _ m ih =>
  by_cases h : m < 10
  · rw [dig_small h]
    simp only [decFrom, digitVal_to (show m ≤ 9 by omega)]
    congr 1
    omega
  · rw [dig_big h, decFrom_snoc, ih (m / 10) (by omega), digitVal_to (by omega)]
    simp only [Option.bind_some, Option.map_some]
    congr 1
    omega
theorem digits_ne (m : Nat) : decDigits m ≠ [] := by
  by_cases h : m < 10
  · rw [dig_small h]; simp
  · rw [dig_big h]; simp
theorem digits_head (m : Nat) : 1 ≤ m → (decDigits m).head? ≠ some 48 := by
  induction m using Nat.strongRecOn with
  | _ m ih =>
  intro h1
  by_cases h : m < 10
  · rw [dig_small h]
    intro e
    simp only [List.head?_cons, Option.some.injEq] at e
    have := congrArg UInt8.toNat e
    rw [UInt8.toNat_ofNat'] at this
    have h48 : (48 : UInt8).toNat = 48 := rfl
    omega
  · rw [dig_big h, List.head?_append]
    have := ih (m / 10) (by omega) (by omega)
    cases hd : (decDigits (m / 10)).head? with
    | none => exact absurd (List.head?_eq_none_iff.1 hd) (digits_ne _)
    | some x => rw [hd] at this; simpa using this
end Go.Proofs.YtgcjhicpkmhbaaaDoor
