import Derived.Test.YtcbbefibebkfgaaGreatDoorPkVals
/- Plain laws: bytes that are read as a value are the value's bytes. No condition. -/
namespace Go.Proofs.YtcbbefibebkfgaaGreatDoor
open Go.RowKit
set_option maxRecDepth 100000
theorem drop_cons {L : List UInt8} {p : Nat} (h : p < L.length) : L.drop p = L[p] :: L.drop (p + 1) := List.drop_eq_getElem_cons h
theorem gnum_back (L : List UInt8) (a : Nat) : ∀ f k u x nx, gnum L a f k u = (x, nx, true) →
    ∃ m : Nat, (0 < f → m < 128 ^ f) ∧ (k = 0 ∨ 0 < m) ∧ x = dec (u + m * 128 ^ k) ∧ (-1000000000 ≤ x ∧ x ≤ 1000000000) ∧ nx = ((a + k + (numB f m).length : Nat) : Int) ∧ L.drop (a + k) = numB f m ++ L.drop (a + k + (numB f m).length) := by
  intro f
  induction f with
  | zero =>
    intro k u x nx h
    rw [gnum] at h
    injection h with _ h
    injection h with _ h
    cases h
  | succ f ih =>
    intro k u x nx h
    rw [gnum] at h
    by_cases hp : a + k < L.length
    · rw [dif_pos hp] at h
      by_cases hb : 128 ≤ L[a + k].toNat
      · rw [if_pos hb] at h
        obtain ⟨m, hm, hk, hx, hr, hn, hd⟩ := ih (k + 1) _ x nx h
        have hm0 : 0 < m := by rcases hk with h0 | h0 <;> omega
        have hf : 0 < f := by
          rcases Nat.eq_zero_or_pos f with h0 | h0
          · subst h0
            rw [gnum] at h
            injection h with _ h
            injection h with _ h
            cases h
          · exact h0
        have hlt := UInt8.toNat_lt L[a + k]
        have hbig : 127 < L[a + k].toNat % 128 + 128 * m := by omega
        have hnb : numB (f + 1) (L[a + k].toNat % 128 + 128 * m) = L[a + k] :: numB f m := by
          rw [numB, if_pos hbig]
          have e1 : (L[a + k].toNat % 128 + 128 * m) % 128 = L[a + k].toNat % 128 := by omega
          have e2 : (L[a + k].toNat % 128 + 128 * m) / 128 = m := by omega
          rw [e1, e2]
          congr 1
          rw [show 128 + L[a + k].toNat % 128 = L[a + k].toNat by omega]
          exact UInt8.ofNat_toNat
        refine ⟨L[a + k].toNat % 128 + 128 * m, fun _ => ?_, .inr (by omega), ?_, hr, ?_, ?_⟩
        · have := hm hf
          rw [Nat.pow_succ]
          omega
        · rw [hx]
          congr 1
          rw [Nat.pow_succ, Nat.add_mul, Nat.add_assoc]
          congr 2
          rw [Nat.mul_comm (128 ^ k) 128, ← Nat.mul_assoc, Nat.mul_comm m 128]
        · rw [hn, hnb, List.length_cons]
          congr 1
          omega
        · rw [hnb, drop_cons hp, List.cons_append, List.length_cons]
          congr 1
          rw [show a + k + 1 = a + (k + 1) by omega, hd, show a + k + ((numB f m).length + 1) = a + (k + 1) + (numB f m).length by omega]
      · rw [if_neg hb] at h
        split at h
        · injection h with _ h
          injection h with _ h
          cases h
        · rename_i hc
          injection h with hx h
          injection h with hn _
          have hmod : L[a + k].toNat % 128 = L[a + k].toNat := by omega
          rw [hmod] at hx hc
          have hnb : numB (f + 1) L[a + k].toNat = [L[a + k]] := by
            rw [numB, if_neg (by omega)]
            congr 1
            exact UInt8.ofNat_toNat
          refine ⟨L[a + k].toNat, fun _ => ?_, ?_, hx.symm, ?_, ?_, ?_⟩
          · have : 128 ^ 1 ≤ 128 ^ (f + 1) := Nat.pow_le_pow_right (by decide) (by omega)
            omega
          · rcases Nat.eq_zero_or_pos k with h0 | h0
            · exact .inl h0
            · right
              rcases Nat.eq_zero_or_pos L[a + k].toNat with h1 | h1
              · exact absurd (Or.inl ⟨h1, h0⟩) hc
              · exact h1
          · rw [← hx]
            refine ⟨?_, ?_⟩
            · rcases Int.lt_or_le (dec (u + L[a + k].toNat * 128 ^ k)) (-1000000000) with h1 | h1
              · exact absurd (Or.inr (Or.inl h1)) hc
              · exact h1
            · rcases Int.lt_or_le 1000000000 (dec (u + L[a + k].toNat * 128 ^ k)) with h1 | h1
              · exact absurd (Or.inr (Or.inr h1)) hc
              · exact h1
          · rw [← hn, hnb]; rfl
          · rw [hnb, drop_cons hp]; rfl
    · rw [dif_neg hp] at h
      injection h with _ h
      injection h with _ h
      cases h
theorem enc_dec (m : Nat) (h : -1000000000 ≤ dec m ∧ dec m ≤ 1000000000) : encN (dec m) = m := by
  have hc : clampN (dec m) = dec m := by unfold clampN; omega
  unfold encN
  rw [hc]
  unfold dec at *
  split at h
  · rw [if_pos (by omega)] <;> split <;> omega
  · rw [if_neg (by omega)] <;> split <;> omega
theorem getNum_back {L : List UInt8} {at_ x nx : Int} (h : getNum L at_ = (x, nx, true)) : 0 ≤ at_ ∧ nx = at_ + (putN x).length ∧ L.drop at_.toNat = putN x ++ L.drop nx.toNat := by
  unfold getNum at h
  split at h
  · injection h with _ h
    injection h with _ h
    cases h
  · rename_i h0
    obtain ⟨m, _, _, hx, hr, hn, hd⟩ := gnum_back L at_.toNat 5 0 0 x nx h
    have hm : x = dec m := by rw [hx]; congr 1; omega
    have hp : putN x = numB 5 m := by
      unfold putN
      rw [hm, enc_dec m (by rw [← hm]; exact hr)]
    rw [hp]
    rw [Nat.add_zero] at hn hd
    refine ⟨by omega, by omega, ?_⟩
    rw [hd, show nx.toNat = at_.toNat + (numB 5 m).length by omega]
theorem getText_back {L : List UInt8} {at_ nx : Int} {s : ByteArray} (h : getText L at_ = (s, nx, true)) : 0 ≤ at_ ∧ nx = at_ + (putN s.size).length + s.size ∧ L.drop at_.toNat = (putN s.size ++ s.data.toList) ++ L.drop nx.toNat := by
  unfold getText at h
  split at h
  · rename_i hc
    obtain ⟨⟨len, p, ok⟩, hg⟩ : ∃ r, getNum L at_ = r := ⟨_, rfl⟩
    rw [hg] at h hc
    obtain ⟨h1, h2, h3⟩ := hc
    simp only at h h1 h2 h3
    subst h1
    injection h with hs h
    injection h with hn _
    obtain ⟨b0, b1, b2⟩ := getNum_back hg
    have hp0 : 0 ≤ p := by omega
    have hsz : (s.size : Int) = len := by
      rw [← hs]
      show (((L.drop p.toNat).take len.toNat).toArray.size : Int) = len
      rw [List.size_toArray, List.length_take, List.length_drop]
      omega
    have hsl : s.data.toList = (L.drop p.toNat).take len.toNat := by rw [← hs]
    rw [hsz]
    refine ⟨b0, by omega, ?_⟩
    rw [b2, List.append_assoc, hsl, show nx.toNat = p.toNat + len.toNat by omega, ← List.drop_drop, List.take_append_drop]
  · injection h with _ h
    injection h with _ h
    cases h
theorem getVal_back {L : List UInt8} {at_ nx : Int} {v : Vl} (h : getVal L at_ = (v, nx, true)) : valOk v = true ∧ 0 ≤ at_ ∧ nx = at_ + (putV v).length ∧ L.drop at_.toNat = putV v ++ L.drop nx.toNat := by
  unfold getVal at h
  obtain ⟨⟨k, p, ok⟩, hg⟩ : ∃ r, getNum L at_ = r := ⟨_, rfl⟩
  rw [hg] at h
  simp only at h
  cases ok with
  | false => simp at h
  | true =>
    obtain ⟨b0, b1, b2⟩ := getNum_back hg
    simp only [if_true] at h
    by_cases hk : k = 1
    · rw [if_pos hk] at h
      unfold getValN at h
      obtain ⟨⟨m, q, ok2⟩, hg2⟩ : ∃ r, getNum L p = r := ⟨_, rfl⟩
      rw [hg2] at h
      split at h
      · rename_i hc
        simp only [Bool.and_eq_true] at hc
        obtain ⟨hc1, hc2⟩ := hc
        subst hc1
        obtain ⟨d0, d1, d2⟩ := getNum_back hg2
        injection h with hv h
        injection h with hn _
        dsimp only at hv hn
        subst hv hn
        have e : putV ⟨1, m, ByteArray.empty⟩ = putN 1 ++ putN m := by unfold putV; rw [if_pos rfl]
        subst hk
        rw [e, List.length_append]
        refine ⟨hc2, b0, by omega, ?_⟩
        rw [b2, d2]
        simp only [List.append_assoc]
      · injection h with _ h
        injection h with _ h
        cases h
    · rw [if_neg hk] at h
      unfold getValS at h
      obtain ⟨⟨s, q, ok2⟩, hg2⟩ : ∃ r, getText L p = r := ⟨_, rfl⟩
      rw [hg2] at h
      split at h
      · rename_i hc
        simp only [Bool.and_eq_true] at hc
        obtain ⟨hc1, hc2⟩ := hc
        subst hc1
        obtain ⟨d0, d1, d2⟩ := getText_back hg2
        injection h with hv h
        injection h with hn _
        dsimp only at hv hn
        subst hv hn
        have e : putV ⟨k, 0, s⟩ = putN k ++ (putN s.size ++ s.data.toList) := by unfold putV; rw [if_neg hk]
        rw [e, List.length_append, List.length_append, size_data]
        refine ⟨hc2, b0, by omega, ?_⟩
        rw [b2, d2]
        simp only [List.append_assoc]
      · injection h with _ h
        injection h with _ h
        cases h
end Go.Proofs.YtcbbefibebkfgaaGreatDoor
