import Derived.Test.YtcbbefibebkfgaaGreatDoorDrawV
import Derived.Test.YtcbbefibebkfgaaGreatDoorGetVal
import Derived.Test.YtcbbefibebkfgaaGreatDoorPutVal
import Derived.Test.YtcbbefibebkfgaaGreatDoorPlainNum
import Derived.Test.YtcbbefibebkfgaaGreatDoorPkParseVal
/- A value that is drawn with bytes; plain laws: a right value comes back of its bytes and of its text. Conditions: lengths. -/
namespace Go.Proofs.YtcbbefibebkfgaaGreatDoor
open Go.RowKit
set_option maxRecDepth 100000
set_option maxHeartbeats 4000000
theorem OwnB.low_ {w : World} {base : Nat} {e : TypeId} {v : Value} {bs : List UInt8} (h : OwnB w base e v bs) {p : Addr} (hp : p.block < base) (u : Value) : OwnB (w.setCell p u) base e v bs := by
  refine World.ownsRow.kept h (row := some p.block) ⟨rfl, rfl, rfl, by simp, fun k _ hk => heap_setCell_other w p k u (fun e => hk (by rw [e]))⟩ ?_
  cases hv : v.ownBlock with
  | none => exact .inl rfl
  | some j =>
    refine .inr fun e => ?_
    have := own_lt h j hv
    injection e with e
    omega
theorem rawText_len2 {v : Vl} (h : valOk v = true) : (rawText v).size ≤ 30 := by
  obtain ⟨k, n, s⟩ := v
  unfold rawText
  split
  · rename_i hk
    have hn := valOk_num h hk
    have hl := Lib.itoa_length_le n (by omega) (by omega)
    show ((Lib.itoa n).toArray).size ≤ 30
    rw [List.size_toArray]
    omega
  · have hl := valOk_len h
    show ((⟨#[39]⟩ ++ s) ++ ⟨#[39]⟩ : ByteArray).size ≤ 30
    rw [ByteArray.size_append, ByteArray.size_append]
    have h1 : (⟨#[39]⟩ : ByteArray).size = 1 := rfl
    omega
theorem val_parts {k n : Int} {s : ByteArray} (h : valOk ⟨k, n, s⟩ = true) : (k = 1 ∧ -1000000000 ≤ n ∧ n ≤ 1000000000 ∧ s = ⟨#[]⟩) ∨ (k = 2 ∧ n = 0 ∧ s.size ≤ 20) := by
  have hl := valOk_len h
  have hn := valOk_num h
  unfold valOk at h
  simp only at h
  by_cases h1 : k = 1
  · left
    rw [if_pos h1] at h
    simp only [Bool.and_eq_true, decide_eq_true_eq] at h
    refine ⟨h1, (hn h1).1, (hn h1).2, ?_⟩
    apply ByteArray.ext
    exact Array.eq_empty_of_size_eq_zero h.2
  · right
    rw [if_neg h1] at h
    by_cases h2 : k = 2
    · rw [if_pos h2] at h
      simp only [Bool.and_eq_true, decide_eq_true_eq] at h
      exact ⟨h2, h.1, hl⟩
    · rw [if_neg h2] at h; cases h
theorem getVal_put (bs : List UInt8) {k n : Int} {s : ByteArray} (h : valOk ⟨k, n, s⟩ = true) : getVal (bs ++ putV ⟨k, n, s⟩) bs.length = (⟨k, n, s⟩, ((bs ++ putV ⟨k, n, s⟩).length : Int), true) := by
  rcases val_parts h with ⟨rfl, h0, h1, rfl⟩ | ⟨rfl, rfl, hs⟩
  · have e : putV ⟨1, n, ⟨#[]⟩⟩ = putN 1 ++ putN n := by unfold putV; rw [if_pos rfl]
    have hk := getNum_put bs (putN n) 1
    have hn := getNum_put (bs ++ putN 1) [] n
    have c1 : clampN 1 = 1 := by decide
    have cn : clampN n = n := by unfold clampN; omega
    rw [List.append_assoc, ← e, c1] at hk
    rw [List.append_nil, List.append_assoc, ← e, List.length_append, cn] at hn
    unfold getVal
    rw [hk]
    simp only [if_true]
    unfold getValN
    rw [hn]
    have hv : valOk ⟨1, n, ByteArray.empty⟩ = true := h
    simp only [hv, Bool.and_self, if_true]
    rw [e, List.length_append, List.length_append, Nat.add_assoc]
    rfl
  · have e : putV ⟨2, 0, s⟩ = putN 2 ++ (putN s.size ++ s.data.toList) := by unfold putV; rw [if_neg (fun h => absurd h (show ¬ ((2:Int) = 1) by decide))]
    have hk := getNum_put bs (putN s.size ++ s.data.toList) 2
    have hn := getText_put (bs ++ putN 2) s [] (by omega)
    have c1 : clampN 2 = 2 := by decide
    rw [List.append_assoc, ← e, c1] at hk
    rw [List.append_nil, List.append_assoc, List.append_assoc, ← e, List.length_append] at hn
    unfold getVal
    rw [hk]
    simp only [if_true]
    rw [if_neg (by decide)]
    unfold getValS
    rw [hn]
    simp only [h, Bool.and_self, if_true]
    rw [e, List.length_append, List.length_append, List.length_append, size_data]
    simp only [Nat.add_assoc]
theorem parse_text {k n : Int} {s : ByteArray} (h : valOk ⟨k, n, s⟩ = true) : parseV (valText ⟨k, n, s⟩) = (⟨k, n, s⟩, true) := by
  rcases val_parts h with ⟨rfl, h0, h1, rfl⟩ | ⟨rfl, rfl, hs⟩
  · obtain ⟨t, ht⟩ : ∃ t, valText ⟨1, n, ⟨#[]⟩⟩ = t := ⟨_, rfl⟩
    have hL := (text_num h).1 ht
    have hnum : numOf t.data.toList = n ∧ t.data.toList.head? ≠ some 39 := by
      rw [hL]
      unfold Lib.itoa
      split
      · refine ⟨?_, by simp⟩
        rw [num_neg (digits_len10 9 _ (by omega))]
        omega
      · obtain ⟨b, r, e, hb, _⟩ := digits_cons n.toNat
        refine ⟨?_, ?_⟩
        · rw [num_digits (digits_len10 9 _ (by omega))]
          omega
        · rw [e, List.head?_cons]
          intro e2
          injection e2 with e2
          subst e2
          exact absurd hb (by decide)
    rw [ht]
    unfold parseV
    rw [cand_num (fun hh => hnum.2 hh.2), hnum.1, if_pos ⟨h, ht⟩]
  · have ht : valText ⟨2, 0, s⟩ = quoteT s := by
      unfold valText rawText
      rw [if_pos h]
      simp only
      rw [if_neg (by decide)]
    have hq := quote_toList s
    have hsz : (quoteT s).size = s.size + 2 := by
      rw [← size_data, hq]
      simp
    have hmid : midB (quoteT s) = s := by
      apply ByteArray.ext
      apply Array.ext'
      unfold midB
      have e : ((quoteT s).extract 1 ((quoteT s).size - 1)).data.toList = (quoteT s).data.toList.tail.take ((quoteT s).size - 1 - 1) := by
        simp [ByteArray.data_extract]
      rw [e, hq, hsz, List.tail_cons, show s.size + 2 - 1 - 1 = s.data.toList.length by rw [size_data]; omega]
      simp
    rw [ht, parse_Q (quoteT s) (by omega) (by rw [hq]; rfl) (by rw [hq, ← List.cons_append, List.getLast?_append]; rfl), hmid, if_pos h]
end Go.Proofs.YtcbbefibebkfgaaGreatDoor
