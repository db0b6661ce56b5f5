import Derived.Test.YtcbbefibebkfgaaGreatDoorPkPlainRead
import Derived.Test.YtcbbefibebkfgaaGreatDoorPkGetFact
import Derived.Test.YtcbbefibebkfgaaGreatDoorPkPutFact
import Derived.Test.YtcbbefibebkfgaaGreatDoorPkPlainSplit
/- Facts put as bytes come back; what is read as a fact is what was put. Names no program. No condition. -/
namespace Go.Proofs.YtcbbefibebkfgaaGreatDoor
open Go.Lib Go.RowKit
theorem getVal_put2 {L bs rest : List UInt8} {k n : Int} {s : ByteArray} (h : valOk ⟨k, n, s⟩ = true) (hL : L = bs ++ (putV ⟨k, n, s⟩ ++ rest)) : getVal L bs.length = (⟨k, n, s⟩, ((bs.length + (putV ⟨k, n, s⟩).length : Nat) : Int), true) := by
  rcases val_parts h with ⟨rfl, h0, h1, rfl⟩ | ⟨rfl, rfl, hs⟩
  · have e : putV ⟨1, n, ⟨#[]⟩⟩ = putN 1 ++ putN n := by unfold putV; rw [if_pos rfl]
    have hk := getNum_put bs (putN n ++ rest) 1
    have hn := getNum_put (bs ++ putN 1) rest n
    have c1 : clampN 1 = 1 := by decide
    have cn : clampN n = n := by unfold clampN; omega
    rw [show bs ++ putN 1 ++ (putN n ++ rest) = L by rw [hL, e]; simp only [List.append_assoc], c1] at hk
    rw [show bs ++ putN 1 ++ putN n ++ rest = L by rw [hL, e]; simp only [List.append_assoc], List.length_append, cn] at hn
    unfold getVal
    rw [hk]
    simp only [if_true]
    unfold getValN
    rw [hn]
    have hv : valOk ⟨1, n, ByteArray.empty⟩ = true := h
    simp only [hv, Bool.and_self, if_true]
    rw [e, List.length_append, Nat.add_assoc]
    rfl
  · have e : putV ⟨2, 0, s⟩ = putN 2 ++ (putN s.size ++ s.data.toList) := by unfold putV; rw [if_neg (fun h => absurd h (show ¬ ((2:Int) = 1) by decide))]
    have hk := getNum_put bs (putN s.size ++ (s.data.toList ++ rest)) 2
    have hn := getText_put (bs ++ putN 2) s rest (by omega)
    have c1 : clampN 2 = 2 := by decide
    rw [show bs ++ putN 2 ++ (putN s.size ++ (s.data.toList ++ rest)) = L by rw [hL, e]; simp only [List.append_assoc], c1] at hk
    rw [show bs ++ putN 2 ++ putN s.size ++ s.data.toList ++ rest = L by rw [hL, e]; simp only [List.append_assoc], List.length_append] at hn
    unfold getVal
    rw [hk]
    simp only [if_true]
    rw [if_neg (show ¬ ((2:Int) = 1) by decide)]
    unfold getValS
    rw [hn]
    simp only [h, Bool.and_self, if_true]
    rw [e, List.length_append, List.length_append, size_data]
    simp only [Nat.add_assoc]
theorem getVs_put {L : List UInt8} : ∀ {vs : List Vl} {bs rest : List UInt8} {acc : List Vl}, (∀ x ∈ vs, valOk x = true) → L = bs ++ (putVs vs ++ rest) → getVs L vs.length bs.length acc = some (acc ++ vs, ((bs.length + (putVs vs).length : Nat) : Int))
  | [], bs, rest, acc, _, _ => by simp [getVs, putVs]
  | ⟨k, n, s⟩ :: vs, bs, rest, acc, h, hL => by
    have e : putVs (⟨k, n, s⟩ :: vs) = putV ⟨k, n, s⟩ ++ putVs vs := by simp [putVs]
    rw [e] at hL ⊢
    have hg := getVal_put2 (L := L) (bs := bs) (h ⟨k, n, s⟩ (by simp)) (rest := putVs vs ++ rest) (by rw [hL, List.append_assoc])
    have ih := getVs_put (L := L) (vs := vs) (bs := bs ++ putV ⟨k, n, s⟩) (rest := rest) (acc := acc ++ [⟨k, n, s⟩]) (fun x hx => h x (List.mem_cons_of_mem _ hx)) (by rw [hL]; simp only [List.append_assoc])
    rw [List.length_cons, getVs, hg]
    simp only [if_true]
    rw [List.length_append] at ih
    rw [ih, List.append_assoc, List.singleton_append, List.length_append, Nat.add_assoc]
theorem getFact_put (bs : List UInt8) {f : Ft} (h : factOk f = true) : getFact (bs ++ putF f) bs.length = (f, ((bs ++ putF f).length : Int), true) := by
  obtain ⟨h1, h2, h3⟩ := factOk_parts' h
  obtain ⟨L, hL⟩ : ∃ L, bs ++ putF f = L := ⟨_, rfl⟩
  have eL : L = bs ++ putN f.kd.size ++ f.kd.data.toList ++ (putN f.fs.length ++ putVs f.fs) := by rw [← hL]; unfold putF; simp only [List.append_assoc]
  have ht := getText_put bs f.kd (putN f.fs.length ++ putVs f.fs) (by omega)
  have hn := getNum_put (bs ++ putN f.kd.size ++ f.kd.data.toList) (putVs f.fs) f.fs.length
  have cn : clampN (f.fs.length : Int) = f.fs.length := by unfold clampN; omega
  have hv := getVs_put (L := L) (vs := f.fs) (bs := bs ++ putN f.kd.size ++ f.kd.data.toList ++ putN f.fs.length) (rest := []) (acc := []) h3 (by rw [eL]; simp only [List.append_assoc, List.append_nil])
  rw [← eL] at ht
  rw [show bs ++ putN f.kd.size ++ f.kd.data.toList ++ putN f.fs.length ++ putVs f.fs = L by rw [eL]; simp only [List.append_assoc], cn] at hn
  simp only [List.length_append, size_data] at hn hv
  rw [List.nil_append] at hv
  have ha : getAll L ((bs.length + (putN f.kd.size).length + f.kd.size : Nat) : Int) = some (f.fs, (L.length : Int)) := by
    have hb : inB (f.fs.length : Int) 0 5 = true := by unfold inB; simp; omega
    unfold getAll
    rw [hn]
    simp only [hb, Bool.and_self, if_true, Int.toNat_natCast]
    rw [hv, eL]
    simp only [List.length_append, size_data, Nat.add_assoc]
  rw [hL]
  unfold getFact
  rw [ht]
  simp only [if_true]
  rw [ha]
  simp only [h, if_true]
where
  factOk_parts' {f : Ft} (h : factOk f = true) : f.kd.size ≤ 12 ∧ f.fs.length ≤ 5 ∧ ∀ x ∈ f.fs, valOk x = true := by
    unfold factOk at h
    simp only [Bool.and_eq_true, decide_eq_true_eq, List.all_eq_true] at h
    refine ⟨?_, h.2.2, h.2.1⟩
    have := h.1
    unfold nameOk word at this
    simp only [Bool.and_eq_true, decide_eq_true_eq] at this
    omega
theorem getVs_back {L : List UInt8} : ∀ {m : Nat} {p q : Int} {acc vs : List Vl}, 0 ≤ p → getVs L m p acc = some (vs, q) → ∃ ws, vs = acc ++ ws ∧ ws.length = m ∧ q = p + (putVs ws).length ∧ L.drop p.toNat = putVs ws ++ L.drop q.toNat
  | 0, p, q, acc, vs, h0, h => by
    rw [getVs] at h
    injection h with h
    injection h with h1 h2
    subst h1 h2
    exact ⟨[], by simp, rfl, by simp [putVs], by simp [putVs]⟩
  | m + 1, p, q, acc, vs, h0, h => by
    rw [getVs] at h
    obtain ⟨⟨v, p2, ok⟩, hg⟩ : ∃ r, getVal L p = r := ⟨_, rfl⟩
    rw [hg] at h
    cases ok with
    | false => simp at h
    | true =>
      simp only [if_true] at h
      obtain ⟨_, _, b2, b3⟩ := getVal_back hg
      obtain ⟨ws, rfl, d1, d2, d3⟩ := getVs_back (by omega) h
      have e : putVs (v :: ws) = putV v ++ putVs ws := by simp [putVs]
      refine ⟨v :: ws, by simp, by rw [List.length_cons, d1], ?_, ?_⟩
      · rw [e, List.length_append]; omega
      · rw [e, b3, d3, List.append_assoc]
theorem getFact_back {L : List UInt8} {i nx : Int} {f : Ft} (h : getFact L i = (f, nx, true)) : factOk f = true ∧ 0 ≤ i ∧ nx = i + (putF f).length ∧ L.drop i.toNat = putF f ++ L.drop nx.toNat := by
  unfold getFact at h
  obtain ⟨⟨kd, p2, ok⟩, hg⟩ : ∃ r, getText L i = r := ⟨_, rfl⟩
  rw [hg] at h
  cases ok with
  | false =>
    simp only [Bool.false_eq_true, if_false, noF] at h
    injection h with _ h
    injection h with _ h
    cases h
  | true =>
    simp only [if_true] at h
    cases ha : getAll L p2 with
    | none =>
      rw [ha] at h
      simp only [noF] at h
      injection h with _ h
      injection h with _ h
      cases h
    | some r =>
      obtain ⟨vs, q⟩ := r
      rw [ha] at h
      simp only at h
      split at h
      · rename_i hf
        injection h with h1 h
        injection h with h2 _
        subst h1 h2
        obtain ⟨t0, t1, t2⟩ := getText_back hg
        unfold getAll at ha
        obtain ⟨⟨N, p3, ok3⟩, hn⟩ : ∃ r, getNum L p2 = r := ⟨_, rfl⟩
        rw [hn] at ha
        split at ha
        · rename_i hc
          simp only [Bool.and_eq_true] at hc
          obtain ⟨rfl, hc⟩ := hc
          unfold inB at hc
          rw [Bool.and_eq_true, decide_eq_true_eq, decide_eq_true_eq] at hc
          obtain ⟨n0, n1, n2⟩ := getNum_back hn
          obtain ⟨ws, e, d1, d2, d3⟩ := getVs_back (p := p3) (by omega) ha
          rw [List.nil_append] at e
          subst e
          have hN : (vs.length : Int) = N := by dsimp only at d1 hc; omega
          have hp : putF ⟨kd, vs⟩ = (putN kd.size ++ kd.data.toList) ++ (putN N ++ putVs vs) := by
            unfold putF
            simp only [hN, List.append_assoc]
          refine ⟨hf, t0, ?_, ?_⟩
          · rw [hp]
            simp only [List.length_append, size_data]
            omega
          · skip
            rw [hp, t2, n2, d3]
            simp only [List.append_assoc]
        · cases ha
      · simp only [noF] at h
        injection h with _ h
        injection h with _ h
        cases h
theorem split_join {b : UInt8} : ∀ (x : List UInt8) (Ls : List (List UInt8)), (∀ l ∈ x :: Ls, ¬ b ∈ l) → splitL b (join (x :: Ls) [b]) = x :: Ls
  | x, [], h => by rw [join_one, splitL_none (h x (by simp))]
  | x, y :: Ls, h => by
    have ih := split_join y Ls (fun l hl => h l (List.mem_cons_of_mem _ hl))
    rw [join_cons] at ih
    have e2 : joinTail [b] (y :: Ls) = b :: (y ++ joinTail [b] Ls) := by simp [joinTail]
    rw [join_cons, e2, splitL_first (h x (by simp)), ih]
theorem parseVs_text : ∀ (vs acc : List Vl), (∀ x ∈ vs, valOk x = true) → parseVs (vs.map rawText) acc = some (acc ++ vs)
  | [], acc, _ => by simp [parseVs]
  | ⟨k, n, s⟩ :: vs, acc, h => by
    have h0 := h _ (List.mem_cons_self ..)
    have hp := parse_text h0
    unfold valText at hp
    rw [if_pos h0] at hp
    rw [List.map_cons, parseVs, hp]
    simp only [if_true]
    rw [parseVs_text vs _ fun x hx => h x (List.mem_cons_of_mem _ hx), List.append_assoc, List.singleton_append]
theorem raw_ne (v : Vl) : (rawText v).data.toList ≠ [] := by
  unfold rawText
  split
  · unfold numT itoa
    obtain ⟨b, r, e, _⟩ := digits_cons v.n.natAbs
    split
    · simp
    · obtain ⟨b, r, e, _⟩ := digits_cons v.n.toNat
      show decDigits v.n.toNat ≠ []
      rw [e]
      simp
  · rw [quote_toList]
    simp
theorem parseF_text {f : Ft} (h : factOk f = true) : parseF (factText f) = (f, true) := by
  obtain ⟨hk, hl, hv⟩ := factOk_parts h
  obtain ⟨kd, vs⟩ := f
  dsimp only at hk hl hv
  have hn : nameOk kd = true := by
    unfold factOk at h
    simp only [Bool.and_eq_true] at h
    exact h.1
  have hw : ∀ b ∈ kd.data.toList, lett b = true := by
    unfold nameOk at hn
    rw [Bool.and_eq_true] at hn
    exact word_byte hn.2
  have h40 : ¬ (40 : UInt8) ∈ kd.data.toList := fun hm => (lett_ne (hw _ hm)).1 rfl
  obtain ⟨J, hJ⟩ : ∃ J, (joinB ⟨#[44]⟩ (vs.map rawText)).data.toList = J := ⟨_, rfl⟩
  have hL : (factText ⟨kd, vs⟩).data.toList = kd.data.toList ++ 40 :: (J ++ [41]) := by
    unfold factText
    rw [if_pos h]
    simp only [ByteArray.data_append, Array.toList_append, hJ, List.append_assoc, List.cons_append, List.nil_append]
  rw [parseF_open hL h40, if_pos (by simp), List.dropLast_concat, mkB_self]
  have hvals : valsOf J = some vs := by
    have hJ2 : J = join ((vs.map rawText).map (·.data.toList)) [44] := hJ.symm
    unfold valsOf
    cases vs with
    | nil => rw [if_pos (by rw [hJ2]; rfl)]
    | cons x r =>
      rw [List.map_cons, List.map_cons] at hJ2
      have hne : J ≠ [] := by
        rw [hJ2, join_cons]
        intro e
        exact raw_ne x (List.append_eq_nil_iff.1 e).1
      rw [if_neg hne, hJ2, split_join _ _ (fun l hm => by
        have hm2 : l ∈ ((x :: r).map rawText).map fun y : ByteArray => y.data.toList := hm
        obtain ⟨y, hy, rfl⟩ := List.mem_map.1 hm2
        obtain ⟨z, hz, rfl⟩ := List.mem_map.1 hy
        exact fun h44 => (raw_byte (hv z hz) 44 h44).2.2 rfl)]
      show parseVs ((((x :: r).map rawText).map fun y : ByteArray => y.data.toList).map mkB) [] = _
      rw [List.map_map, show mkB ∘ (fun y : ByteArray => y.data.toList) = id from funext fun l => rfl, List.map_id]
      exact parseVs_text _ _ hv
  rw [hvals]
  unfold closeF
  simp only [h, if_true]
end Go.Proofs.YtcbbefibebkfgaaGreatDoor
