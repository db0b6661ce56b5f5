import Derived.Test.YtcbbefibebkfgaaGreatDoorPkPlainParse2
import Derived.Test.YtcbbefibebkfgaaGreatDoorPkFactText
import Derived.Lib.SplitLaws
import Derived.Lib.CutLaws
import Derived.Lib.Strings
/- Plain laws: a text cut at a byte; a fact read of its text. Names no program. No condition. -/
namespace Go.Proofs.YtcbbefibebkfgaaGreatDoor
open Go.Lib Go.RowKit
def prepL (p : List UInt8) : List (List UInt8) → List (List UInt8)
  | [] => [p]
  | q :: r => (p ++ q) :: r
def splitL (b : UInt8) : List UInt8 → List (List UInt8)
  | [] => [[]]
  | c :: t => if c = b then [] :: splitL b t else prepL [c] (splitL b t)
theorem splitL_ne (b : UInt8) (L : List UInt8) : ∃ q r, splitL b L = q :: r := by
  cases L with
  | nil => exact ⟨_, _, rfl⟩
  | cons c t =>
    rw [splitL]
    split
    · exact ⟨_, _, rfl⟩
    · cases splitL b t with
      | nil => exact ⟨_, _, rfl⟩
      | cons q r => exact ⟨_, _, rfl⟩
theorem prep_nil {b : UInt8} (L : List UInt8) : prepL [] (splitL b L) = splitL b L := by
  obtain ⟨q, r, e⟩ := splitL_ne b L
  rw [e]; rfl
theorem prep_app {b : UInt8} (p q L : List UInt8) : prepL p (prepL q (splitL b L)) = prepL (p ++ q) (splitL b L) := by
  obtain ⟨x, r, e⟩ := splitL_ne b L
  rw [e]; simp [prepL]
theorem splitL_app {b : UInt8} (t : List UInt8) : ∀ p : List UInt8, ¬ b ∈ p → splitL b (p ++ t) = prepL p (splitL b t)
  | [], _ => (prep_nil t).symm
  | c :: p, h => by
    rw [List.mem_cons, not_or] at h
    rw [List.cons_append, splitL, if_neg (fun e => h.1 e.symm), splitL_app t p h.2, prep_app]
    rfl
theorem splitL_none {b : UInt8} {L : List UInt8} (h : ¬ b ∈ L) : splitL b L = [L] := by
  have := splitL_app [] L h
  rw [List.append_nil] at this
  rw [this]
  simp [splitL, prepL]
theorem splitL_first {b : UInt8} {p t : List UInt8} (h : ¬ b ∈ p) : splitL b (p ++ b :: t) = p :: splitL b t := by
  rw [splitL_app _ p h, splitL, if_pos rfl]
  simp [prepL]
theorem index_one (c : UInt8) : ∀ L : List UInt8, (index L [c] = -1 ∧ ¬ c ∈ L) ∨ ∃ p t, L = p ++ c :: t ∧ (¬ c ∈ p) ∧ index L [c] = (p.length : Int)
  | [] => Or.inl ⟨by simp [index], by simp⟩
  | b :: L => by
    by_cases h : b = c
    · subst h
      exact Or.inr ⟨[], L, rfl, by simp, by rw [index]; simp [List.isPrefixOf]⟩
    · have hp : ([c] : List UInt8).isPrefixOf (b :: L) = false := by simp [List.isPrefixOf, Ne.symm h]
      rcases index_one c L with ⟨h1, h2⟩ | ⟨p, t, rfl, h2, h3⟩
      · refine Or.inl ⟨by rw [index, hp, h1]; simp, ?_⟩
        rw [List.mem_cons, not_or]
        exact ⟨Ne.symm h, h2⟩
      · refine Or.inr ⟨b :: p, t, rfl, ?_, ?_⟩
        · rw [List.mem_cons, not_or]
          exact ⟨Ne.symm h, h2⟩
        · have hne : ((p.length : Int) == -1) = false := by rw [beq_eq_false_iff_ne]; omega
          rw [index, hp, h3, hne]
          simp
theorem cut_none {c : UInt8} {L : List UInt8} (h : ¬ c ∈ L) : cut L [c] = (L, [], false) := by
  rcases index_one c L with ⟨h1, _⟩ | ⟨p, t, rfl, _, _⟩
  · unfold cut
    rw [h1, if_neg (by omega)]
  · exact absurd (by simp) h
theorem index_at {c : UInt8} : ∀ {p t : List UInt8}, ¬ c ∈ p → index (p ++ c :: t) [c] = (p.length : Int)
  | [], t, _ => by rw [List.nil_append, index]; simp [List.isPrefixOf]
  | b :: p, t, h => by
    rw [List.mem_cons, not_or] at h
    have hp : ([c] : List UInt8).isPrefixOf (b :: (p ++ c :: t)) = false := by simp [List.isPrefixOf, h.1]
    have hne : ((p.length : Int) == -1) = false := by rw [beq_eq_false_iff_ne]; omega
    rw [List.cons_append, index, hp, index_at h.2, hne]
    simp
theorem cut_at {c : UInt8} {p t : List UInt8} (h : ¬ c ∈ p) : cut (p ++ c :: t) [c] = (p, t, true) := by
  unfold cut
  rw [index_at h, if_pos (by omega)]
  simp
theorem splitB_one (c : UInt8) : ∀ (k : Nat) (s : ByteArray), countB s ⟨#[c]⟩ = k → splitB ⟨#[c]⟩ 0 k s = (splitL c s.data.toList).map fun l => ⟨l.toArray⟩
  | k, s, hk => by
    rcases index_one c s.data.toList with ⟨h1, h2⟩ | ⟨p, t, hL, h2, h3⟩
    · rw [splitB_miss ⟨#[c]⟩ 0 k s h1, splitL_none h2]
      simp
    · have hsz : (⟨#[c]⟩ : ByteArray).size = 1 := rfl
      have hc := countB_hit s ⟨#[c]⟩ p.length (by rw [hsz]; exact Nat.le_refl _) h3
      have hz := size_eq s
      rw [hL] at hz
      have e1 : (s.extract (p.length + 1) s.size).data.toList = t := by
        rw [extract_data, hL, List.take_of_length_le]
        · rw [show p.length + 1 = (p ++ [c]).length by simp, show p ++ c :: t = (p ++ [c]) ++ t by simp, List.drop_left]
        · rw [List.length_drop]
          omega
      have e0 : s.extract 0 (p.length + 0) = ⟨p.toArray⟩ := by
        rw [extract_eq, hL]
        simp
      rw [hsz] at hc
      cases k with
      | zero => omega
      | succ k =>
        rw [splitB_hit ⟨#[c]⟩ 0 k s p.length h3, e0, hsz, splitB_one c k _ (by omega), e1, hL, splitL_first h2]
        rfl
theorem suffix_one (c : UInt8) (m : List UInt8) : hasSuffix (m ++ [c]) [c] = true ∧ trimSuffix (m ++ [c]) [c] = m := by
  have h : hasSuffix (m ++ [c]) [c] = true := by unfold hasSuffix; rw [List.isSuffixOf_iff_suffix]; exact List.suffix_append _ _
  exact ⟨h, by unfold trimSuffix; rw [if_pos h]; simp⟩
theorem suffix_none {c : UInt8} {t : List UInt8} (h : t.getLast? ≠ some c) : hasSuffix t [c] = false := by
  rw [Bool.eq_false_iff]
  intro hs
  unfold hasSuffix at hs
  rw [List.isSuffixOf_iff_suffix] at hs
  obtain ⟨m, rfl⟩ := hs
  exact h (by simp)
theorem last_some {c : UInt8} {t : List UInt8} (h : t.getLast? = some c) : t = t.dropLast ++ [c] := by
  rcases List.eq_nil_or_concat t with rfl | ⟨m, d, rfl⟩
  · simp at h
  · rw [List.concat_eq_append] at *
    simp at h ⊢
    exact h
def mkB (l : List UInt8) : ByteArray := ⟨l.toArray⟩
def parseVs : List ByteArray → List Vl → Option (List Vl)
  | [], acc => some acc
  | p :: r, acc => if (parseV p).2 then parseVs r (acc ++ [(parseV p).1]) else none
def noneF : Ft × Bool := (⟨⟨#[]⟩, []⟩, false)
def valsOf (m : List UInt8) : Option (List Vl) := if m = [] then some [] else parseVs ((splitL 44 m).map mkB) []
def closeF (kd : ByteArray) (vals : Option (List Vl)) : Ft × Bool :=
  match vals with
  | some vs => if factOk ⟨kd, vs⟩ then (⟨kd, vs⟩, true) else noneF
  | none => noneF
def parseF (s : ByteArray) : Ft × Bool :=
  match splitL 40 s.data.toList with
  | [kd, t] => if t.getLast? = some 41 then closeF (mkB kd) (valsOf t.dropLast) else noneF
  | _ => noneF
theorem parseV_true {p : ByteArray} (h : (parseV p).2 = true) : parseV p = (candV p, true) ∧ valOk (candV p) = true ∧ rawText (candV p) = p := by
  unfold parseV at h ⊢
  split
  · rename_i hc
    refine ⟨rfl, hc.1, ?_⟩
    have := hc.2
    unfold valText at this
    rwa [if_pos hc.1] at this
  · rename_i hc
    rw [if_neg hc] at h
    cases h
theorem digit_byte : ∀ (m : Nat), ∀ b ∈ decDigits m, 48 ≤ b.toNat ∧ b.toNat ≤ 57 := by
  intro m
  induction m using Nat.strongRecOn with
  | _ m ih =>
  intro b hb
  have hd : ∀ d : Nat, d < 10 → 48 ≤ (UInt8.ofNat (48 + d)).toNat ∧ (UInt8.ofNat (48 + d)).toNat ≤ 57 := by
    intro d hd
    rw [UInt8.toNat_ofNat']
    omega
  by_cases h : m < 10
  · rw [dig_small h, List.mem_singleton] at hb
    subst hb
    exact hd m h
  · rw [dig_big h, List.mem_append, List.mem_singleton] at hb
    rcases hb with hb | rfl
    · exact ih (m / 10) (by omega) b hb
    · exact hd _ (by omega)
theorem word_byte {s : ByteArray} {m : Int} (h : word s m = true) : ∀ b ∈ s.data.toList, lett b = true := by
  unfold word at h
  rw [Bool.and_eq_true] at h
  exact List.all_eq_true.1 h.2
theorem lett_ne {b : UInt8} (h : lett b = true) : b ≠ 40 ∧ b ≠ 41 ∧ b ≠ 44 ∧ b ≠ 39 := by
  refine ⟨?_, ?_, ?_, ?_⟩ <;> rintro rfl <;> revert h <;> decide
theorem raw_byte {v : Vl} (h : valOk v = true) : ∀ b ∈ (rawText v).data.toList, b ≠ 40 ∧ b ≠ 41 ∧ b ≠ 44 := by
  intro b hb
  have hn : ∀ {k : Nat}, b ∈ decDigits k → b ≠ 40 ∧ b ≠ 41 ∧ b ≠ 44 := by
    intro k hk
    have := digit_byte k b hk
    refine ⟨?_, ?_, ?_⟩ <;> rintro rfl <;> revert this <;> decide
  unfold rawText at hb
  split at hb
  · unfold numT itoa at hb
    split at hb
    · rcases List.mem_cons.1 hb with rfl | hb
      · decide
      · exact hn hb
    · exact hn hb
  · rename_i hk
    rw [quote_toList, List.mem_cons, List.mem_append, List.mem_singleton] at hb
    have hw : word v.s 20 = true := by
      unfold valOk at h
      rw [if_neg hk] at h
      split at h
      · rw [Bool.and_eq_true] at h; exact h.2
      · cases h
    rcases hb with rfl | hb | rfl
    · decide
    · have := lett_ne (word_byte hw b hb)
      exact ⟨this.1, this.2.1, this.2.2.1⟩
    · decide
theorem parseV_byte {p : ByteArray} (h : (parseV p).2 = true) : ∀ b ∈ p.data.toList, b ≠ 40 ∧ b ≠ 41 ∧ b ≠ 44 := by
  obtain ⟨_, h2, h3⟩ := parseV_true h
  have := raw_byte h2
  rwa [h3] at this
theorem splitL_mem {b x : UInt8} (hx : x ≠ b) : ∀ {L : List UInt8}, x ∈ L → ∃ q ∈ splitL b L, x ∈ q
  | [], h => by cases h
  | c :: t, h => by
    rw [splitL]
    rcases List.mem_cons.1 h with rfl | h
    · rw [if_neg hx]
      obtain ⟨q, r, e⟩ := splitL_ne b t
      rw [e]
      exact ⟨x :: q, by simp [prepL], by simp⟩
    · obtain ⟨q, hq, hxq⟩ := splitL_mem hx h
      split
      · exact ⟨q, List.mem_cons_of_mem _ hq, hxq⟩
      · obtain ⟨q2, r, e⟩ := splitL_ne b t
        rw [e] at hq ⊢
        rcases List.mem_cons.1 hq with rfl | hq
        · exact ⟨c :: q, by simp [prepL], List.mem_cons_of_mem _ hxq⟩
        · exact ⟨q, by simp [prepL, hq], hxq⟩
theorem parseVs_none : ∀ {ps : List ByteArray} {acc : List Vl}, (∃ p ∈ ps, ¬ (parseV p).2 = true) → parseVs ps acc = none
  | [], _, h => by obtain ⟨p, hp, _⟩ := h; cases hp
  | p :: r, acc, h => by
    obtain ⟨q, hq, hn⟩ := h
    rw [parseVs]
    rcases List.mem_cons.1 hq with rfl | hq
    · rw [if_neg hn]
    · split
      · exact parseVs_none ⟨q, hq, hn⟩
      · rfl
theorem parseVs_some : ∀ {ps : List ByteArray} {acc vs : List Vl}, parseVs ps acc = some vs → ∃ ws, vs = acc ++ ws ∧ ws.map rawText = ps ∧ ∀ x ∈ ws, valOk x = true
  | [], acc, vs, h => by
    rw [parseVs] at h
    injection h with h
    exact ⟨[], by simp [h], rfl, fun x hx => by cases hx⟩
  | p :: r, acc, vs, h => by
    rw [parseVs] at h
    split at h
    · rename_i hp
      obtain ⟨e, hv, hr⟩ := parseV_true hp
      obtain ⟨ws, rfl, h2, h3⟩ := parseVs_some h
      refine ⟨candV p :: ws, by rw [e]; simp, by rw [List.map_cons, hr, h2], ?_⟩
      intro x hx
      rcases List.mem_cons.1 hx with rfl | hx
      · exact hv
      · exact h3 x hx
    · cases h
theorem vals_paren {m : List UInt8} (h : (40 : UInt8) ∈ m) : valsOf m = none := by
  unfold valsOf
  rw [if_neg (by rintro rfl; cases h)]
  obtain ⟨q, hq, hx⟩ := splitL_mem (b := 44) (by decide) h
  refine parseVs_none ⟨mkB q, List.mem_map.2 ⟨q, hq, rfl⟩, fun hp => ?_⟩
  exact (parseV_byte hp 40 (by simpa [mkB] using hx)).1 rfl
theorem join_split (b : UInt8) : ∀ (n : Nat) (L : List UInt8), L.length ≤ n → join (splitL b L) [b] = L
  | n, L, hn => by
    rcases index_one b L with ⟨_, h⟩ | ⟨p, t, rfl, h, _⟩
    · rw [splitL_none h, join_one]
    · rw [splitL_first h]
      rw [List.length_append, List.length_cons] at hn
      cases n with
      | zero => omega
      | succ n =>
        have ih := join_split b n t (by omega)
        obtain ⟨q, r, e⟩ := splitL_ne b t
        rw [e] at ih ⊢
        rw [join_cons] at ih ⊢
        have e2 : ∀ z : List (List UInt8), joinTail [b] (q :: z) = b :: (q ++ joinTail [b] z) := by intro z; simp [joinTail]
        rw [e2, ih]
theorem vals_text {m : List UInt8} {vs : List Vl} (h : valsOf m = some vs) : (joinB ⟨#[44]⟩ (vs.map rawText)).data.toList = m ∧ ∀ x ∈ vs, valOk x = true := by
  unfold valsOf at h
  split at h
  · rename_i hm
    injection h with h
    subst h hm
    exact ⟨rfl, fun x hx => by cases hx⟩
  · obtain ⟨ws, e, h2, h3⟩ := parseVs_some h
    rw [List.nil_append] at e
    subst e
    rw [h2]
    refine ⟨?_, h3⟩
    unfold joinB
    rw [List.map_map, show (fun x : ByteArray => x.data.toList) ∘ mkB = id from funext fun l => rfl, List.map_id]
    exact join_split 44 _ m (Nat.le_refl _)
theorem closeF_true {kd : ByteArray} {o : Option (List Vl)} {f : Ft} (h : closeF kd o = (f, true)) : factOk f = true ∧ ∃ vs, o = some vs ∧ f = ⟨kd, vs⟩ := by
  unfold closeF at h
  split at h
  · split at h
    · rename_i vs hf
      injection h with h _
      subst h
      exact ⟨hf, _, rfl, rfl⟩
    · unfold noneF at h
      injection h with _ h
      cases h
  · unfold noneF at h
    injection h with _ h
    cases h
theorem split_two {b : UInt8} {L p t : List UInt8} (h : splitL b L = [p, t]) : L = p ++ b :: t ∧ (¬ b ∈ p) ∧ ¬ b ∈ t := by
  rcases index_one b L with ⟨_, h1⟩ | ⟨p2, t2, rfl, h1, _⟩
  · rw [splitL_none h1] at h
    injection h with _ h
    cases h
  · rw [splitL_first h1] at h
    injection h with e1 e2
    rcases index_one b t2 with ⟨_, h2⟩ | ⟨p3, t3, rfl, h2, _⟩
    · rw [splitL_none h2] at e2
      injection e2 with e2
      subst e1 e2
      exact ⟨rfl, h1, h2⟩
    · rw [splitL_first h2] at e2
      injection e2 with _ e2
      obtain ⟨q, r, e⟩ := splitL_ne b t3
      rw [e] at e2
      cases e2
theorem parseF_true {s : ByteArray} {f : Ft} (h : parseF s = (f, true)) : factOk f = true ∧ factText f = s := by
  unfold parseF at h
  split at h
  · rename_i kd t he
    split at h
    · rename_i hl
      obtain ⟨hf, vs, hv, rfl⟩ := closeF_true h
      refine ⟨hf, ?_⟩
      obtain ⟨hL, h1, h2⟩ := split_two he
      have hj := (vals_text hv).1
      unfold factText
      rw [if_pos hf]
      apply ByteArray.ext
      apply Array.ext'
      have ht := last_some hl
      simp only [ByteArray.data_append, Array.toList_append, mkB] at *
      rw [hj, hL]
      simp only [List.append_assoc, List.cons_append, List.nil_append]
      rw [← ht]
    · unfold noneF at h
      injection h with _ h
      cases h
  · unfold noneF at h
    injection h with _ h
    cases h
theorem parseF_false {s : ByteArray} (h : (parseF s).2 = false) : parseF s = noneF := by
  have hc : ∀ kd o, (closeF kd o).2 = false → closeF kd o = noneF := by
    intro kd o h
    unfold closeF at h ⊢
    split at h
    · split at h
      · cases h
      · rename_i hf
        rw [if_neg hf]
    · rfl
  unfold parseF at h ⊢
  split at h
  · split at h
    · rename_i hl
      rw [if_pos hl]
      exact hc _ _ h
    · rename_i hl
      rw [if_neg hl]
  · rfl
theorem factText_size {f : Ft} (h : factOk f = true) : (factText f).size ≤ 200 := by
  obtain ⟨h1, h2, h3⟩ := factOk_parts h
  have hj := factText_sz h3 h2 f.fs.length
  rw [show (f.fs.map rawText).take f.fs.length = f.fs.map rawText from List.take_of_length_le (by simp)] at hj
  unfold factText
  rw [if_pos h]
  simp only [ByteArray.size_append]
  have e1 : (⟨#[40]⟩ : ByteArray).size = 1 := rfl
  have e2 : (⟨#[41]⟩ : ByteArray).size = 1 := rfl
  omega
theorem parseF_big {s : ByteArray} (h : 200 < s.size) : parseF s = noneF := by
  cases hb : (parseF s).2 with
  | false => exact parseF_false hb
  | true =>
    obtain ⟨hf, ht⟩ := parseF_true (s := s) (f := (parseF s).1) (by rw [← hb])
    have := factText_size hf
    rw [ht] at this
    omega
theorem parseF_nocut {s : ByteArray} (h : ¬ (40 : UInt8) ∈ s.data.toList) : parseF s = noneF := by
  unfold parseF
  rw [splitL_none h]
theorem parseF_open {s : ByteArray} {p t : List UInt8} (hL : s.data.toList = p ++ 40 :: t) (hp : ¬ (40 : UInt8) ∈ p) : parseF s = if t.getLast? = some 41 then closeF (mkB p) (valsOf t.dropLast) else noneF := by
  rcases index_one 40 t with ⟨_, h2⟩ | ⟨p2, t2, rfl, h2, _⟩
  · unfold parseF
    rw [hL, splitL_first hp, splitL_none h2]
  · have e1 : parseF s = noneF := by
      unfold parseF
      rw [hL, splitL_first hp, splitL_first h2]
      obtain ⟨q, r, e⟩ := splitL_ne 40 t2
      rw [e]
    rw [e1]
    split
    · rename_i hl
      have ht := last_some hl
      have hm : (40 : UInt8) ∈ (p2 ++ 40 :: t2).dropLast := by
        have h3 : (40 : UInt8) ∈ (p2 ++ 40 :: t2).dropLast ++ [41] := by rw [← ht]; simp
        rcases List.mem_append.1 h3 with h3 | h3
        · exact h3
        · exact absurd (List.mem_singleton.1 h3) (by decide)
      rw [vals_paren hm]
      rfl
    · rfl
/-- the rows of a cut as it goes: what is done, what lies between from and k, what is left -/
def spRem (q : UInt8) (s : ByteArray) (f k : Nat) : List ByteArray := (prepL (s.extract f k).data.toList (splitL q (s.data.toList.drop k))).map mkB
theorem mkB_self (s : ByteArray) : mkB s.data.toList = s := rfl
theorem drop_at (s : ByteArray) (k : Nat) (h : k < s.size) : s.data.toList.drop k = s[k] :: s.data.toList.drop (k + 1) := by
  rw [List.drop_eq_getElem_cons (by rw [size_data]; exact h)]
  rfl
theorem ext_succ (s : ByteArray) (f k : Nat) (hf : f ≤ k) (h : k < s.size) : (s.extract f (k + 1)).data.toList = (s.extract f k).data.toList ++ [s[k]] := by
  rw [extract_data, extract_data, show k + 1 - f = (k - f) + 1 by omega, List.take_succ_eq_append_getElem (by rw [List.length_drop, size_data]; omega)]
  congr 2
  rw [List.getElem_drop]
  have : f + (k - f) = k := by omega
  simp only [this]
  rfl
theorem spRem_hit {q : UInt8} {s : ByteArray} {f k : Nat} (h : k < s.size) (hq : s[k] = q) : spRem q s f k = s.extract f k :: spRem q s (k + 1) (k + 1) := by
  unfold spRem
  rw [drop_at s k h, splitL, if_pos hq, show (s.extract (k + 1) (k + 1)).data.toList = [] by rw [extract_data]; simp, prep_nil, prepL, List.append_nil, List.map_cons, mkB_self]
theorem spRem_miss {q : UInt8} {s : ByteArray} {f k : Nat} (hf : f ≤ k) (h : k < s.size) (hq : s[k] ≠ q) : spRem q s f k = spRem q s f (k + 1) := by
  unfold spRem
  rw [drop_at s k h, splitL, if_neg hq, prep_app, ext_succ s f k hf h]
theorem spRem_end (q : UInt8) (s : ByteArray) (f : Nat) : spRem q s f s.size = [s.extract f s.size] := by
  unfold spRem
  rw [List.drop_of_length_le (by rw [size_data]; exact Nat.le_refl _)]
  rw [splitL, prepL, List.append_nil, List.map_cons, List.map_nil, mkB_self]
theorem spRem_start (q : UInt8) (s : ByteArray) : spRem q s 0 0 = (splitL q s.data.toList).map mkB := by
  unfold spRem
  rw [show (s.extract 0 0).data.toList = [] by rw [extract_data]; simp, List.drop_zero, prep_nil]
theorem splitL_len (q : UInt8) : ∀ L : List UInt8, (splitL q L).length ≤ L.length + 1
  | [] => Nat.le_refl _
  | c :: t => by
    have ih := splitL_len q t
    rw [splitL, List.length_cons]
    split
    · rw [List.length_cons]; omega
    · obtain ⟨x, r, e⟩ := splitL_ne q t
      rw [e] at ih ⊢
      simp [prepL] at ih ⊢
      omega
end Go.Proofs.YtcbbefibebkfgaaGreatDoor
