import Derived.Test.YtgcjhicpkmhbaaaDoorPkPlainParse2
/- What is read of a text as tokens. Names no program. No condition. -/
namespace Go.Proofs.YtgcjhicpkmhbaaaDoor
open Go.Lib Go.RowKit
def bytesOf (l : List UInt8) : ByteArray := ⟨l.toArray⟩
def blankB (c : UInt8) : Bool := c == 32 || c == 9 || c == 10 || c == 13
def passM : Bool → List UInt8 → List UInt8
  | _, [] => []
  | true, c :: t => if c = 10 then passM false t else passM true t
  | false, c :: t => if blankB c then passM false t else if c = 37 then passM true t else c :: t
def digB (c : UInt8) : Bool := digit c.toNat
def larB (c : UInt8) : Bool := lett c || large c.toNat
def noQ (c : UInt8) : Bool := c != 39
def runL (p : UInt8 → Bool) : List UInt8 → Nat
  | [] => 0
  | c :: t => if p c then runL p t + 1 else 0
def noTok : Vl := ⟨0, 0, ⟨#[]⟩⟩
def oneL : List UInt8 → Vl × Nat
  | [] => (noTok, 0)
  | c :: t =>
    if digit c.toNat then (⟨1, wholeT ((c :: t).take (runL digB (c :: t))), ⟨#[]⟩⟩, runL digB (c :: t))
    else if small c.toNat then (⟨2, 0, bytesOf ((c :: t).take (runL lett (c :: t)))⟩, runL lett (c :: t))
    else if large c.toNat then (⟨3, 0, bytesOf ((c :: t).take (runL larB (c :: t)))⟩, runL larB (c :: t))
    else if c = 39 then (if runL noQ t < t.length then (⟨4, 0, bytesOf (t.take (runL noQ t))⟩, runL noQ t + 2) else (noTok, runL noQ t + 1))
    else if c = 45 ∧ t.head? = some 62 then (⟨5, 0, ⟨#[45, 62]⟩⟩, 2)
    else (⟨5, 0, ⟨#[c]⟩⟩, 1)
def lexF (N : Nat) : Nat → List UInt8 → List Vl → List Vl × Int
  | 0, _, acc => (acc, -1)
  | n + 1, L, acc =>
    if passM false L = [] then (acc, -1)
    else if tokenOk (oneL (passM false L)).1 = true ∧ acc.length ≠ 3000 then lexF N n ((passM false L).drop (oneL (passM false L)).2) (acc ++ [(oneL (passM false L)).1])
    else ([], (N : Int) - ((passM false L).length : Int))
def lexed (s : ByteArray) : List Vl × Int := lexF s.size (s.size + 1) s.data.toList []
theorem runL_le (p : UInt8 → Bool) : ∀ L : List UInt8, runL p L ≤ L.length
  | [] => Nat.le_refl _
  | c :: t => by
    rw [runL, List.length_cons]
    split
    · have := runL_le p t; omega
    · omega
theorem run_step {p : UInt8 → Bool} {L : List UInt8} {k : Nat} (h : k < L.length) (hp : p L[k] = true) : runL p (L.drop k) = runL p (L.drop (k + 1)) + 1 := by
  rw [List.drop_eq_getElem_cons h, runL, if_pos hp]
theorem run_stop {p : UInt8 → Bool} {L : List UInt8} {k : Nat} (h : k < L.length) (hp : p L[k] = false) : runL p (L.drop k) = 0 := by
  rw [List.drop_eq_getElem_cons h, runL, hp]; rfl
theorem run_end {p : UInt8 → Bool} {L : List UInt8} {k : Nat} (h : L.length ≤ k) : runL p (L.drop k) = 0 := by
  rw [List.drop_of_length_le h]; rfl
theorem passM_len : ∀ (b : Bool) (L : List UInt8), (passM b L).length ≤ L.length
  | b, [] => by cases b <;> simp [passM]
  | true, c :: t => by
    rw [passM, List.length_cons]
    split
    · have := passM_len false t; omega
    · have := passM_len true t; omega
  | false, c :: t => by
    rw [passM]
    split
    · have := passM_len false t; rw [List.length_cons]; omega
    · split
      · have := passM_len true t; rw [List.length_cons]; omega
      · exact Nat.le_refl _
theorem passM_again : ∀ (b : Bool) (L : List UInt8), passM false (passM b L) = passM b L
  | b, [] => by cases b <;> simp [passM]
  | true, c :: t => by
    rw [passM]
    split
    · exact passM_again false t
    · exact passM_again true t
  | false, c :: t => by
    rw [passM]
    split
    · exact passM_again false t
    · split
      · exact passM_again true t
      · rename_i h1 h2
        rw [passM, if_neg h1, if_neg h2]
theorem lexF_pass (N n : Nat) (L : List UInt8) (acc : List Vl) : lexF N n (passM false L) acc = lexF N n L acc := by
  cases n with
  | zero => rfl
  | succ n => rw [lexF, lexF, passM_again]
theorem lexF_pass2 {N n : Nat} {L L2 : List UInt8} {acc : List Vl} (h : passM false L = passM false L2) : lexF N n L acc = lexF N n L2 acc := by
  rw [← lexF_pass N n L, ← lexF_pass N n L2, h]
theorem oneL_pos {c : UInt8} {t : List UInt8} (_h : tokenOk (oneL (c :: t)).1 = true) : 1 ≤ (oneL (c :: t)).2 := by
  have hr : ∀ p : UInt8 → Bool, p c = true → 1 ≤ runL p (c :: t) := by
    intro p hp
    rw [runL, if_pos hp]
    omega
  unfold oneL
  simp only
  split
  · rename_i h1; exact hr _ h1
  · split
    · rename_i h1 h2
      refine hr _ ?_
      unfold lett letter
      rw [h2]
      rfl
    · split
      · rename_i h1 h2 h3
        refine hr _ ?_
        unfold larB
        rw [h3, Bool.or_true]
      · split
        · split <;> simp
        · split <;> simp
/-- what the program's reading of a number tells -/
def numok (L : List UInt8) : Bool := decide (1 ≤ (restT L).length ∧ (restT L).length ≤ 10 ∧ ∃ m, atoi L = some m ∧ itoa m = L)
theorem whole_ok {L : List UInt8} (h : ∀ b ∈ L, digB b = true) : (numok L = true → 0 ≤ wholeT L ∧ numOf L = wholeT L) ∧ (numok L = false → wholeT L < 0) := by
  have hne : ∀ t, L ≠ 45 :: t := by
    rintro t rfl
    have := h 45 (by simp)
    revert this
    decide
  have hr : restT L = L := by
    unfold restT
    rw [if_neg]
    intro e
    cases L with
    | nil => cases e
    | cons a t =>
      rw [List.head?_cons] at e
      injection e with e
      exact hne t (by rw [e])
  constructor
  · intro hk
    unfold numok at hk
    rw [decide_eq_true_eq, hr] at hk
    obtain ⟨h1, h2, m, ha, hi⟩ := hk
    have hm : 0 ≤ m := by
      rcases Int.lt_or_le m 0 with hm | hm
      · unfold itoa at hi
        rw [if_pos hm] at hi
        exact absurd hi.symm (hne _)
      · exact hm
    have hL : L = decDigits m.toNat := by
      unfold itoa at hi
      rw [if_neg (by omega)] at hi
      exact hi.symm
    have hb : m.toNat < 10000000000 := by
      have h3 := decFrom_digits m.toNat
      rcases Nat.lt_or_ge m.toNat 10000000000 with h4 | h4
      · exact h4
      · exfalso
        have h5 : 10 < (decDigits m.toNat).length := by
          have h6 : ∀ (k n : Nat), 10 ^ k ≤ n → k < (decDigits n).length := by
            intro k
            induction k with
            | zero =>
              intro n _
              obtain ⟨b, r, e, _⟩ := digits_cons n
              rw [e]; simp
            | succ k ih =>
              intro n hn
              have hn10 : ¬ n < 10 := by
                have : 10 ^ 1 ≤ 10 ^ (k + 1) := Nat.pow_le_pow_right (by decide) (by omega)
                omega
              rw [dig_big hn10, List.length_append, List.length_singleton]
              have := ih (n / 10) (by rw [Nat.pow_succ] at hn; omega)
              omega
          exact h6 10 _ (by omega)
        rw [← hL] at h5
        omega
    have hw := whole_digits hb
    rw [← hL] at hw
    refine ⟨by omega, ?_⟩
    have hn := num_digits (m := m.toNat) (by rw [← hL]; exact h2)
    rw [← hL] at hn
    omega
  · intro hk
    rcases Int.lt_or_le (wholeT L) 0 with hw | hw
    · exact hw
    · exfalso
      obtain ⟨m, hm, hL, hl⟩ := whole_nonneg hw
      have : numok L = true := by
        unfold numok
        rw [decide_eq_true_eq, hr]
        obtain ⟨b, r, e, h0, h1⟩ := digits_cons m
        refine ⟨by rw [hL, e]; simp, hl, (m : Int), ?_, by rw [itoa_nonneg, ← hL]⟩
        have hd : decNat L = some m := by
          unfold decNat
          rw [if_neg (by rw [hL, e]; simp), hL, decFrom_digits]
        rw [hL, e] at hd ⊢
        have e45 : (b == 45) = false := beq_eq_false_iff_ne.2 (ne_of_nat (n := 45) h0 (by omega))
        have e43 : (b == 43) = false := beq_eq_false_iff_ne.2 (ne_of_nat (n := 43) h0 (by omega))
        unfold atoi
        simp only [e45, e43, Bool.false_eq_true, if_false, hd, Option.map_some]
      rw [hk] at this
      cases this
end Go.Proofs.YtgcjhicpkmhbaaaDoor
