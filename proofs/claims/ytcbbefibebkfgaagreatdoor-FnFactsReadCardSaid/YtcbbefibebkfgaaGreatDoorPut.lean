/- PutNum, PutText of the program and of the reference: each answers a slice of its own that holds what the plain function says. No condition but lengths. -/
import Derived.Test.YtcbbefibebkfgaaGreatDoorText
import Derived.Test.YtcbbefibebkfgaaGreatDoorOwn
namespace Go.Proofs.YtcbbefibebkfgaaGreatDoor
open Go.RowKit
set_option maxRecDepth 100000
set_option maxHeartbeats 2000000

theorem info8 : (Tryz.prog.info? 5).map (fun i => (i.zero, i.size, i.bytes)) = some (some (.int .u8 0), 1, 1) := by kernel_rfl

def numB : Nat → Nat → List UInt8
  | 0, _ => []
  | f + 1, m => if 127 < m then UInt8.ofNat (128 + m % 128) :: numB f (m / 128) else [UInt8.ofNat m]
def clampN (n : Int) : Int := max (-1000000000) (min 1000000000 n)
def encN (n : Int) : Nat := if clampN n < 0 then (-2 * clampN n - 1).toNat else (2 * clampN n).toNat
def putN (n : Int) : List UInt8 := numB 5 (encN n)
theorem encN_lt (n : Int) : encN n ≤ 2000000000 := by unfold encN clampN; split <;> omega
theorem numB_len : ∀ f m, (numB f m).length ≤ f
  | 0, _ => by simp [numB]
  | f + 1, m => by unfold numB; split <;> simp; exact numB_len f _

theorem own_eq {w : World} {base : Nat} {e : TypeId} {v : Value} {bs : List UInt8} {a b : UInt8} (h : OwnB w base e v (bs ++ [a])) (hab : a = b) : OwnB w base e v (bs ++ [b]) := hab ▸ h
theorem ofN {a : Int} {b : Nat} (h : a = b) : UInt8.ofNat a.toNat = UInt8.ofNat b := by subst h; simp
theorem div_lt {k f : Nat} (h : k < 128 ^ (f + 1)) : k / 128 < 128 ^ f := by
  rw [Nat.pow_succ] at h
  exact Nat.div_lt_of_lt_mul (by omega)
theorem pos_of_lt {k f : Nat} (h : k < 128 ^ (f + 1)) (h2 : 127 < k) : 0 < f := by
  rcases Nat.eq_zero_or_pos f with rfl | h0
  · simp at h; omega
  · exact h0
theorem enc1 (n : Int) (h : n < -1000000000) : (encN n : Int) = 1999999999 := by
  have hc : clampN n = -1000000000 := by unfold clampN; omega
  unfold encN; rw [hc]; rfl
theorem enc2 (n : Int) (h : -1000000000 ≤ n) (h2 : n < 0) : (encN n : Int) = -2 * n - 1 := by
  have hc : clampN n = n := by unfold clampN; omega
  unfold encN; rw [hc, if_pos h2]; omega
theorem enc3 (n : Int) (h : 0 ≤ n) (h2 : n ≤ 1000000000) : (encN n : Int) = 2 * n := by
  have hc : clampN n = n := by unfold clampN; omega
  unfold encN; rw [hc, if_neg (by omega)]; omega
theorem enc4 (n : Int) (h : 1000000000 < n) : (encN n : Int) = 2000000000 := by
  have hc : clampN n = 1000000000 := by unfold clampN; omega
  unfold encN; rw [hc]; rfl
theorem enc_cases (n : Int) : (n ≤ -1000000000 ∧ (encN n : Int) = 1999999999) ∨ (-1000000000 < n ∧ n < 0 ∧ (encN n : Int) = -2 * n - 1) ∨ (0 ≤ n ∧ n < 1000000000 ∧ (encN n : Int) = 2 * n) ∨ (1000000000 ≤ n ∧ (encN n : Int) = 2000000000) := by
  by_cases h1 : n ≤ -1000000000
  · refine .inl ⟨h1, ?_⟩
    by_cases h2 : n = -1000000000
    · subst h2; rfl
    · exact enc1 n (by omega)
  · by_cases h2 : n < 0
    · exact .inr (.inl ⟨by omega, h2, enc2 n (by omega) h2⟩)
    · by_cases h3 : n < 1000000000
      · exact .inr (.inr (.inl ⟨by omega, h3, enc3 n (by omega) (by omega)⟩))
      · refine .inr (.inr (.inr ⟨by omega, ?_⟩))
        by_cases h4 : n = 1000000000
        · subst h4; rfl
        · exact enc4 n (by omega)

theorem putNum_any (v : Value) (bs : List UInt8) (n : Int) (w : World) (base : Nat) (ho : OwnB w base 5 v bs) (hb : base ≤ w.heap.size) (hl : bs.length ≤ 70368744177664) :
    Calls Tryz.prog 62 #[v, .int .i64 n] w fun e w' => ∃ v', e = .returned v' ∧ OwnB w' base 5 v' (bs ++ putN n) ∧ Below base w w' ∧ w.heap.size ≤ w'.heap.size := by
  obtain ⟨i0, hi, hz0, hz1, hz2⟩ := info_parts info8
  have hlt := encN_lt n
  have HO := Lib.hid ho; clear ho
  have HI := Lib.hid hi; clear hi
  rcases enc_cases n with ⟨h1, he⟩ | ⟨h1, h2, he⟩ | ⟨h1, h2, he⟩ | ⟨h1, he⟩
  all_goals
    have HE := Lib.hid he; clear he
    go_enter Tryz.func62, Tryz.ntmps62
    go_wp2
    go_loopw [0, 5] (fun u m wr => ∃ (ys : List UInt8) (k f : Nat), m = .int .i64 k ∧ OwnB wr base 5 u (bs ++ ys) ∧ ys ++ numB f k = numB 5 (encN n) ∧ k < 128 ^ f ∧ k ≤ 2000000000 ∧ 0 < f ∧ ys.length + f ≤ 5 ∧ Below base w wr ∧ w.heap.size ≤ wr.heap.size) (fun _ m _ => (intOf m).toNat)
    case atStart => exact ⟨[], encN n, 5, by rw [HE.out], by simpa using HO.out, rfl, Nat.lt_of_le_of_lt hlt (by decide), hlt, by omega, by simp, Below.refl _ _, Nat.le_refl _⟩
    case round =>
      obtain ⟨ys, k, f, rfl, hown, hy, hk, hk2, hf, hyl, hbel, hsz⟩ := hrel
      have HY := Lib.hid hy; clear hy
      have HK := Lib.hid hk; clear hk
      have HOW := Lib.hid hown; clear hown
      obtain ⟨f, rfl⟩ : ∃ f', f = f' + 1 := ⟨f - 1, by omega⟩
      by_cases h128 : 127 < k
      · go_wp2_with (at_builtin; refine app_byte rfl (.tmp 18) (.tmp 23) _ rfl base 5 i0 Tryz.underlying22 HI.out hz0 hz1 hz2 _ _ rfl (HOW.out.kept ((Below.refl _ _).alloc (Nat.le_refl _) _)) _ 1 1 _ _ rfl (RdB.one wr 5 (128 + (k : Int) % 128) (by omega) (by omega)) (by simp; omega) (by simp; omega) ?_; intro v' w' ho' hb' hs'; have hbel' : Below base w w' := (hbel.alloc (by omega) _).trans hb'; have hsz' : w.heap.size ≤ w'.heap.size := by simp at hs'; omega)
        go_round
        case rel => exact ⟨ys ++ [UInt8.ofNat (128 + k % 128)], k / 128, f, by go_num, by rw [← List.append_assoc]; exact own_eq ho' (ofN (by omega)), by rw [List.append_assoc, ← HY.out]; rw [numB, if_pos h128]; rfl, div_lt HK.out, by omega, pos_of_lt HK.out h128, by simp; omega, hbel', hsz'⟩
        case measure => simp [intOf]; omega
      · go_wp2_with (at_builtin; refine app_byte rfl (.tmp 27) (.tmp 30) _ rfl base 5 i0 Tryz.underlying22 HI.out hz0 hz1 hz2 _ _ rfl (HOW.out.kept ((Below.refl _ _).alloc (Nat.le_refl _) _)) _ 1 1 _ _ rfl (RdB.one wr 5 (k : Int) (by omega) (by omega)) (by simp; omega) (by simp; omega) ?_; intro v' w' ho' hb' hs'; have hbel' : Below base w w' := (hbel.alloc (by omega) _).trans hb'; have hsz' : w.heap.size ≤ w'.heap.size := by simp at hs'; omega)
        go_ret
        refine ⟨_, rfl, ?_, hbel', hsz'⟩
        unfold putN
        rw [← HY.out, numB, if_neg h128, ← List.append_assoc]
        exact own_eq ho' (ofN rfl)
end Go.Proofs.YtcbbefibebkfgaaGreatDoor
