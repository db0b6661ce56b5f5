/- Contracts of the functions on single bytes and names: each answers what the plain function says, the world as it was. No condition but the string's length. -/
import Derived.Test.YtgcjhicpkmhbaaaDoorChecked
import Derived.Test.YtgcjhicpkmhbaaaDoorLib
namespace Go.Proofs.YtgcjhicpkmhbaaaDoor
open Go.RowKit

def inB (x a b : Int) : Bool := decide (a ≤ x) && decide (x ≤ b)
def small (c : Int) : Bool := decide (97 ≤ c) && decide (c ≤ 122)
def large (c : Int) : Bool := decide (65 ≤ c) && decide (c ≤ 90)
def digit (c : Int) : Bool := decide (48 ≤ c) && decide (c ≤ 57)
def letter (c : Int) : Bool := small c || digit c || c == 95
def lett (c : UInt8) : Bool := letter c.toNat
def word (s : ByteArray) (most : Int) : Bool := decide ((s.size : Int) ≤ most) && s.data.toList.all lett
def firstSmall (s : ByteArray) : Bool := match s.data.toList with | [] => false | c :: _ => small c.toNat
def nameOk (s : ByteArray) : Bool := firstSmall s && word s 12

theorem firstSmall_get (s : ByteArray) (h : 0 < s.size) : firstSmall s = small s[0].toNat := by
  unfold firstSmall
  rcases s with ⟨⟨l⟩⟩
  cases l with
  | nil => simp [ByteArray.size] at h
  | cons a l => rfl

theorem l1In_any (x a b : Int) (w : World) :
    Calls Tryd.prog 39 #[.int .i64 x, .int .i64 a, .int .i64 b] w fun e w' => e = .returned (.bool (inB x a b)) ∧ w = w' := by
  go_enter Tryd.func39, Tryd.ntmps39
  go_wp2
  all_goals (go_ret; exact ⟨ret_bool (by simp [inB, *]; try omega), rfl⟩)
theorem inRange_any (x a b : Int) (w : World) :
    Calls Tryd.prog 29 #[.int .i64 x, .int .i64 a, .int .i64 b] w fun e w' => e = .returned (.bool (inB x a b)) ∧ w = w' := by
  go_enter Tryd.func29, Tryd.ntmps29
  go_wp2
  all_goals (go_ret; exact ⟨ret_bool (by simp [inB, *]; try omega), rfl⟩)
theorem isSmall_any (x : Int) (w : World) :
    Calls Tryd.prog 51 #[.int .u8 x] w fun e w' => e = .returned (.bool (small x)) ∧ w = w' := by
  go_enter Tryd.func51, Tryd.ntmps51
  go_wp2
  all_goals (go_ret; exact ⟨ret_bool (by simp [small, *]; try omega), rfl⟩)
theorem isLarge_any (x : Int) (w : World) :
    Calls Tryd.prog 53 #[.int .u8 x] w fun e w' => e = .returned (.bool (large x)) ∧ w = w' := by
  go_enter Tryd.func53, Tryd.ntmps53
  go_wp2
  all_goals (go_ret; exact ⟨ret_bool (by simp [large, *]; try omega), rfl⟩)
theorem isDigit_any (x : Int) (w : World) :
    Calls Tryd.prog 49 #[.int .u8 x] w fun e w' => e = .returned (.bool (digit x)) ∧ w = w' := by
  go_enter Tryd.func49, Tryd.ntmps49
  go_wp2
  all_goals (go_ret; exact ⟨ret_bool (by simp [digit, *]; try omega), rfl⟩)
theorem l1Letter_any (x : Int) (h0 : 0 ≤ x) (h1 : x < 256) (w : World) :
    Calls Tryd.prog 64 #[.int .u8 x] w fun e w' => e = .returned (.bool (letter x)) ∧ w = w' := by
  go_enter Tryd.func64, Tryd.ntmps64
  go_wp2_with (go_at_call 39; refine (l1In_any _ _ _ _).mono ?_; rintro e w' ⟨rfl, rfl⟩)
  all_goals (go_ret; exact ⟨ret_bool (by simp_all [letter, inB, small, digit]; try omega), rfl⟩)
theorem isWordByte_any (x : Int) (w : World) :
    Calls Tryd.prog 52 #[.int .u8 x] w fun e w' => e = .returned (.bool (letter x)) ∧ w = w' := by
  go_enter Tryd.func52, Tryd.ntmps52
  go_wp2_with (first | (go_at_call 51; refine (isSmall_any _ _).mono ?_; rintro e w' ⟨rfl, rfl⟩) | (go_at_call 49; refine (isDigit_any _ _).mono ?_; rintro e w' ⟨rfl, rfl⟩))
  all_goals (go_ret; exact ⟨ret_bool (by simp_all [letter]; try omega), rfl⟩)
theorem isWord_any (s : ByteArray) (most : Int) (w : World) (hs : s.size ≤ 9223372036854775807) :
    Calls Tryd.prog 32 #[.string s, .int .i64 most] w fun e w' => e = .returned (.bool (word s most)) ∧ w = w' := by
  by_cases hm : most < (s.size : Int)
  · go_enter Tryd.func32, Tryd.ntmps32
    go_wp2
    go_ret
    exact ⟨ret_bool (by simp [word]; omega), rfl⟩
  · have hw : word s most = s.data.toList.all lett := by simp [word]; omega
    have HW := Lib.hid hw; clear hw
    go_enter Tryd.func32, Tryd.ntmps32
    go_wp2
    go_loop [5] (fun i => ∃ k : Nat, k ≤ s.size ∧ i = .int .i64 k ∧ (s.data.toList.take k).all lett = true) (fun i => s.size - (intOf i).toNat)
    case atStart => exact ⟨0, Nat.zero_le _, rfl, rfl⟩
    case round =>
      obtain ⟨k, hk, rfl, ha⟩ := hrel
      have HA := Lib.hid ha; clear ha
      by_cases hlt : k < s.size
      · by_cases hl : letter s[k].toNat = true
        · go_wp2_with (go_at_call 52; refine (isWordByte_any _ _).mono ?_; rintro e w' ⟨rfl, rfl⟩)
          go_round
          case rel => exact ⟨k + 1, by omega, by go_num, by rw [all_snoc lett s k hlt, HA.out]; simpa [lett] using hl⟩
          case measure => simp [intOf]; omega
        · have hl' : letter s[k].toNat = false := by simpa using hl
          clear hl
          go_wp2_with (go_at_call 52; refine (isWordByte_any _ _).mono ?_; rintro e w' ⟨rfl, rfl⟩)
          go_ret
          exact ⟨ret_bool (by rw [HW.out, all_not lett s k hlt hl']), rfl⟩
      · go_wp2
        go_ret
        exact ⟨ret_bool (by rw [HW.out, ← all_full lett s k (by omega), HA.out]), rfl⟩
theorem implNameOk_any (s : ByteArray) (w : World) (hs : s.size ≤ 9223372036854775807) :
    Calls Tryd.prog 30 #[.string s] w fun e w' => e = .returned (.bool (nameOk s)) ∧ w = w' := by
  by_cases h0 : 0 < s.size
  · have hf := firstSmall_get s h0
    have HF := Lib.hid hf; clear hf
    go_enter Tryd.func30, Tryd.ntmps30
    go_wp2_with (first | (go_at_call 51; refine (isSmall_any _ _).mono ?_; rintro e w' ⟨rfl, rfl⟩) | (go_at_call 32; refine (isWord_any _ _ _ hs).mono ?_; rintro e w' ⟨rfl, rfl⟩))
    all_goals (go_ret; exact ⟨ret_bool (by unfold nameOk; rw [HF.out]; simp_all), rfl⟩)
  · have hf : firstSmall s = false := by
      unfold firstSmall
      have : s.data.toList = [] := List.eq_nil_of_length_eq_zero (by rw [size_data]; omega)
      rw [this]
    have HF := Lib.hid hf; clear hf
    go_enter Tryd.func30, Tryd.ntmps30
    go_wp2
    go_ret
    exact ⟨ret_bool (by unfold nameOk; rw [HF.out]; simp), rfl⟩
theorem specNameOk_any (s : ByteArray) (w : World) (hs : s.size ≤ 9223372036854775807) :
    Calls Tryd.prog 46 #[.string s] w fun e w' => e = .returned (.bool (nameOk s)) ∧ w = w' := by
  go_enter Tryd.func46, Tryd.ntmps46
  go_wp2
  go_loop [3] (fun i => ∃ k : Nat, k ≤ s.size ∧ i = .int .i64 k ∧ (s.data.toList.take k).all lett = true ∧ (0 < k → firstSmall s = true)) (fun i => s.size - (intOf i).toNat)
  case atStart => exact ⟨0, Nat.zero_le _, rfl, rfl, fun h => absurd h (by omega)⟩
  case round =>
    obtain ⟨k, hk, rfl, ha, hf⟩ := hrel
    have HA := Lib.hid ha; clear ha
    have HF := Lib.hid hf; clear hf
    by_cases hlt : k < s.size
    · have hb := byte_le s[k]
      by_cases hl : letter s[k].toNat = true
      · by_cases hk0 : k = 0
        · subst hk0
          have hg := firstSmall_get s hlt
          have HG := Lib.hid hg; clear hg
          have hb := byte_le s[0]
          by_cases hi : inB s[0].toNat 97 122 = true
          · go_wp2_with (first | (go_at_call 64; refine (l1Letter_any _ (by omega) (by omega) _).mono ?_; rintro e w' ⟨rfl, rfl⟩) | (go_at_call 39; refine (l1In_any _ _ _ _).mono ?_; rintro e w' ⟨rfl, rfl⟩))
            go_round
            case rel => exact ⟨1, by omega, by go_num, by rw [all_snoc lett s 0 hlt]; simpa [lett] using hl, fun _ => by rw [HG.out]; simpa [inB, small] using hi⟩
            case measure => simp [intOf]; omega
          · have hi' : inB s[0].toNat 97 122 = false := by simpa using hi
            clear hi
            go_wp2_with (first | (go_at_call 64; refine (l1Letter_any _ (by omega) (by omega) _).mono ?_; rintro e w' ⟨rfl, rfl⟩) | (go_at_call 39; refine (l1In_any _ _ _ _).mono ?_; rintro e w' ⟨rfl, rfl⟩))
            go_ret
            exact ⟨ret_bool (by unfold nameOk; rw [HG.out, show small s[0].toNat = inB s[0].toNat 97 122 from rfl, hi']; rfl), rfl⟩
        · have hkne : ((k : Int) == 0) = false := by simp; omega
          go_wp2_with (first | (go_at_call 64; refine (l1Letter_any _ (by omega) (by omega) _).mono ?_; rintro e w' ⟨rfl, rfl⟩) | (go_at_call 39; refine (l1In_any _ _ _ _).mono ?_; rintro e w' ⟨rfl, rfl⟩))
          go_round
          case rel => exact ⟨k + 1, by omega, by go_num, by rw [all_snoc lett s k hlt, HA.out]; simpa [lett] using hl, fun _ => HF.out (by omega)⟩
          case measure => simp [intOf]; omega
      · have hl' : letter s[k].toNat = false := by simpa using hl
        clear hl
        go_wp2_with (first | (go_at_call 64; refine (l1Letter_any _ (by omega) (by omega) _).mono ?_; rintro e w' ⟨rfl, rfl⟩) | (go_at_call 39; refine (l1In_any _ _ _ _).mono ?_; rintro e w' ⟨rfl, rfl⟩))
        go_ret
        exact ⟨ret_bool (by unfold nameOk word; rw [all_not lett s k hlt hl']; simp), rfl⟩
    · have hall : s.data.toList.all lett = true := by rw [← all_full lett s k (by omega)]; exact HA.out
      have HL := Lib.hid hall; clear hall
      go_wp2_with (go_at_call 39; refine (l1In_any _ _ _ _).mono ?_; rintro e w' ⟨rfl, rfl⟩)
      go_ret
      refine ⟨ret_bool ?_, rfl⟩
      by_cases h0 : 0 < s.size
      · unfold nameOk word
        rw [HL.out, HF.out (by omega)]
        simp [inB]; omega
      · have h00 : s.size = 0 := by omega
        have hn : s.data.toList = [] := List.eq_nil_of_length_eq_zero (by rw [size_data]; exact h00)
        simp [nameOk, firstSmall, hn, inB, h00]
end Go.Proofs.YtgcjhicpkmhbaaaDoor
