/- Is a text a variable: the program's and the reference's answer is that of the plain function. No condition but the text's length. -/
import Derived.Test.YtgcjhicpkmhbaaaDoorName
namespace Go.Proofs.YtgcjhicpkmhbaaaDoor
open Go.RowKit
set_option maxRecDepth 100000
set_option maxHeartbeats 2000000

def lv (c : UInt8) : Bool := letter c.toNat || large c.toNat
def firstLarge (s : ByteArray) : Bool := match s.data.toList with | [] => false | c :: _ => large c.toNat
def varOk (s : ByteArray) : Bool := firstLarge s && (decide ((s.size : Int) ≤ 12) && s.data.toList.all lv)
theorem firstLarge_get (s : ByteArray) (h : 0 < s.size) : firstLarge s = large s[0].toNat := by
  unfold firstLarge
  rcases s with ⟨⟨l⟩⟩
  cases l with
  | nil => simp [ByteArray.size] at h
  | cons a l => rfl
theorem firstLarge_nil (s : ByteArray) (h : ¬ 0 < s.size) : firstLarge s = false := by
  unfold firstLarge
  have : s.data.toList = [] := List.eq_nil_of_length_eq_zero (by rw [size_data]; omega)
  rw [this]
theorem l5Large_any (x : Int) (h0 : 0 ≤ x) (h1 : x < 256) (w : World) :
    Calls Tryd.prog 43 #[.int .u8 x] w fun e w' => e = .returned (.bool (large x)) ∧ w = w' := by
  go_enter Tryd.func43, Tryd.ntmps43
  go_wp2_with (go_at_call 39; refine (l1In_any _ _ _ _).mono ?_; rintro e w' ⟨rfl, rfl⟩)
  all_goals (go_ret; exact ⟨ret_bool rfl, rfl⟩)
theorem isVar_any (s : ByteArray) (w : World) (hs : s.size ≤ 9223372036854775807) :
    Calls Tryd.prog 31 #[.string s] w fun e w' => e = .returned (.bool (varOk s)) ∧ w = w' := by
  by_cases h0 : 0 < s.size
  · have hf := firstLarge_get s h0
    have hb0 := byte_le s[0]
    by_cases hl : large s[0].toNat = true
    · by_cases h12 : (s.size : Int) ≤ 12
      · have hv : varOk s = s.data.toList.all lv := by unfold varOk; rw [hf, hl, decide_eq_true h12]; simp
        have HV := Lib.hid hv; clear hv hf
        go_enter Tryd.func31, Tryd.ntmps31
        go_wp2_with (go_at_call 53; refine (isLarge_any _ _).mono ?_; rintro e w' ⟨rfl, rfl⟩)
        go_loop [3] (fun i => ∃ k : Nat, k ≤ s.size ∧ i = .int .i64 k ∧ (s.data.toList.take k).all lv = true) (fun i => s.size - (intOf i).toNat)
        case atStart => exact ⟨0, Nat.zero_le _, rfl, rfl⟩
        case round =>
          obtain ⟨k, hk, rfl, ha⟩ := hrel
          have HA := Lib.hid ha; clear ha
          by_cases hlt : k < s.size
          · have hb := byte_le s[k]
            cases hlt1 : letter s[k].toNat <;> cases hlt2 : large s[k].toNat
            · have hn : lv s[k] = false := by unfold lv; rw [hlt1, hlt2]; rfl
              have HN := Lib.hid (all_not lv s k hlt hn); clear hn
              go_wp2_with (first | (go_at_call 52; refine (isWordByte_any _ _).mono ?_; rintro e w' ⟨rfl, rfl⟩) | (go_at_call 53; refine (isLarge_any _ _).mono ?_; rintro e w' ⟨rfl, rfl⟩))
              go_ret
              exact ⟨ret_bool (by rw [HV.out, HN.out]), rfl⟩
            all_goals
              have hn : lv s[k] = true := by unfold lv; rw [hlt1, hlt2]; rfl
              have HN := Lib.hid hn; clear hn
              go_wp2_with (first | (go_at_call 52; refine (isWordByte_any _ _).mono ?_; rintro e w' ⟨rfl, rfl⟩) | (go_at_call 53; refine (isLarge_any _ _).mono ?_; rintro e w' ⟨rfl, rfl⟩))
              go_round
              case rel => exact ⟨k + 1, by omega, by go_num, by rw [all_snoc lv s k hlt, HA.out, HN.out]; rfl⟩
              case measure => simp [intOf]; omega
          · have HF := Lib.hid (all_full lv s k (by omega))
            go_wp2
            go_ret
            exact ⟨ret_bool (by rw [HV.out, ← HF.out, HA.out]), rfl⟩
      · have HV := Lib.hid (show varOk s = false by unfold varOk; rw [decide_eq_false h12]; simp)
        go_enter Tryd.func31, Tryd.ntmps31
        go_wp2
        go_ret
        exact ⟨ret_bool HV.out.symm, rfl⟩
    · have hl' : large s[0].toNat = false := by simpa using hl
      clear hl
      have HV := Lib.hid (show varOk s = false by unfold varOk; rw [hf, hl']; rfl)
      clear hf
      go_enter Tryd.func31, Tryd.ntmps31
      go_wp2_with (go_at_call 53; refine (isLarge_any _ _).mono ?_; rintro e w' ⟨rfl, rfl⟩)
      all_goals
        go_ret
        exact ⟨ret_bool HV.out.symm, rfl⟩
  · have HV := Lib.hid (show varOk s = false by unfold varOk; rw [firstLarge_nil s h0]; rfl)
    go_enter Tryd.func31, Tryd.ntmps31
    go_wp2
    go_ret
    exact ⟨ret_bool HV.out.symm, rfl⟩
theorem l5VarOk_any (s : ByteArray) (w : World) (hs : s.size ≤ 9223372036854775807) :
    Calls Tryd.prog 47 #[.string s] w fun e w' => e = .returned (.bool (varOk s)) ∧ w = w' := by
  go_enter Tryd.func47, Tryd.ntmps47
  go_wp2
  go_loop [3] (fun i => ∃ k : Nat, k ≤ s.size ∧ i = .int .i64 k ∧ (s.data.toList.take k).all lv = true ∧ (0 < k → firstLarge s = true)) (fun i => s.size - (intOf i).toNat)
  case atStart => exact ⟨0, Nat.zero_le _, rfl, rfl, fun h => absurd h (by omega)⟩
  case round =>
    obtain ⟨k, hk, rfl, ha, hf⟩ := hrel
    have HA := Lib.hid ha; clear ha
    have HF := Lib.hid hf; clear hf
    by_cases hlt : k < s.size
    · have hb := byte_le s[k]
      cases h2 : large s[k].toNat
      · by_cases hk0 : k = 0
        · subst hk0
          have HV := Lib.hid (show varOk s = false by unfold varOk; rw [firstLarge_get s hlt, h2]; rfl)
          go_wp2_with (first | (go_at_call 43; refine (l5Large_any _ (by omega) (by omega) _).mono ?_; rintro e w' ⟨rfl, rfl⟩) | (go_at_call 64; refine (l1Letter_any _ (by omega) (by omega) _).mono ?_; rintro e w' ⟨rfl, rfl⟩))
          go_ret
          exact ⟨ret_bool HV.out.symm, rfl⟩
        · have hkne : ((k : Int) == 0) = false := by simp; omega
          cases h1 : letter s[k].toNat
          · have hn : lv s[k] = false := by unfold lv; rw [h1, h2]; rfl
            have HN := Lib.hid (all_not lv s k hlt hn); clear hn
            go_wp2_with (first | (go_at_call 43; refine (l5Large_any _ (by omega) (by omega) _).mono ?_; rintro e w' ⟨rfl, rfl⟩) | (go_at_call 64; refine (l1Letter_any _ (by omega) (by omega) _).mono ?_; rintro e w' ⟨rfl, rfl⟩))
            go_ret
            exact ⟨ret_bool (by unfold varOk; rw [HN.out]; simp), rfl⟩
          · have hn : lv s[k] = true := by unfold lv; rw [h1]; rfl
            have HN := Lib.hid hn; clear hn
            go_wp2_with (first | (go_at_call 43; refine (l5Large_any _ (by omega) (by omega) _).mono ?_; rintro e w' ⟨rfl, rfl⟩) | (go_at_call 64; refine (l1Letter_any _ (by omega) (by omega) _).mono ?_; rintro e w' ⟨rfl, rfl⟩))
            go_round
            case rel => exact ⟨k + 1, by omega, by go_num, by rw [all_snoc lv s k hlt, HA.out, HN.out]; rfl, fun _ => HF.out (by omega)⟩
            case measure => simp [intOf]; omega
      · have hn : lv s[k] = true := by unfold lv; rw [h2]; simp
        have HN := Lib.hid hn; clear hn
        have hfl : firstLarge s = true := by
          by_cases hk0 : k = 0
          · subst hk0; rw [firstLarge_get s hlt, h2]
          · exact HF.out (by omega)
        have HFL := Lib.hid hfl; clear hfl
        go_wp2_with (first | (go_at_call 43; refine (l5Large_any _ (by omega) (by omega) _).mono ?_; rintro e w' ⟨rfl, rfl⟩) | (go_at_call 64; refine (l1Letter_any _ (by omega) (by omega) _).mono ?_; rintro e w' ⟨rfl, rfl⟩))
        go_round
        case rel => exact ⟨k + 1, by omega, by go_num, by rw [all_snoc lv s k hlt, HA.out, HN.out]; rfl, fun _ => HFL.out⟩
        case measure => simp [intOf]; omega
    · have hall : s.data.toList.all lv = true := by rw [← all_full lv s k (by omega)]; exact HA.out
      have HL := Lib.hid hall; clear hall
      go_wp2_with (go_at_call 39; refine (l1In_any _ _ _ _).mono ?_; rintro e w' ⟨rfl, rfl⟩)
      go_ret
      refine ⟨ret_bool ?_, rfl⟩
      by_cases h0 : 0 < s.size
      · unfold varOk
        rw [HL.out, HF.out (by omega)]
        simp [inB]; omega
      · unfold varOk
        rw [firstLarge_nil s h0]
        simp [inB]; omega
end Go.Proofs.YtgcjhicpkmhbaaaDoor
