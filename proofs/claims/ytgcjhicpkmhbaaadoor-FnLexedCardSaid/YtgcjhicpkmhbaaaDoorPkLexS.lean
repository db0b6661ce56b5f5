import Derived.Test.YtgcjhicpkmhbaaaDoorPkPlainLex
import Derived.Test.YtgcjhicpkmhbaaaDoorWhole
import Derived.Test.YtgcjhicpkmhbaaaDoorBox
/- Reading a text as tokens, by the reference: the places of digits, letters, quotes, blanks; what begins at a place. Each answers what the plain function says. Conditions: lengths. -/
namespace Go.Proofs.YtgcjhicpkmhbaaaDoor
open Go.RowKit
set_option maxRecDepth 100000
set_option maxHeartbeats 4000000
theorem run_stepS {p : UInt8 → Bool} {s : ByteArray} {k : Nat} (h : k < s.size) (hp : p s[k] = true) : runL p (s.data.toList.drop k) = runL p (s.data.toList.drop (k + 1)) + 1 := run_step (by rw [size_data]; exact h) hp
theorem run_stopS {p : UInt8 → Bool} {s : ByteArray} {k : Nat} (h : k < s.size) (hp : p s[k] = false) : runL p (s.data.toList.drop k) = 0 := run_stop (by rw [size_data]; exact h) hp
theorem run_endS {p : UInt8 → Bool} {s : ByteArray} {k : Nat} (h : s.size ≤ k) : runL p (s.data.toList.drop k) = 0 := run_end (by rw [size_data]; exact h)
theorem run_leS (p : UInt8 → Bool) (s : ByteArray) (k : Nat) : runL p (s.data.toList.drop k) ≤ s.size - k := by
  have := runL_le p (s.data.toList.drop k)
  rw [List.length_drop, size_data] at this
  exact this
theorem l5Digits_any (s : ByteArray) (at_ R : Nat) (w : World) (hs : s.size ≤ 1048576) (ha : at_ ≤ s.size) (hR : at_ + runL digB (s.data.toList.drop at_) = R) :
    Calls Tryd.prog 40 #[.string s, .int .i64 at_] w fun e w' => e = .returned (.int .i64 R) ∧ w = w' := by
  have HRR := Lib.hid hR; clear hR
  go_enter Tryd.func40, Tryd.ntmps40
  go_wp2
  go_loop [1] (fun i => ∃ k : Nat, k ≤ s.size ∧ i = .int .i64 k ∧ k + runL digB (s.data.toList.drop k) = R) (fun i => s.size - (intOf i).toNat)
  case atStart => exact ⟨at_, ha, rfl, HRR.out⟩
  case round =>
    obtain ⟨k, hk, rfl, hr⟩ := hrel
    have HR := Lib.hid hr; clear hr
    by_cases hlt : k < s.size
    · have hb := byte_le s[k]
      cases hd : digit s[k].toNat
      · have HF := Lib.hid (show R = k by rw [← HR.out, run_stopS hlt hd]; rfl)
        go_wp2_with (go_at_call 39; refine (l1In_any _ _ _ _).mono ?_; rw [show inB (s[k].toNat : Int) 48 57 = false from hd]; rintro e w' ⟨rfl, rfl⟩)
        go_ret
        exact ⟨ret_int (by rw [HF.out]), rfl⟩
      · have HF := Lib.hid (show k + 1 + runL digB (s.data.toList.drop (k + 1)) = R by rw [← HR.out, run_stepS hlt hd]; omega)
        go_wp2_with (go_at_call 39; refine (l1In_any _ _ _ _).mono ?_; rw [show inB (s[k].toNat : Int) 48 57 = true from hd]; rintro e w' ⟨rfl, rfl⟩)
        go_round
        case rel => exact ⟨k + 1, by omega, by go_num, HF.out⟩
        case measure => simp [intOf]; omega
    · have HF := Lib.hid (show R = k by rw [← HR.out, run_endS (by omega)]; rfl)
      go_wp2
      go_ret
      exact ⟨ret_int (by rw [HF.out]), rfl⟩
theorem l5RunF_any (s : ByteArray) (at_ R : Nat) (w : World) (hs : s.size ≤ 1048576) (ha : at_ ≤ s.size) (hR : at_ + runL lett (s.data.toList.drop at_) = R) :
    Calls Tryd.prog 42 #[.string s, .int .i64 at_, .bool false] w fun e w' => e = .returned (.int .i64 R) ∧ w = w' := by
  have HRR := Lib.hid hR; clear hR
  go_enter Tryd.func42, Tryd.ntmps42
  go_wp2
  go_loop [1] (fun i => ∃ k : Nat, k ≤ s.size ∧ i = .int .i64 k ∧ k + runL lett (s.data.toList.drop k) = R) (fun i => s.size - (intOf i).toNat)
  case atStart => exact ⟨at_, ha, rfl, HRR.out⟩
  case round =>
    obtain ⟨k, hk, rfl, hr⟩ := hrel
    have HR := Lib.hid hr; clear hr
    by_cases hlt : k < s.size
    · have hb := byte_le s[k]
      cases hd : letter s[k].toNat
      · have HF := Lib.hid (show R = k by rw [← HR.out, run_stopS hlt hd]; rfl)
        have HD := Lib.hid hd; clear hd
        go_wp2_with (go_at_call 64; refine (l1Letter_any _ (by omega) (by omega) _).mono ?_; rw [HD.out]; rintro e w' ⟨rfl, rfl⟩)
        go_ret
        exact ⟨ret_int (by rw [HF.out]), rfl⟩
      · have HF := Lib.hid (show k + 1 + runL lett (s.data.toList.drop (k + 1)) = R by rw [← HR.out, run_stepS hlt hd]; omega)
        have HD := Lib.hid hd; clear hd
        go_wp2_with (go_at_call 64; refine (l1Letter_any _ (by omega) (by omega) _).mono ?_; rw [HD.out]; rintro e w' ⟨rfl, rfl⟩)
        go_round
        case rel => exact ⟨k + 1, by omega, by go_num, HF.out⟩
        case measure => simp [intOf]; omega
    · have HF := Lib.hid (show R = k by rw [← HR.out, run_endS (by omega)]; rfl)
      go_wp2
      go_ret
      exact ⟨ret_int (by rw [HF.out]), rfl⟩
theorem l5RunT_any (s : ByteArray) (at_ R : Nat) (w : World) (hs : s.size ≤ 1048576) (ha : at_ ≤ s.size) (hR : at_ + runL larB (s.data.toList.drop at_) = R) :
    Calls Tryd.prog 42 #[.string s, .int .i64 at_, .bool true] w fun e w' => e = .returned (.int .i64 R) ∧ w = w' := by
  have HRR := Lib.hid hR; clear hR
  go_enter Tryd.func42, Tryd.ntmps42
  go_wp2
  go_loop [1] (fun i => ∃ k : Nat, k ≤ s.size ∧ i = .int .i64 k ∧ k + runL larB (s.data.toList.drop k) = R) (fun i => s.size - (intOf i).toNat)
  case atStart => exact ⟨at_, ha, rfl, HRR.out⟩
  case round =>
    obtain ⟨k, hk, rfl, hr⟩ := hrel
    have HR := Lib.hid hr; clear hr
    by_cases hlt : k < s.size
    · have hb := byte_le s[k]
      cases hd : letter s[k].toNat
      · cases hl : large s[k].toNat
        · have HF := Lib.hid (show R = k by rw [← HR.out, run_stopS hlt (by unfold larB lett; rw [hd, hl]; rfl)]; rfl)
          have HD := Lib.hid hd; have HLg := Lib.hid hl; clear hd hl
          go_wp2_with (first | (go_at_call 64; refine (l1Letter_any _ (by omega) (by omega) _).mono ?_; rw [HD.out]; rintro e w' ⟨rfl, rfl⟩) | (go_at_call 43; refine (l5Large_any _ (by omega) (by omega) _).mono ?_; rw [HLg.out]; rintro e w' ⟨rfl, rfl⟩))
          go_ret
          exact ⟨ret_int (by rw [HF.out]), rfl⟩
        · have HF := Lib.hid (show k + 1 + runL larB (s.data.toList.drop (k + 1)) = R by rw [← HR.out, run_stepS hlt (by unfold larB lett; rw [hd, hl]; rfl)]; omega)
          have HD := Lib.hid hd; have HLg := Lib.hid hl; clear hd hl
          go_wp2_with (first | (go_at_call 64; refine (l1Letter_any _ (by omega) (by omega) _).mono ?_; rw [HD.out]; rintro e w' ⟨rfl, rfl⟩) | (go_at_call 43; refine (l5Large_any _ (by omega) (by omega) _).mono ?_; rw [HLg.out]; rintro e w' ⟨rfl, rfl⟩))
          go_round
          case rel => exact ⟨k + 1, by omega, by go_num, HF.out⟩
          case measure => simp [intOf]; omega
      · have HF := Lib.hid (show k + 1 + runL larB (s.data.toList.drop (k + 1)) = R by rw [← HR.out, run_stepS hlt (by unfold larB lett; rw [hd]; rfl)]; omega)
        have HD := Lib.hid hd; clear hd
        go_wp2_with (go_at_call 64; refine (l1Letter_any _ (by omega) (by omega) _).mono ?_; rw [HD.out]; rintro e w' ⟨rfl, rfl⟩)
        go_round
        case rel => exact ⟨k + 1, by omega, by go_num, HF.out⟩
        case measure => simp [intOf]; omega
    · have HF := Lib.hid (show R = k by rw [← HR.out, run_endS (by omega)]; rfl)
      go_wp2
      go_ret
      exact ⟨ret_int (by rw [HF.out]), rfl⟩
theorem l5Quote_any (s : ByteArray) (at_ R : Nat) (w : World) (hs : s.size ≤ 1048576) (ha : at_ ≤ s.size) (hR : at_ + runL noQ (s.data.toList.drop at_) = R) :
    Calls Tryd.prog 44 #[.string s, .int .i64 at_] w fun e w' => e = .returned (.int .i64 R) ∧ w = w' := by
  have HRR := Lib.hid hR; clear hR
  go_enter Tryd.func44, Tryd.ntmps44
  go_wp2
  go_loop [1] (fun i => ∃ k : Nat, k ≤ s.size ∧ i = .int .i64 k ∧ k + runL noQ (s.data.toList.drop k) = R) (fun i => s.size - (intOf i).toNat)
  case atStart => exact ⟨at_, ha, rfl, HRR.out⟩
  case round =>
    obtain ⟨k, hk, rfl, hr⟩ := hrel
    have HR := Lib.hid hr; clear hr
    by_cases hlt : k < s.size
    · have hb := byte_le s[k]
      by_cases hd : s[k] = 39
      · have HF := Lib.hid (show R = k by rw [← HR.out, run_stopS hlt (by unfold noQ; rw [hd]; rfl)]; rfl)
        have hq : ((s[k].toNat : Int) == 39) = true := by rw [hd]; rfl
        clear hd
        go_wp2
        go_ret
        exact ⟨ret_int (by rw [HF.out]), rfl⟩
      · have HF := Lib.hid (show k + 1 + runL noQ (s.data.toList.drop (k + 1)) = R by rw [← HR.out, run_stepS hlt (by unfold noQ; simpa using hd)]; omega)
        have hq : ((s[k].toNat : Int) == 39) = false := by
          rw [beq_eq_false_iff_ne]
          intro e
          exact hd (UInt8.toNat_inj.1 (by show s[k].toNat = 39; omega))
        clear hd
        go_wp2
        go_round
        case rel => exact ⟨k + 1, by omega, by go_num, HF.out⟩
        case measure => simp [intOf]; omega
    · have HF := Lib.hid (show R = k by rw [← HR.out, run_endS (by omega)]; rfl)
      go_wp2
      go_ret
      exact ⟨ret_int (by rw [HF.out]), rfl⟩
end Go.Proofs.YtgcjhicpkmhbaaaDoor
