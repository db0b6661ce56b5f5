import Derived.Test.YtgcjhicpkmhbaaaDoorPkLexP
/- Reading a text as tokens, by the program: how far bytes of a kind run (a call through a function's value). Conditions: lengths. -/
namespace Go.Proofs.YtgcjhicpkmhbaaaDoor
open Go.RowKit
set_option maxRecDepth 100000
set_option maxHeartbeats 4000000
def noNl (c : UInt8) : Bool := c != 10
theorem lexNl_any (c : UInt8) (w : World) :
    Calls Tryd.prog 22 #[.int .u8 (c.toNat : Int)] w fun e w' => e = .returned (.bool (noNl c)) ∧ w = w' := by
  have hb := byte_le c
  have e10 := beq_byte c 10 10 rfl
  have hn : noNl c = !(c == 10) := rfl
  rw [hn, ← e10]
  clear hn e10
  go_enter Tryd.func22, Tryd.ntmps22
  go_wp2
  go_ret
  exact ⟨ret_bool (by first | rfl | (simp; done)), rfl⟩
theorem tokLar_any (c : UInt8) (w : World) :
    Calls Tryd.prog 54 #[.int .u8 (c.toNat : Int)] w fun e w' => e = .returned (.bool (larB c)) ∧ w = w' := by
  have hb := byte_le c
  cases h1 : letter c.toNat <;> cases h2 : large c.toNat
  all_goals
    have HV := Lib.hid (show larB c = _ by unfold larB lett; rw [h1, h2])
    have H1 := Lib.hid h1; have H2 := Lib.hid h2
    clear h1 h2
    go_enter Tryd.func54, Tryd.ntmps54
    go_wp2_with (first | (go_at_call 52; refine (isWordByte_any _ _).mono ?_; rw [H1.out]; rintro e w' ⟨rfl, rfl⟩) | (go_at_call 53; refine (isLarge_any _ _).mono ?_; rw [H2.out]; rintro e w' ⟨rfl, rfl⟩))
    go_ret
    exact ⟨ret_bool (by rw [HV.out]; rfl), rfl⟩
theorem runEndD_any (s : ByteArray) (at_ R : Nat) (w : World) (hs : s.size ≤ 1048576) (ha : at_ ≤ s.size) (hR : at_ + runL digB (s.data.toList.drop at_) = R) :
    Calls Tryd.prog 21 #[.string s, .int .i64 at_, .func (.func 49) #[] #[]] w fun e w' => e = .returned (.int .i64 R) ∧ w = w' := by
  have HRR := Lib.hid hR; clear hR
  go_enter Tryd.func21, Tryd.ntmps21
  go_wp2
  go_loop [1] (fun i => ∃ k : Nat, k ≤ s.size ∧ i = .int .i64 k ∧ k + runL digB (s.data.toList.drop k) = R) (fun i => s.size - (intOf i).toNat)
  case atStart => exact ⟨at_, ha, rfl, HRR.out⟩
  case round =>
    obtain ⟨k, hk, rfl, hr⟩ := hrel
    have HR := Lib.hid hr; clear hr
    by_cases hlt : k < s.size
    · have hb := byte_le s[k]
      cases hd : digB s[k]
      · have HF := Lib.hid (show R = k by rw [← HR.out, run_stopS hlt hd]; rfl)
        have HD := Lib.hid hd; clear hd
        go_wp2_with (go_at_call 49; refine (isDigit_any _ _).mono ?_; rw [show digit (s[k].toNat : Int) = _ from HD.out]; rintro e w' ⟨rfl, rfl⟩)
        go_ret
        exact ⟨ret_int (by rw [HF.out]), rfl⟩
      · have HF := Lib.hid (show k + 1 + runL digB (s.data.toList.drop (k + 1)) = R by rw [← HR.out, run_stepS hlt hd]; omega)
        have HD := Lib.hid hd; clear hd
        go_wp2_with (go_at_call 49; refine (isDigit_any _ _).mono ?_; rw [show digit (s[k].toNat : Int) = _ from HD.out]; rintro e w' ⟨rfl, rfl⟩)
        go_round
        case rel => exact ⟨k + 1, by omega, by go_num, HF.out⟩
        case measure => simp [intOf]; omega
    · have HF := Lib.hid (show R = k by rw [← HR.out, run_endS (by omega)]; rfl)
      go_wp2
      go_ret
      exact ⟨ret_int (by rw [HF.out]), rfl⟩
theorem runEndW_any (s : ByteArray) (at_ R : Nat) (w : World) (hs : s.size ≤ 1048576) (ha : at_ ≤ s.size) (hR : at_ + runL lett (s.data.toList.drop at_) = R) :
    Calls Tryd.prog 21 #[.string s, .int .i64 at_, .func (.func 52) #[] #[]] w fun e w' => e = .returned (.int .i64 R) ∧ w = w' := by
  have HRR := Lib.hid hR; clear hR
  go_enter Tryd.func21, Tryd.ntmps21
  go_wp2
  go_loop [1] (fun i => ∃ k : Nat, k ≤ s.size ∧ i = .int .i64 k ∧ k + runL lett (s.data.toList.drop k) = R) (fun i => s.size - (intOf i).toNat)
  case atStart => exact ⟨at_, ha, rfl, HRR.out⟩
  case round =>
    obtain ⟨k, hk, rfl, hr⟩ := hrel
    have HR := Lib.hid hr; clear hr
    by_cases hlt : k < s.size
    · have hb := byte_le s[k]
      cases hd : lett s[k]
      · have HF := Lib.hid (show R = k by rw [← HR.out, run_stopS hlt hd]; rfl)
        have HD := Lib.hid hd; clear hd
        go_wp2_with (go_at_call 52; refine (isWordByte_any _ _).mono ?_; rw [show letter (s[k].toNat : Int) = _ from HD.out]; rintro e w' ⟨rfl, rfl⟩)
        go_ret
        exact ⟨ret_int (by rw [HF.out]), rfl⟩
      · have HF := Lib.hid (show k + 1 + runL lett (s.data.toList.drop (k + 1)) = R by rw [← HR.out, run_stepS hlt hd]; omega)
        have HD := Lib.hid hd; clear hd
        go_wp2_with (go_at_call 52; refine (isWordByte_any _ _).mono ?_; rw [show letter (s[k].toNat : Int) = _ from HD.out]; rintro e w' ⟨rfl, rfl⟩)
        go_round
        case rel => exact ⟨k + 1, by omega, by go_num, HF.out⟩
        case measure => simp [intOf]; omega
    · have HF := Lib.hid (show R = k by rw [← HR.out, run_endS (by omega)]; rfl)
      go_wp2
      go_ret
      exact ⟨ret_int (by rw [HF.out]), rfl⟩
theorem runEndL_any (s : ByteArray) (at_ R : Nat) (w : World) (hs : s.size ≤ 1048576) (ha : at_ ≤ s.size) (hR : at_ + runL larB (s.data.toList.drop at_) = R) :
    Calls Tryd.prog 21 #[.string s, .int .i64 at_, .func (.func 54) #[] #[]] w fun e w' => e = .returned (.int .i64 R) ∧ w = w' := by
  have HRR := Lib.hid hR; clear hR
  go_enter Tryd.func21, Tryd.ntmps21
  go_wp2
  go_loop [1] (fun i => ∃ k : Nat, k ≤ s.size ∧ i = .int .i64 k ∧ k + runL larB (s.data.toList.drop k) = R) (fun i => s.size - (intOf i).toNat)
  case atStart => exact ⟨at_, ha, rfl, HRR.out⟩
  case round =>
    obtain ⟨k, hk, rfl, hr⟩ := hrel
    have HR := Lib.hid hr; clear hr
    by_cases hlt : k < s.size
    · have hb := byte_le s[k]
      cases hd : larB s[k]
      · have HF := Lib.hid (show R = k by rw [← HR.out, run_stopS hlt hd]; rfl)
        have HD := Lib.hid hd; clear hd
        go_wp2_with (go_at_call 54; refine (tokLar_any s[k] _).mono ?_; rw [HD.out]; rintro e w' ⟨rfl, rfl⟩)
        go_ret
        exact ⟨ret_int (by rw [HF.out]), rfl⟩
      · have HF := Lib.hid (show k + 1 + runL larB (s.data.toList.drop (k + 1)) = R by rw [← HR.out, run_stepS hlt hd]; omega)
        have HD := Lib.hid hd; clear hd
        go_wp2_with (go_at_call 54; refine (tokLar_any s[k] _).mono ?_; rw [HD.out]; rintro e w' ⟨rfl, rfl⟩)
        go_round
        case rel => exact ⟨k + 1, by omega, by go_num, HF.out⟩
        case measure => simp [intOf]; omega
    · have HF := Lib.hid (show R = k by rw [← HR.out, run_endS (by omega)]; rfl)
      go_wp2
      go_ret
      exact ⟨ret_int (by rw [HF.out]), rfl⟩
theorem runEndN_any (s : ByteArray) (at_ R : Nat) (w : World) (hs : s.size ≤ 1048576) (ha : at_ ≤ s.size) (hR : at_ + runL noNl (s.data.toList.drop at_) = R) :
    Calls Tryd.prog 21 #[.string s, .int .i64 at_, .func (.func 22) #[] #[]] w fun e w' => e = .returned (.int .i64 R) ∧ w = w' := by
  have HRR := Lib.hid hR; clear hR
  go_enter Tryd.func21, Tryd.ntmps21
  go_wp2
  go_loop [1] (fun i => ∃ k : Nat, k ≤ s.size ∧ i = .int .i64 k ∧ k + runL noNl (s.data.toList.drop k) = R) (fun i => s.size - (intOf i).toNat)
  case atStart => exact ⟨at_, ha, rfl, HRR.out⟩
  case round =>
    obtain ⟨k, hk, rfl, hr⟩ := hrel
    have HR := Lib.hid hr; clear hr
    by_cases hlt : k < s.size
    · have hb := byte_le s[k]
      cases hd : noNl s[k]
      · have HF := Lib.hid (show R = k by rw [← HR.out, run_stopS hlt hd]; rfl)
        have HD := Lib.hid hd; clear hd
        go_wp2_with (go_at_call 22; refine (lexNl_any s[k] _).mono ?_; rw [HD.out]; rintro e w' ⟨rfl, rfl⟩)
        go_ret
        exact ⟨ret_int (by rw [HF.out]), rfl⟩
      · have HF := Lib.hid (show k + 1 + runL noNl (s.data.toList.drop (k + 1)) = R by rw [← HR.out, run_stepS hlt hd]; omega)
        have HD := Lib.hid hd; clear hd
        go_wp2_with (go_at_call 22; refine (lexNl_any s[k] _).mono ?_; rw [HD.out]; rintro e w' ⟨rfl, rfl⟩)
        go_round
        case rel => exact ⟨k + 1, by omega, by go_num, HF.out⟩
        case measure => simp [intOf]; omega
    · have HF := Lib.hid (show R = k by rw [← HR.out, run_endS (by omega)]; rfl)
      go_wp2
      go_ret
      exact ⟨ret_int (by rw [HF.out]), rfl⟩
end Go.Proofs.YtgcjhicpkmhbaaaDoor
