/- The reference's reading of a whole number. Condition: the text's length. -/
import Derived.Test.YtgcjhicpkmhbaaaDoorName
import Derived.Test.YtgcjhicpkmhbaaaDoorPlainParse
namespace Go.Proofs.YtgcjhicpkmhbaaaDoor
open Go.RowKit
set_option maxRecDepth 100000
set_option maxHeartbeats 4000000
theorem head_get (s : ByteArray) (h : 0 < s.size) : s.data.toList.head? = some s[0] := by
  rcases s with ⟨⟨l⟩⟩
  cases l with
  | nil => exact absurd h (by simp [ByteArray.size])
  | cons a t => rfl
theorem l2Whole_any (s : ByteArray) (w : World) (hs : s.size ≤ 9223372036854775807) :
    Calls Tryd.prog 41 #[.string s] w fun e w' => e = .returned (.int .i64 (wholeT s.data.toList)) ∧ w = w' := by
  by_cases hsz : 1 ≤ s.size ∧ s.size ≤ 10
  case neg =>
    have HV := Lib.hid (show wholeT s.data.toList = -1 by unfold wholeT; rw [size_data, if_neg (fun h => hsz h.1)])
    have HB := Lib.hid (show inB (s.size : Int) 1 10 = false by
      unfold inB
      rw [Bool.and_eq_false_iff, decide_eq_false_iff_not, decide_eq_false_iff_not]
      omega)
    clear hsz
    go_enter Tryd.func41, Tryd.ntmps41
    go_wp2_with (go_at_call 39; refine (l1In_any _ _ _ _).mono ?_; rw [HB.out]; rintro e w' ⟨rfl, rfl⟩)
    go_ret
    exact ⟨ret_int HV.out.symm, rfl⟩
  have h0 : 0 < s.size := by omega
  have HB := Lib.hid (show inB (s.size : Int) 1 10 = true by
    unfold inB
    rw [Bool.and_eq_true, decide_eq_true_eq, decide_eq_true_eq]
    omega)
  have hh := head_get s h0
  by_cases hz : 1 < s.size ∧ s[0] = 48
  · have HV := Lib.hid (show wholeT s.data.toList = -1 by unfold wholeT; rw [size_data, hh, if_neg (fun h => h.2 ⟨hz.1, by rw [hz.2]⟩)])
    have h1 : (1:Int) < (s.size : Int) := by omega
    have hq : ((s[0].toNat : Int) == 48) = true := by rw [hz.2]; rfl
    clear hh
    obtain ⟨_, _⟩ := hz
    go_enter Tryd.func41, Tryd.ntmps41
    go_wp2_with (go_at_call 39; refine (l1In_any _ _ _ _).mono ?_; rw [HB.out]; rintro e w' ⟨rfl, rfl⟩)
    go_ret
    exact ⟨ret_int HV.out.symm, rfl⟩
  have HOK := Lib.hid (show wholeT s.data.toList = (match Lib.decFrom 0 s.data.toList with | some m => (m : Int) | none => -1) by
    unfold wholeT
    rw [size_data, hh, if_pos ⟨hsz, fun h => hz ⟨h.1, by have := h.2; injection this⟩⟩]
    cases Lib.decFrom 0 s.data.toList <;> rfl)
  have hs10 : s.size ≤ 10 := hsz.2
  clear hh
  have body : ∀ (h1 : (¬ (1:Int) < (s.size : Int)) ∨ ((1:Int) < (s.size : Int) ∧ ((s[0].toNat : Int) == 48) = false)), Calls Tryd.prog 41 #[.string s] w fun e w' => e = .returned (.int .i64 (wholeT s.data.toList)) ∧ w = w' := by
    intro h1
    clear hz hsz
    rcases h1 with h1 | ⟨h1, hq⟩
    all_goals
      go_enter Tryd.func41, Tryd.ntmps41
      go_wp2_with (go_at_call 39; refine (l1In_any _ _ _ _).mono ?_; rw [HB.out]; rintro e w' ⟨rfl, rfl⟩)
      go_loop [3, 4] (fun u i => ∃ k m : Nat, k ≤ s.size ∧ i = .int .i64 k ∧ u = .int .i64 m ∧ Lib.decFrom 0 (s.data.toList.take k) = some m ∧ m < 10 ^ k) (fun _ i => s.size - (intOf i).toNat)
      case atStart => exact ⟨0, 0, Nat.zero_le _, rfl, rfl, rfl, by decide⟩
      case round =>
        obtain ⟨k, m, hk, rfl, rfl, hd, hm⟩ := hrel
        have HD := Lib.hid hd; clear hd
        have HM := Lib.hid hm
        have hm10 : m < 10000000000 := Nat.lt_of_lt_of_le hm (Nat.pow_le_pow_right (n := 10) (by decide) (show k ≤ 10 by omega))
        clear hm
        by_cases hlt : k < s.size
        · have hb := byte_le s[k]
          have HT := Lib.hid (take_snoc s k hlt)
          cases hdv : Lib.digitVal s[k] with
          | none =>
            have hr := Lib.digitVal_none hdv
            have HBB := Lib.hid (show inB (s[k].toNat : Int) 48 57 = false by
              unfold inB
              rw [Bool.and_eq_false_iff, decide_eq_false_iff_not, decide_eq_false_iff_not]
              omega)
            have hnone : Lib.decFrom 0 s.data.toList = none := by
              rw [← List.take_append_drop (k + 1) s.data.toList, decFrom_app, HT.out, decFrom_snoc, HD.out, hdv]
              rfl
            have HN := Lib.hid (show wholeT s.data.toList = -1 by rw [HOK.out, hnone])
            clear hnone hdv hr
            go_wp2_with (go_at_call 39; refine (l1In_any _ _ _ _).mono ?_; rw [HBB.out]; rintro e w' ⟨rfl, rfl⟩)
            go_ret
            exact ⟨ret_int HN.out.symm, rfl⟩
          | some d =>
            obtain ⟨hd9, hbv⟩ := digitVal_of hdv
            have hbn : s[k].toNat = 48 + d := by rw [hbv, UInt8.toNat_ofNat']; omega
            have HBN := Lib.hid hbn
            have hb1 : 48 ≤ s[k].toNat := by omega
            have hb2 : s[k].toNat ≤ 57 := by omega
            have HBB := Lib.hid (show inB (s[k].toNat : Int) 48 57 = true by
              unfold inB
              rw [Bool.and_eq_true, decide_eq_true_eq, decide_eq_true_eq]
              omega)
            have HN := Lib.hid (show Lib.decFrom 0 (s.data.toList.take (k + 1)) = some (m * 10 + d) by rw [HT.out, decFrom_snoc, HD.out, hdv]; rfl)
            clear hbv hbn hdv
            go_wp2_with (go_at_call 39; refine (l1In_any _ _ _ _).mono ?_; rw [HBB.out]; rintro e w' ⟨rfl, rfl⟩)
            go_round
            case rel => exact ⟨k + 1, m * 10 + d, by omega, by go_num, by have := HBN.out; go_num, HN.out, by have := HM.out; rw [Nat.pow_succ]; omega⟩
            case measure => simp [intOf]; omega
        · have hfin : wholeT s.data.toList = (m : Int) := by
            rw [HOK.out]
            have := HD.out
            rw [List.take_of_length_le (by rw [size_data]; omega)] at this
            rw [this]
          have HF := Lib.hid hfin; clear hfin
          go_wp2
          go_ret
          exact ⟨ret_int HF.out.symm, rfl⟩
  by_cases h1 : 1 < s.size
  · refine body (Or.inr ⟨by omega, ?_⟩)
    rw [beq_eq_false_iff_ne]
    intro e
    apply hz
    refine ⟨h1, ?_⟩
    have e2 : s[0].toNat = 48 := by omega
    exact UInt8.toNat_inj.1 e2
  · exact body (Or.inl (by omega))
end Go.Proofs.YtgcjhicpkmhbaaaDoor
