/- TokenOk of the program and of the reference. Each answers what the plain function says and makes at most new blocks. No condition but the text's length. -/
import Derived.Test.YtgcjhicpkmhbaaaDoorVar
import Derived.Test.YtgcjhicpkmhbaaaDoorVal
namespace Go.Proofs.YtgcjhicpkmhbaaaDoor
open Go.RowKit
set_option maxRecDepth 100000
set_option maxHeartbeats 2000000

def marks1 : List (List UInt8) := [[40], [41], [44], [46], [58], [45], [43], [61], [35], [60], [33], [95]]
def markOk (s : ByteArray) : Bool := s.toList == [45, 62] || marks1.any (fun m => s.toList == m)
def tokenOk (t : Vl) : Bool :=
  if t.k = 1 then inB t.n 0 1000000000 && decide (t.s.size = 0)
  else if t.k = 2 then decide (t.n = 0) && nameOk t.s
  else if t.k = 3 then decide (t.n = 0) && varOk t.s
  else if t.k = 4 then decide (t.n = 0) && word t.s 20
  else if t.k = 5 then decide (t.n = 0) && markOk t.s
  else false
theorem isMark_any (s : ByteArray) (w : World) : Calls Tryd.prog 33 #[.string s] w fun e w' => e = .returned (.bool (markOk s)) ∧ w = w' := by
  go_enter Tryd.func33, Tryd.ntmps33
  go_wp2
  all_goals
    go_ret
    refine ⟨ret_bool ?_, rfl⟩
    simp_all [markOk, marks1]
theorem implTokenOk_any (k n : Int) (s : ByteArray) (w : World) (hs : s.size ≤ 9223372036854775807) :
    Calls Tryd.prog 14 #[.agg #[.int .i64 k, .int .i64 n, .string s]] w fun e w' => e = .returned (.bool (tokenOk ⟨k, n, s⟩)) ∧ Below w.heap.size w w' := by
  go_enter Tryd.func14, Tryd.ntmps14
  go_wp2_with (first | (go_at_call 29; refine (inRange_any _ _ _ _).mono ?_; rintro e w' ⟨rfl, rfl⟩) | (go_at_call 32; refine (isWord_any _ _ _ hs).mono ?_; rintro e w' ⟨rfl, rfl⟩) | (go_at_call 30; refine (implNameOk_any _ _ hs).mono ?_; rintro e w' ⟨rfl, rfl⟩) | (go_at_call 31; refine (isVar_any _ _ hs).mono ?_; rintro e w' ⟨rfl, rfl⟩) | (go_at_call 33; refine (isMark_any _ _).mono ?_; rintro e w' ⟨rfl, rfl⟩))
  all_goals
    go_ret
    refine ⟨ret_bool ?_, by repeat (first | exact bel_refl _ | refine bel_alloc ?_ _ | refine bel_drew ?_)⟩
    simp_all [tokenOk, isEmpty_iff]
    try rfl
theorem l5MarkOk_any (s : ByteArray) (w : World) : Calls Tryd.prog 45 #[.string s] w fun e w' => e = .returned (.bool (markOk s)) ∧ w = w' := by
  go_enter Tryd.func45, Tryd.ntmps45
  go_wp2
  · go_ret
    exact ⟨ret_bool (by simp_all [markOk]), rfl⟩
  · go_loop [3] (fun i => ∃ k : Nat, k ≤ 12 ∧ i = .int .i64 k ∧ ((marks1.take k).any fun m => s.toList == m) = false) (fun i => 12 - (intOf i).toNat)
    case atStart => exact ⟨0, Nat.zero_le _, rfl, rfl⟩
    case round =>
      obtain ⟨k, hk, rfl, ha⟩ := hrel
      have HA := Lib.hid ha; clear ha
      by_cases hlt : k < 12
      · obtain rfl | rfl | rfl | rfl | rfl | rfl | rfl | rfl | rfl | rfl | rfl | rfl : k = 0 ∨ k = 1 ∨ k = 2 ∨ k = 3 ∨ k = 4 ∨ k = 5 ∨ k = 6 ∨ k = 7 ∨ k = 8 ∨ k = 9 ∨ k = 10 ∨ k = 11 := by omega
        · have q : ((⟨#[40, 41, 44, 46, 58, 45, 43, 61, 35, 60, 33, 95]⟩ : ByteArray).extract 0 1).toList = [40] := by kernel_rfl
          go_wp2
          case roundEnd =>
            go_round
            case rel =>
              refine ⟨1, by omega, rfl, ?_⟩
              have := HA.out
              simp_all [marks1]
            case measure => simp [intOf]
          all_goals
            go_ret
            exact ⟨ret_bool (by simp_all [markOk, marks1]), rfl⟩
        · have q : ((⟨#[40, 41, 44, 46, 58, 45, 43, 61, 35, 60, 33, 95]⟩ : ByteArray).extract 1 2).toList = [41] := by kernel_rfl
          go_wp2
          case roundEnd =>
            go_round
            case rel =>
              refine ⟨2, by omega, rfl, ?_⟩
              have := HA.out
              simp_all [marks1]
            case measure => simp [intOf]
          all_goals
            go_ret
            exact ⟨ret_bool (by simp_all [markOk, marks1]), rfl⟩
        · have q : ((⟨#[40, 41, 44, 46, 58, 45, 43, 61, 35, 60, 33, 95]⟩ : ByteArray).extract 2 3).toList = [44] := by kernel_rfl
          go_wp2
          case roundEnd =>
            go_round
            case rel =>
              refine ⟨3, by omega, rfl, ?_⟩
              have := HA.out
              simp_all [marks1]
            case measure => simp [intOf]
          all_goals
            go_ret
            exact ⟨ret_bool (by simp_all [markOk, marks1]), rfl⟩
        · have q : ((⟨#[40, 41, 44, 46, 58, 45, 43, 61, 35, 60, 33, 95]⟩ : ByteArray).extract 3 4).toList = [46] := by kernel_rfl
          go_wp2
          case roundEnd =>
            go_round
            case rel =>
              refine ⟨4, by omega, rfl, ?_⟩
              have := HA.out
              simp_all [marks1]
            case measure => simp [intOf]
          all_goals
            go_ret
            exact ⟨ret_bool (by simp_all [markOk, marks1]), rfl⟩
        · have q : ((⟨#[40, 41, 44, 46, 58, 45, 43, 61, 35, 60, 33, 95]⟩ : ByteArray).extract 4 5).toList = [58] := by kernel_rfl
          go_wp2
          case roundEnd =>
            go_round
            case rel =>
              refine ⟨5, by omega, rfl, ?_⟩
              have := HA.out
              simp_all [marks1]
            case measure => simp [intOf]
          all_goals
            go_ret
            exact ⟨ret_bool (by simp_all [markOk, marks1]), rfl⟩
        · have q : ((⟨#[40, 41, 44, 46, 58, 45, 43, 61, 35, 60, 33, 95]⟩ : ByteArray).extract 5 6).toList = [45] := by kernel_rfl
          go_wp2
          case roundEnd =>
            go_round
            case rel =>
              refine ⟨6, by omega, rfl, ?_⟩
              have := HA.out
              simp_all [marks1]
            case measure => simp [intOf]
          all_goals
            go_ret
            exact ⟨ret_bool (by simp_all [markOk, marks1]), rfl⟩
        · have q : ((⟨#[40, 41, 44, 46, 58, 45, 43, 61, 35, 60, 33, 95]⟩ : ByteArray).extract 6 7).toList = [43] := by kernel_rfl
          go_wp2
          case roundEnd =>
            go_round
            case rel =>
              refine ⟨7, by omega, rfl, ?_⟩
              have := HA.out
              simp_all [marks1]
            case measure => simp [intOf]
          all_goals
            go_ret
            exact ⟨ret_bool (by simp_all [markOk, marks1]), rfl⟩
        · have q : ((⟨#[40, 41, 44, 46, 58, 45, 43, 61, 35, 60, 33, 95]⟩ : ByteArray).extract 7 8).toList = [61] := by kernel_rfl
          go_wp2
          case roundEnd =>
            go_round
            case rel =>
              refine ⟨8, by omega, rfl, ?_⟩
              have := HA.out
              simp_all [marks1]
            case measure => simp [intOf]
          all_goals
            go_ret
            exact ⟨ret_bool (by simp_all [markOk, marks1]), rfl⟩
        · have q : ((⟨#[40, 41, 44, 46, 58, 45, 43, 61, 35, 60, 33, 95]⟩ : ByteArray).extract 8 9).toList = [35] := by kernel_rfl
          go_wp2
          case roundEnd =>
            go_round
            case rel =>
              refine ⟨9, by omega, rfl, ?_⟩
              have := HA.out
              simp_all [marks1]
            case measure => simp [intOf]
          all_goals
            go_ret
            exact ⟨ret_bool (by simp_all [markOk, marks1]), rfl⟩
        · have q : ((⟨#[40, 41, 44, 46, 58, 45, 43, 61, 35, 60, 33, 95]⟩ : ByteArray).extract 9 10).toList = [60] := by kernel_rfl
          go_wp2
          case roundEnd =>
            go_round
            case rel =>
              refine ⟨10, by omega, rfl, ?_⟩
              have := HA.out
              simp_all [marks1]
            case measure => simp [intOf]
          all_goals
            go_ret
            exact ⟨ret_bool (by simp_all [markOk, marks1]), rfl⟩
        · have q : ((⟨#[40, 41, 44, 46, 58, 45, 43, 61, 35, 60, 33, 95]⟩ : ByteArray).extract 10 11).toList = [33] := by kernel_rfl
          go_wp2
          case roundEnd =>
            go_round
            case rel =>
              refine ⟨11, by omega, rfl, ?_⟩
              have := HA.out
              simp_all [marks1]
            case measure => simp [intOf]
          all_goals
            go_ret
            exact ⟨ret_bool (by simp_all [markOk, marks1]), rfl⟩
        · have q : ((⟨#[40, 41, 44, 46, 58, 45, 43, 61, 35, 60, 33, 95]⟩ : ByteArray).extract 11 12).toList = [95] := by kernel_rfl
          go_wp2
          case roundEnd =>
            go_round
            case rel =>
              refine ⟨12, by omega, rfl, ?_⟩
              have := HA.out
              simp_all [marks1]
            case measure => simp [intOf]
          all_goals
            go_ret
            exact ⟨ret_bool (by simp_all [markOk, marks1]), rfl⟩
      · obtain rfl : k = 12 := by omega
        go_wp2
        go_ret
        refine ⟨ret_bool ?_, rfl⟩
        have := HA.out
        simp_all [markOk, marks1]
theorem specTokenOk_any (k n : Int) (s : ByteArray) (w : World) (hs : s.size ≤ 9223372036854775807) :
    Calls Tryd.prog 20 #[.agg #[.int .i64 k, .int .i64 n, .string s]] w fun e w' => e = .returned (.bool (tokenOk ⟨k, n, s⟩)) ∧ Below w.heap.size w w' := by
  go_enter Tryd.func20, Tryd.ntmps20
  go_wp2_with (first | (go_at_call 39; refine (l1In_any _ _ _ _).mono ?_; rintro e w' ⟨rfl, rfl⟩) | (go_at_call 48; refine (l2Plain_any _ _ hs).mono ?_; rintro e w' ⟨rfl, rfl⟩) | (go_at_call 46; refine (specNameOk_any _ _ hs).mono ?_; rintro e w' ⟨rfl, rfl⟩) | (go_at_call 47; refine (l5VarOk_any _ _ hs).mono ?_; rintro e w' ⟨rfl, rfl⟩) | (go_at_call 45; refine (l5MarkOk_any _ _).mono ?_; rintro e w' ⟨rfl, rfl⟩))
  all_goals
    go_ret
    refine ⟨ret_bool ?_, by repeat (first | exact bel_refl _ | refine bel_alloc ?_ _ | refine bel_drew ?_)⟩
    simp_all [tokenOk, isEmpty_iff]
    try rfl
end Go.Proofs.YtgcjhicpkmhbaaaDoor
