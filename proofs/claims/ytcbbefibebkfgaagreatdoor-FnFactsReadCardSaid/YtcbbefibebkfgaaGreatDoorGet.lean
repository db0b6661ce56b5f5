/- GetNum, GetText of the program and of the reference: each answers what the plain function says. No condition but lengths. -/
import Derived.Test.YtcbbefibebkfgaaGreatDoorName
namespace Go.Proofs.YtcbbefibebkfgaaGreatDoor
open Go.RowKit
set_option maxRecDepth 100000
set_option maxHeartbeats 2000000

/-- the number that m stands for -/
def dec (m : Nat) : Int := if m % 2 = 1 then -((m / 2 : Nat) : Int) - 1 else ((m / 2 : Nat) : Int)
def gnum (bs : List UInt8) (a : Nat) : Nat → Nat → Nat → Int × Int × Bool
  | 0, _, _ => (0, 0, false)
  | f + 1, k, u =>
    if h : a + k < bs.length then
      if 128 ≤ bs[a + k].toNat then gnum bs a f (k + 1) (u + bs[a + k].toNat % 128 * 128 ^ k)
      else if (bs[a + k].toNat = 0 ∧ 0 < k) ∨ dec (u + bs[a + k].toNat % 128 * 128 ^ k) < -1000000000 ∨ 1000000000 < dec (u + bs[a + k].toNat % 128 * 128 ^ k) then (0, 0, false)
      else (dec (u + bs[a + k].toNat % 128 * 128 ^ k), ((a + k + 1 : Nat) : Int), true)
    else (0, 0, false)
def getNum (bs : List UInt8) (at_ : Int) : Int × Int × Bool := if at_ < 0 then (0, 0, false) else gnum bs at_.toNat 5 0 0
def tup3 (r : Int × Int × Bool) : Value := .tuple #[.int .i64 r.1, .int .i64 r.2.1, .bool r.2.2]

theorem or_step (u x k : Nat) (hu : u < 128 ^ k) (hx : x ≤ 255) (hk : k < 5) :
    bits BinOp.or IntKind.i64 (u : Int) (wrap64 (bits BinOp.and IntKind.i64 (x : Int) 127 * 2 ^ (7 * k))) = ((u + x % 128 * 128 ^ k : Nat) : Int) := by
  have ha : bits BinOp.and IntKind.i64 (x : Int) 127 = ((x % 128 : Nat) : Int) := by
    have h := i64_and_nat x 127 (by omega) (by omega)
    have h2 : x &&& 127 = x % 128 := Nat.and_two_pow_sub_one_eq_mod x 7
    rw [h2] at h
    exact h
  have hp : (2 : Int) ^ (7 * k) = ((128 ^ k : Nat) : Int) := by
    rw [Int.pow_mul]
    simp
  have hb : 128 ^ k ≤ 128 ^ 4 := Nat.pow_le_pow_right (by omega) (by omega)
  have hb2 : x % 128 * 128 ^ k ≤ 127 * 128 ^ 4 := Nat.mul_le_mul (by omega) hb
  rw [ha, hp, ← Int.natCast_mul]
  have hw : wrap64 ((x % 128 * 128 ^ k : Nat) : Int) = ((x % 128 * 128 ^ k : Nat) : Int) := IntWalk.wrap64_in _ (by omega)
  rw [hw, i64_or_nat _ _ (by omega) (by omega)]
  congr 1
  have h2 : 128 ^ k = 2 ^ (7 * k) := by rw [Nat.pow_mul]
  rw [Nat.or_comm, Nat.mul_comm (x % 128), h2, ← Nat.two_pow_add_eq_or_of_lt (h2 ▸ hu), Nat.add_comm]
theorem and_one (m : Nat) (hm : m < 9223372036854775808) : bits BinOp.and IntKind.i64 (m : Int) 1 = ((m % 2 : Nat) : Int) := by
  have h := i64_and_nat m 1 hm (by omega)
  have h2 : m &&& 1 = m % 2 := Nat.and_two_pow_sub_one_eq_mod m 1
  rw [h2] at h
  exact h
theorem step_lt (u x k : Nat) (hu : u < 128 ^ k) : u + x % 128 * 128 ^ k < 128 ^ (k + 1) := by
  rw [Nat.pow_succ]
  have : x % 128 * 128 ^ k ≤ 127 * 128 ^ k := Nat.mul_le_mul_right _ (by omega)
  omega
theorem pow_le (k : Nat) (h : k ≤ 5) : 128 ^ k ≤ 34359738368 := Nat.pow_le_pow_right (n := 128) (by omega) h

theorem implGetNum_any (A : Option Addr) (n c : Nat) (at_ : Int) (bs : List UInt8) (w : World) (B : Nat) (hr : RdB w B A n bs) (hn : n ≤ 4611686018427387904) :
    Calls Tryz.prog 31 #[.slice A n c, .int .i64 at_] w fun e w' => e = .returned (tup3 (getNum bs at_)) ∧ w = w' := by
  by_cases h0 : at_ < 0
  · go_enter Tryz.func31, Tryz.ntmps31
    go_wp2
    go_ret3
    exact ⟨by simp [getNum, h0, tup3], rfl⟩
  have hl := hr.len
  obtain ⟨a, rfl⟩ := Int.eq_ofNat_of_zero_le (by omega : 0 ≤ at_)
  have hg0 : getNum bs (a : Int) = gnum bs a 5 0 0 := by simp [getNum]; omega
  have HG := Lib.hid hg0; clear hg0
  have HL := Lib.hid hl; clear hl
  have hd : decide ((a : Int) < 0) = false := by simp
  clear h0
  go_enter Tryz.func31, Tryz.ntmps31
  go_wp2
  go_loop [7, 8] (fun u i => ∃ k uu : Nat, k ≤ 5 ∧ i = .int .i64 k ∧ u = .int .i64 uu ∧ uu < 128 ^ k ∧ gnum bs a 5 0 0 = gnum bs a (5 - k) k uu) (fun _ i => 5 - (intOf i).toNat)
  case atStart => exact ⟨0, 0, by omega, rfl, rfl, by simp, rfl⟩
  case round =>
    obtain ⟨k, u, hk, rfl, rfl, hu, hg⟩ := hrel
    have HU := Lib.hid hu; clear hu
    have HK := Lib.hid hg; clear hg
    by_cases hk5 : k < 5
    · by_cases hlt : a + k < n
      · obtain ⟨b, o, rfl, hb, hc⟩ := hr.at_ (by omega)
        obtain ⟨x, hx, hxb, hxe⟩ : ∃ x : Nat, w.cell? ⟨b, o + (a + k), none⟩ = some (.int .u8 (x : Int)) ∧ x ≤ 255 ∧ (bs[a + k]'(by rw [HL.out]; exact hlt)).toNat = x := ⟨_, hc (a + k) (by rw [HL.out]; exact hlt), byte_le _, rfl⟩
        have HX := Lib.hid hxe; clear hxe hc
        obtain ⟨m, hor, hm, hme⟩ : ∃ m : Nat, bits BinOp.or IntKind.i64 (u : Int) (wrap64 (bits BinOp.and IntKind.i64 (x : Int) 127 * 2 ^ (7 * k))) = (m : Int) ∧ m < 34359738368 ∧ u + x % 128 * 128 ^ k = m :=
          ⟨_, or_step u x k HU.out hxb hk5, Nat.lt_of_lt_of_le (step_lt u x k HU.out) (pow_le (k + 1) (by omega)), rfl⟩
        have HM := Lib.hid hme; clear hme
        have hstep : gnum bs a (5 - k) k u = if 128 ≤ x then gnum bs a (4 - k) (k + 1) m else if (x = 0 ∧ 0 < k) ∨ dec m < -1000000000 ∨ 1000000000 < dec m then (0, 0, false) else (dec m, ((a + k + 1 : Nat) : Int), true) := by
          rw [show 5 - k = (4 - k) + 1 by omega, gnum, dif_pos (by rw [HL.out]; exact hlt), HX.out, HM.out]
        have HS := Lib.hid hstep; clear hstep
        by_cases hx8 : 128 ≤ x
        · go_wp2
          go_round
          case rel => exact ⟨k + 1, m, by omega, by go_num, rfl, by rw [← HM.out]; exact step_lt u x k HU.out, by rw [HK.out, HS.out, if_pos hx8, show 5 - (k + 1) = 4 - k by omega]⟩
          case measure => simp [intOf]; omega
        · by_cases hodd : m % 2 = 1
          · have hod : ((m : Int) % 2 == 1) = true := by simp; omega
            have hdec : dec m = -((m / 2 : Nat) : Int) - 1 := by simp [dec, hodd]
            have HD := Lib.hid hdec; clear hdec
            go_wp2
            all_goals
              go_ret3
              refine ⟨?_, rfl⟩
              rw [HG.out, HK.out, HS.out, if_neg hx8, HD.out]
              first | (rw [if_pos (by omega)]; simp [tup3]; done) | (rw [if_neg (by omega)]; simp [tup3]; try omega)
          · have hod : ((m : Int) % 2 == 1) = false := by simp; omega
            have hdec : dec m = ((m / 2 : Nat) : Int) := by simp [dec, hodd]
            have HD := Lib.hid hdec; clear hdec
            go_wp2
            all_goals
              go_ret3
              refine ⟨?_, rfl⟩
              rw [HG.out, HK.out, HS.out, if_neg hx8, HD.out]
              first | (rw [if_pos (by omega)]; simp [tup3]; done) | (rw [if_neg (by omega)]; simp [tup3]; try omega)
      · have hend : gnum bs a (5 - k) k u = (0, 0, false) := by
          rw [show 5 - k = (4 - k) + 1 by omega, gnum, dif_neg (by rw [HL.out]; exact hlt)]
        have HE := Lib.hid hend; clear hend
        go_wp2
        go_ret3
        refine ⟨?_, rfl⟩
        rw [HG.out, HK.out, HE.out]
        simp [tup3]
    · have hend : gnum bs a (5 - k) k u = (0, 0, false) := by
        rw [show 5 - k = 0 by omega, gnum]
      have HE := Lib.hid hend; clear hend
      go_wp2
      go_ret3
      refine ⟨?_, rfl⟩
      rw [HG.out, HK.out, HE.out]
      simp [tup3]
theorem specGetNum_any (A : Option Addr) (n c : Nat) (at_ : Int) (bs : List UInt8) (w : World) (B : Nat) (hr : RdB w B A n bs) (hn : n ≤ 4611686018427387904) :
    Calls Tryz.prog 76 #[.slice A n c, .int .i64 at_] w fun e w' => e = .returned (tup3 (getNum bs at_)) ∧ w = w' := by
  by_cases h0 : at_ < 0
  · go_enter Tryz.func76, Tryz.ntmps76
    go_wp2
    go_loop [7, 8] (fun u i => u = .int .i64 0 ∧ i = .int .i64 0) (fun _ i => 5 - (intOf i).toNat)
    case atStart => exact ⟨rfl, rfl⟩
    case round =>
      obtain ⟨rfl, rfl⟩ := hrel
      go_wp2
      go_ret3
      exact ⟨by simp [getNum, h0, tup3], rfl⟩
  have hl := hr.len
  obtain ⟨a, rfl⟩ := Int.eq_ofNat_of_zero_le (by omega : 0 ≤ at_)
  have hg0 : getNum bs (a : Int) = gnum bs a 5 0 0 := by simp [getNum]; omega
  have HG := Lib.hid hg0; clear hg0
  have HL := Lib.hid hl; clear hl
  have hd : decide ((a : Int) < 0) = false := by simp
  clear h0
  go_enter Tryz.func76, Tryz.ntmps76
  go_wp2
  go_loop [7, 8] (fun u i => ∃ k uu : Nat, k ≤ 5 ∧ i = .int .i64 k ∧ u = .int .i64 uu ∧ uu < 128 ^ k ∧ gnum bs a 5 0 0 = gnum bs a (5 - k) k uu) (fun _ i => 5 - (intOf i).toNat)
  case atStart => exact ⟨0, 0, by omega, rfl, rfl, by simp, rfl⟩
  case round =>
    obtain ⟨k, u, hk, rfl, rfl, hu, hg⟩ := hrel
    have HU := Lib.hid hu; clear hu
    have HK := Lib.hid hg; clear hg
    by_cases hk5 : k < 5
    · by_cases hlt : a + k < n
      · obtain ⟨b, o, rfl, hb, hc⟩ := hr.at_ (by omega)
        obtain ⟨x, hx, hxb, hxe⟩ : ∃ x : Nat, w.cell? ⟨b, o + (a + k), none⟩ = some (.int .u8 (x : Int)) ∧ x ≤ 255 ∧ (bs[a + k]'(by rw [HL.out]; exact hlt)).toNat = x := ⟨_, hc (a + k) (by rw [HL.out]; exact hlt), byte_le _, rfl⟩
        have HX := Lib.hid hxe; clear hxe hc
        obtain ⟨m, hor, hm, hme⟩ : ∃ m : Nat, bits BinOp.or IntKind.i64 (u : Int) (wrap64 (bits BinOp.and IntKind.i64 (x : Int) 127 * 2 ^ (7 * k))) = (m : Int) ∧ m < 34359738368 ∧ u + x % 128 * 128 ^ k = m :=
          ⟨_, or_step u x k HU.out hxb hk5, Nat.lt_of_lt_of_le (step_lt u x k HU.out) (pow_le (k + 1) (by omega)), rfl⟩
        have HM := Lib.hid hme; clear hme
        have hstep : gnum bs a (5 - k) k u = if 128 ≤ x then gnum bs a (4 - k) (k + 1) m else if (x = 0 ∧ 0 < k) ∨ dec m < -1000000000 ∨ 1000000000 < dec m then (0, 0, false) else (dec m, ((a + k + 1 : Nat) : Int), true) := by
          rw [show 5 - k = (4 - k) + 1 by omega, gnum, dif_pos (by rw [HL.out]; exact hlt), HX.out, HM.out]
        have HS := Lib.hid hstep; clear hstep
        by_cases hx8 : 128 ≤ x
        · go_wp2
          go_round
          case rel => exact ⟨k + 1, m, by omega, by go_num, rfl, by rw [← HM.out]; exact step_lt u x k HU.out, by rw [HK.out, HS.out, if_pos hx8, show 5 - (k + 1) = 4 - k by omega]⟩
          case measure => simp [intOf]; omega
        · by_cases hodd : m % 2 = 1
          · have hod : (bits BinOp.and IntKind.i64 (m : Int) 1 == 1) = true := by rw [and_one m (by omega)]; simp; omega
            have hdec : dec m = -((m / 2 : Nat) : Int) - 1 := by simp [dec, hodd]
            have HD := Lib.hid hdec; clear hdec
            by_cases hR : inB (-((m : Int) / 2) - 1) (-1000000000) 1000000000 = true
            · go_wp2_with (go_at_call 58; refine (l1In_any _ _ _ _).mono ?_; rintro e w' ⟨rfl, rfl⟩)
              all_goals
                go_ret3
                refine ⟨?_, rfl⟩
                rw [HG.out, HK.out, HS.out, if_neg hx8, HD.out]
                simp [inB] at hR
                first | (rw [if_pos (by omega)]; simp [tup3]; done) | (rw [if_neg (by omega)]; simp [tup3]; try omega)
            · have hR' : inB (-((m : Int) / 2) - 1) (-1000000000) 1000000000 = false := by simpa using hR
              clear hR
              go_wp2_with (go_at_call 58; refine (l1In_any _ _ _ _).mono ?_; rintro e w' ⟨rfl, rfl⟩)
              all_goals
                go_ret3
                refine ⟨?_, rfl⟩
                rw [HG.out, HK.out, HS.out, if_neg hx8, HD.out]
                simp [inB] at hR'
                first | (rw [if_pos (by omega)]; simp [tup3]; done) | (rw [if_neg (by omega)]; simp [tup3]; try omega)
          · have hod : (bits BinOp.and IntKind.i64 (m : Int) 1 == 1) = false := by rw [and_one m (by omega)]; simp; omega
            have hdec : dec m = ((m / 2 : Nat) : Int) := by simp [dec, hodd]
            have HD := Lib.hid hdec; clear hdec
            by_cases hR : inB ((m : Int) / 2) (-1000000000) 1000000000 = true
            · go_wp2_with (go_at_call 58; refine (l1In_any _ _ _ _).mono ?_; rintro e w' ⟨rfl, rfl⟩)
              all_goals
                go_ret3
                refine ⟨?_, rfl⟩
                rw [HG.out, HK.out, HS.out, if_neg hx8, HD.out]
                simp [inB] at hR
                first | (rw [if_pos (by omega)]; simp [tup3]; done) | (rw [if_neg (by omega)]; simp [tup3]; try omega)
            · have hR' : inB ((m : Int) / 2) (-1000000000) 1000000000 = false := by simpa using hR
              clear hR
              go_wp2_with (go_at_call 58; refine (l1In_any _ _ _ _).mono ?_; rintro e w' ⟨rfl, rfl⟩)
              all_goals
                go_ret3
                refine ⟨?_, rfl⟩
                rw [HG.out, HK.out, HS.out, if_neg hx8, HD.out]
                simp [inB] at hR'
                first | (rw [if_pos (by omega)]; simp [tup3]; done) | (rw [if_neg (by omega)]; simp [tup3]; try omega)
      · have hend : gnum bs a (5 - k) k u = (0, 0, false) := by
          rw [show 5 - k = (4 - k) + 1 by omega, gnum, dif_neg (by rw [HL.out]; exact hlt)]
        have HE := Lib.hid hend; clear hend
        go_wp2
        all_goals
          go_ret3
          refine ⟨?_, rfl⟩
          rw [HG.out, HK.out, HE.out]
          simp [tup3]
    · have hend : gnum bs a (5 - k) k u = (0, 0, false) := by
        rw [show 5 - k = 0 by omega, gnum]
      have HE := Lib.hid hend; clear hend
      go_wp2
      go_ret3
      refine ⟨?_, rfl⟩
      rw [HG.out, HK.out, HE.out]
      simp [tup3]
end Go.Proofs.YtcbbefibebkfgaaGreatDoor
