/- Crc of the program and of the reference: both answer what the plain function says. No condition but lengths. -/
import Derived.Test.YtpmigmpghmccdaaGet
import Derived.Test.YtpmigmpghmccdaaOwn
namespace Go.Proofs.Ytpmigmpghmccdaa
open Go.RowKit
set_option maxRecDepth 100000
set_option maxHeartbeats 2000000

def crcStep (x : Nat) : Nat := if x % 2 = 1 then (x / 2) ^^^ 2197175160 else x / 2
def crcIter : Nat → Nat → Nat
  | 0, x => x
  | k + 1, x => crcStep (crcIter k x)
def crcByte (x : Nat) (b : UInt8) : Nat := crcIter 8 (x ^^^ b.toNat)
def crcAll (bs : List UInt8) : Nat := bs.foldl crcByte 4294967295
def crc (bs : List UInt8) : Int := ((crcAll bs ^^^ 4294967295 : Nat) : Int)
theorem xor_lt {x y : Nat} (hx : x < 4294967296) (hy : y < 4294967296) : x ^^^ y < 4294967296 := Nat.xor_lt_two_pow (n := 32) hx hy
theorem crcStep_lt (x : Nat) (h : x < 4294967296) : crcStep x < 4294967296 := by
  unfold crcStep; split
  · exact xor_lt (by omega) (by omega)
  · omega
theorem crcIter_lt (x : Nat) (h : x < 4294967296) : ∀ k, crcIter k x < 4294967296
  | 0 => h
  | k + 1 => crcStep_lt _ (crcIter_lt x h k)
theorem crcByte_lt (x : Nat) (b : UInt8) (h : x < 4294967296) : crcByte x b < 4294967296 := crcIter_lt _ (xor_lt h (by have := b.toNat_lt; omega)) 8
theorem crcFold_lt : ∀ (bs : List UInt8) (x : Nat), x < 4294967296 → bs.foldl crcByte x < 4294967296
  | [], _, h => h
  | b :: bs, x, h => crcFold_lt bs _ (crcByte_lt x b h)
theorem crcAll_lt (bs : List UInt8) : crcAll bs < 4294967296 := crcFold_lt bs _ (by omega)
theorem crc_take (bs : List UInt8) (k : Nat) (h : k < bs.length) : crcAll (bs.take (k + 1)) = crcByte (crcAll (bs.take k)) bs[k] := by
  unfold crcAll
  rw [List.take_succ_eq_append_getElem h, List.foldl_append]
  rfl

theorem specCrc_any (A : Option Addr) (n c : Nat) (bs : List UInt8) (w : World) (B : Nat) (hr : RdB w B A n bs) (hn : n ≤ 70368744177664) :
    Calls Try.prog 17 #[.slice A n c] w fun e w' => e = .returned (.int .i64 (crc bs)) ∧ w = w' := by
  have hl := hr.len
  have HL := Lib.hid hl; clear hl
  go_enter Try.func17, Try.ntmps17
  go_wp2
  go_loop [3, 4] (fun x i => ∃ (k : Nat) (m : Nat), i = .int .i64 k ∧ k ≤ n ∧ x = .int .i64 m ∧ m = crcAll (bs.take k)) (fun _ i => n - (intOf i).toNat)
  case atStart => exact ⟨0, 4294967295, rfl, by omega, rfl, rfl⟩
  case round =>
    obtain ⟨k, m, rfl, hk, rfl, hm⟩ := hrel
    have hlt2 : m < 4294967296 := by rw [hm]; exact crcAll_lt _
    have HM := Lib.hid hm; clear hm
    by_cases hlt : k < n
    · obtain ⟨b, o, rfl, hb, hc⟩ := hr.at_ (by omega)
      obtain ⟨x, hx, hxb, hxe⟩ : ∃ x : Nat, w.cell? ⟨b, o + k, none⟩ = some (.int .u8 (x : Int)) ∧ x ≤ 255 ∧ (bs[k]'(by rw [HL.out]; exact hlt)).toNat = x := ⟨_, hc k (by rw [HL.out]; exact hlt), byte_le _, rfl⟩
      have HXE := Lib.hid hxe; clear hxe hc
      obtain ⟨y, hy, hyl, hye⟩ : ∃ y : Nat, bits BinOp.xor IntKind.i64 (m : Int) (x : Int) = (y : Int) ∧ y < 4294967296 ∧ m ^^^ x = y := ⟨_, i64_xor_nat m x (by omega) (by omega), xor_lt hlt2 (by omega), rfl⟩
      have HYE := Lib.hid hye; clear hye
      go_wp2
      go_loop [3, 5, 6] (fun x i _ => ∃ (j : Nat) (z : Nat), i = .int .i64 j ∧ j ≤ 8 ∧ x = .int .i64 z ∧ z = crcIter j y) (fun _ i _ => 8 - (intOf i).toNat)
      case atStart => exact ⟨0, y, rfl, by omega, rfl, rfl⟩
      case round =>
        obtain ⟨j, z, rfl, hj, rfl, hz⟩ := hrel
        have hzl : z < 4294967296 := by rw [hz]; exact crcIter_lt y hyl j
        have HZ := Lib.hid hz; clear hz
        have ha := and_one z (by omega)
        by_cases hj8 : j < 8
        · by_cases hodd : z % 2 = 1
          · have hod : ((z : Int) % 2 == 1) = true := by simp; omega
            obtain ⟨t, ht, hte⟩ : ∃ t : Nat, bits BinOp.xor IntKind.i64 ((z : Int) / 2) 2197175160 = (t : Int) ∧ (z / 2) ^^^ 2197175160 = t := ⟨_, i64_xor_nat (z / 2) 2197175160 (by omega) (by omega), rfl⟩
            have HT := Lib.hid hte; clear hte
            go_wp2
            go_round
            case rel => exact ⟨j + 1, t, by go_num, by omega, rfl, by rw [crcIter, ← HZ.out, crcStep, if_pos hodd, HT.out]⟩
            case measure => simp [intOf]; omega
          · have hod : ((z : Int) % 2 == 1) = false := by simp; omega
            go_wp2
            go_round
            case rel => exact ⟨j + 1, z / 2, by go_num, by omega, by go_num, by rw [crcIter, ← HZ.out, crcStep, if_neg hodd]⟩
            case measure => simp [intOf]; omega
        · go_wp2
          go_round
          case rel => exact ⟨k + 1, z, by go_num, by omega, rfl, by rw [crc_take bs k (by rw [HL.out]; exact hlt), ← HM.out, crcByte, HXE.out, HYE.out, HZ.out, show j = 8 by omega]⟩
          case measure => simp [intOf]; omega
    · obtain ⟨y, hy, hye⟩ : ∃ y : Nat, bits BinOp.xor IntKind.i64 (m : Int) 4294967295 = (y : Int) ∧ m ^^^ 4294967295 = y := ⟨_, i64_xor_nat m 4294967295 (by omega) (by omega), rfl⟩
      have HYE := Lib.hid hye; clear hye
      go_wp2
      go_ret
      exact ⟨ret_int (by rw [crc, ← HYE.out, HM.out, List.take_of_length_le (by rw [HL.out]; omega)]), rfl⟩
theorem and_one32 (m : Nat) (hm : m < 4294967296) : bits BinOp.and IntKind.u32 (m : Int) 1 = ((m % 2 : Nat) : Int) := by
  have h := u32_and_nat m 1 hm (by omega)
  have h2 : m &&& 1 = m % 2 := Nat.and_two_pow_sub_one_eq_mod m 1
  rw [h2] at h
  exact h
theorem implCrc_any (A : Option Addr) (n c : Nat) (bs : List UInt8) (w : World) (B : Nat) (hr : RdB w B A n bs) (hn : n ≤ 70368744177664) :
    Calls Try.prog 19 #[.slice A n c] w fun e w' => e = .returned (.int .i64 (crc bs)) ∧ w = w' := by
  have hl := hr.len
  have HL := Lib.hid hl; clear hl
  go_enter Try.func19, Try.ntmps19
  go_wp2
  go_loop [3, 5, 6, 9, 17] (fun x _ _ i _ => ∃ (k : Nat) (m : Nat), i = .int .i64 k ∧ k ≤ n ∧ x = .int .u32 m ∧ m = crcAll (bs.take k)) (fun _ _ _ i _ => n - (intOf i).toNat)
  case atStart => exact ⟨0, 4294967295, rfl, by omega, rfl, rfl⟩
  case round =>
    obtain ⟨k, m, rfl, hk, rfl, hm⟩ := hrel
    have hlt2 : m < 4294967296 := by rw [hm]; exact crcAll_lt _
    have HM := Lib.hid hm; clear hm
    by_cases hlt : k < n
    · obtain ⟨b, o, rfl, hb, hc⟩ := hr.at_ (by omega)
      obtain ⟨x, hx, hxb, hxe⟩ : ∃ x : Nat, w.cell? ⟨b, o + k, none⟩ = some (.int .u8 (x : Int)) ∧ x ≤ 255 ∧ (bs[k]'(by rw [HL.out]; exact hlt)).toNat = x := ⟨_, hc k (by rw [HL.out]; exact hlt), byte_le _, rfl⟩
      have HXE := Lib.hid hxe; clear hxe hc
      obtain ⟨y, hy, hyl, hye⟩ : ∃ y : Nat, bits BinOp.xor IntKind.u32 (m : Int) (x : Int) = (y : Int) ∧ y < 4294967296 ∧ m ^^^ x = y := ⟨_, u32_xor_nat m x (by omega) (by omega), xor_lt hlt2 (by omega), rfl⟩
      have HYE := Lib.hid hye; clear hye
      go_wp2
      go_loop [3, 6, 17] (fun x _ i => ∃ (j : Nat) (z : Nat), i = .int .i64 j ∧ j ≤ 8 ∧ x = .int .u32 z ∧ z = crcIter j y) (fun _ _ i => 8 - (intOf i).toNat)
      case atStart => exact ⟨0, y, rfl, by omega, rfl, rfl⟩
      case round =>
        obtain ⟨j, z, rfl, hj, rfl, hz⟩ := hrel
        have hzl : z < 4294967296 := by rw [hz]; exact crcIter_lt y hyl j
        have HZ := Lib.hid hz; clear hz
        have ha := and_one32 z (by omega)
        by_cases hj8 : j < 8
        · by_cases hodd : z % 2 = 1
          · have hod : (((z % 2 : Nat) : Int) == 1) = true := by simp; omega
            obtain ⟨t, ht, hte⟩ : ∃ t : Nat, bits BinOp.xor IntKind.u32 ((z : Int) / 2) 2197175160 = (t : Int) ∧ (z / 2) ^^^ 2197175160 = t := ⟨_, u32_xor_nat (z / 2) 2197175160 (by omega) (by omega), rfl⟩
            have HT := Lib.hid hte; clear hte
            go_wp2
            go_round
            case rel => exact ⟨j + 1, t, by go_num, by omega, rfl, by rw [crcIter, ← HZ.out, crcStep, if_pos hodd, HT.out]⟩
            case measure => simp [intOf]; omega
          · have hod : (((z % 2 : Nat) : Int) == 1) = false := by simp; omega
            go_wp2
            go_round
            case rel => exact ⟨j + 1, z / 2, by go_num, by omega, by go_num, by rw [crcIter, ← HZ.out, crcStep, if_neg hodd]⟩
            case measure => simp [intOf]; omega
        · go_wp2
          go_round
          case rel => exact ⟨k + 1, z, by go_num, by omega, rfl, by rw [crc_take bs k (by rw [HL.out]; exact hlt), ← HM.out, crcByte, HXE.out, HYE.out, HZ.out, show j = 8 by omega]⟩
          case measure => simp [intOf]; omega
    · obtain ⟨y, hy, hye⟩ : ∃ y : Nat, bits BinOp.xor IntKind.u32 (m : Int) 4294967295 = (y : Int) ∧ m ^^^ 4294967295 = y := ⟨_, u32_xor_nat m 4294967295 (by omega) (by omega), rfl⟩
      have HYE := Lib.hid hye; clear hye
      go_wp2
      go_ret
      have hyl : y < 4294967296 := by rw [← HYE.out]; exact xor_lt hlt2 (by omega)
      refine ⟨ret_int ?_, rfl⟩
      rw [show IntKind.u32.max = ((4294967295 : Nat) : Int) from rfl, u32_xor_nat _ _ (by omega) hlt2, Nat.xor_comm, HYE.out, IntWalk.wrap64_in _ (by omega), crc, ← HYE.out, HM.out, List.take_of_length_le (by rw [HL.out]; omega)]
end Go.Proofs.Ytpmigmpghmccdaa
