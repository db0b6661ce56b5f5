/- PutNum, PutText of the reference: each answers a slice of its own that holds what the plain function says. No condition but lengths. -/
import Derived.Test.YtcbbefibebkfgaaGreatDoorPut2
namespace Go.Proofs.YtcbbefibebkfgaaGreatDoor
open Go.RowKit
set_option maxRecDepth 100000
set_option maxHeartbeats 2000000

theorem enc_cases2 (n : Int) : (n < -1000000000 ∧ (encN n : Int) = 1999999999) ∨ (-1000000000 ≤ n ∧ n < 0 ∧ (encN n : Int) = -2 * n - 1) ∨ (0 ≤ n ∧ n ≤ 1000000000 ∧ (encN n : Int) = 2 * n) ∨ (1000000000 < n ∧ (encN n : Int) = 2000000000) := by
  by_cases h1 : n < -1000000000
  · exact .inl ⟨h1, enc1 n h1⟩
  · by_cases h2 : n < 0
    · exact .inr (.inl ⟨by omega, h2, enc2 n (by omega) h2⟩)
    · by_cases h3 : n ≤ 1000000000
      · exact .inr (.inr (.inl ⟨by omega, h3, enc3 n (by omega) h3⟩))
      · exact .inr (.inr (.inr ⟨by omega, enc4 n (by omega)⟩))
theorem or_128 (k : Nat) (hk : k < 9223372036854775808) : bits BinOp.or IntKind.i64 (bits BinOp.and IntKind.i64 (k : Int) 127) 128 = 128 + (k : Int) % 128 := by
  have ha : bits BinOp.and IntKind.i64 (k : Int) 127 = ((k % 128 : Nat) : Int) := by
    have h := i64_and_nat k 127 hk (by omega)
    have h2 : k &&& 127 = k % 128 := Nat.and_two_pow_sub_one_eq_mod k 7
    rw [h2] at h
    exact h
  rw [ha]
  have h := i64_or_nat (k % 128) 128 (by omega) (by omega)
  have h2 : k % 128 ||| 128 = 128 + k % 128 := by
    have := Nat.two_pow_add_eq_or_of_lt (i := 7) (b := k % 128) (by omega) 1
    rw [Nat.or_comm]
    simpa using this.symm
  rw [h2] at h
  exact h
theorem shr_7 (k : Nat) : (k : Int) / 2 ^ 7 = (k : Int) / 128 := by rfl
theorem specPutNum_any (A : Option Addr) (nn c : Nat) (bs : List UInt8) (n : Int) (w : World) (B : Nat) (hr : RdB w B A nn bs) (hB : B ≤ w.heap.size) (hn : nn ≤ 70368744177664) :
    Calls Tryz.prog 91 #[.slice A nn c, .int .i64 n] w fun e w' => ∃ v', e = .returned v' ∧ OwnB w' w.heap.size 5 v' (bs ++ putN n) ∧ Below w.heap.size w w' ∧ w.heap.size ≤ w'.heap.size := by
  have hnl := hr.len
  obtain ⟨i0, hi, hz0, hz1, hz2⟩ := info_parts info8
  have hlt := encN_lt n
  have HNL := Lib.hid hnl; clear hnl
  have HI := Lib.hid hi; clear hi
  rcases enc_cases2 n with ⟨h1, he⟩ | ⟨h1, h2, he⟩ | ⟨h1, h2, he⟩ | ⟨h1, he⟩
  all_goals
    have HE := Lib.hid he; clear he
    go_enter Tryz.func91, Tryz.ntmps91
    go_wp2_with (at_builtin; refine app_byte rfl (.tmp 7) (.tmp 8) _ rfl w.heap.size 5 i0 Tryz.underlying22 HI.out hz0 hz1 hz2 _ [] rfl (World.ownsRow_lit w #[] 0 (Nat.le_refl _) (by simp [maxLen]) rfl) A nn c bs B rfl (hr.below ((Below.refl _ _).alloc hB _)) (by simp; omega) (by simp) ?_; intro v1 w1 ho1 hb1 hs1; have hbel1 : Below w.heap.size w w1 := ((Below.refl w.heap.size w).alloc (Nat.le_refl _) _).trans hb1; have hsz1 : w.heap.size ≤ w1.heap.size := by simp at hs1; omega)
    go_loopw [5, 6] (fun u m wr => ∃ (ys : List UInt8) (k f : Nat), m = .int .i64 k ∧ OwnB wr w.heap.size 5 u (bs ++ ys) ∧ ys ++ numB f k = numB 5 (encN n) ∧ k < 128 ^ f ∧ k ≤ 2000000000 ∧ 0 < f ∧ ys.length + f ≤ 5 ∧ Below w.heap.size w wr ∧ w.heap.size ≤ wr.heap.size) (fun _ m _ => (intOf m).toNat)
    case atStart => exact ⟨[], encN n, 5, by rw [HE.out], by simpa using ho1, rfl, Nat.lt_of_le_of_lt hlt (by decide), hlt, by omega, by simp, hbel1, hsz1⟩
    case round =>
      obtain ⟨ys, k, f, rfl, hown, hy, hk, hk2, hf, hyl, hbel, hsz⟩ := hrel
      have HY := Lib.hid hy; clear hy
      have HK := Lib.hid hk; clear hk
      have HOW := Lib.hid hown; clear hown
      obtain ⟨f, rfl⟩ : ∃ f', f = f' + 1 := ⟨f - 1, by omega⟩
      have hbl : bs.length ≤ 70368744177664 := by rw [HNL.out]; exact hn
      by_cases h128 : 127 < k
      · have hor := or_128 k (by omega)
        have hsh := shr_7 k
        go_wp2_with (at_builtin; refine app_byte rfl (.tmp 23) (.tmp 28) _ rfl w.heap.size 5 i0 Tryz.underlying22 HI.out hz0 hz1 hz2 _ _ rfl (HOW.out.kept ((Below.refl _ _).alloc (Nat.le_refl _) _)) _ 1 1 _ _ rfl (RdB.one wr 5 (128 + (k : Int) % 128) (by omega) (by omega)) (by simp; omega) (by simp; omega) ?_; intro v' w' ho' hb' hs'; have hbel' : Below w.heap.size w w' := (hbel.alloc (by omega) _).trans hb'; have hsz' : w.heap.size ≤ w'.heap.size := by simp at hs'; omega)
        go_round
        case rel => exact ⟨ys ++ [UInt8.ofNat (128 + k % 128)], k / 128, f, by go_num, by rw [← List.append_assoc]; exact own_eq ho' (ofN (by omega)), by rw [List.append_assoc, ← HY.out]; rw [numB, if_pos h128]; rfl, div_lt HK.out, by omega, pos_of_lt HK.out h128, by simp; omega, hbel', hsz'⟩
        case measure => simp [intOf]; omega
      · go_wp2_with (at_builtin; refine app_byte rfl (.tmp 32) (.tmp 35) _ rfl w.heap.size 5 i0 Tryz.underlying22 HI.out hz0 hz1 hz2 _ _ rfl (HOW.out.kept ((Below.refl _ _).alloc (Nat.le_refl _) _)) _ 1 1 _ _ rfl (RdB.one wr 5 (k : Int) (by omega) (by omega)) (by simp; omega) (by simp; omega) ?_; intro v' w' ho' hb' hs'; have hbel' : Below w.heap.size w w' := (hbel.alloc (by omega) _).trans hb'; have hsz' : w.heap.size ≤ w'.heap.size := by simp at hs'; omega)
        go_ret
        refine ⟨_, rfl, ?_, hbel', hsz'⟩
        unfold putN
        rw [← HY.out, numB, if_neg h128, ← List.append_assoc]
        exact own_eq ho' (ofN rfl)
theorem specPutText_any (A : Option Addr) (n c : Nat) (bs : List UInt8) (s : ByteArray) (w : World) (B : Nat) (hr : RdB w B A n bs) (hB : B ≤ w.heap.size) (hn : n ≤ 70368744177600) (hs : s.size ≤ 70368744177664) :
    Calls Tryz.prog 75 #[.slice A n c, .string s] w fun e w' => ∃ v', e = .returned v' ∧ OwnB w' w.heap.size 5 v' (bs ++ putN s.size ++ s.data.toList) ∧ Below w.heap.size w w' ∧ w.heap.size ≤ w'.heap.size := by
  obtain ⟨i0, hi, hz0, hz1, hz2⟩ := info_parts info8
  have hlp := putN_len s.size
  have hl := hr.len
  have HL := Lib.hid hl; clear hl
  have HI := Lib.hid hi; clear hi
  go_enter Tryz.func75, Tryz.ntmps75
  go_wp2_with fail
  refine (specPutNum_any A n c bs s.size w B hr hB (by omega)).mono ?_
  rintro e w1 ⟨v1, rfl, ho1, hb1, hs1⟩
  go_wp2_with (at_builtin; refine app_str rfl (.tmp 8) (.tmp 9) _ _ rfl w.heap.size 5 i0 Tryz.underlying22 Tryz.underlying9 HI.out hz0 hz1 hz2 _ _ rfl ho1 s rfl (by simp [HL.out]; omega) (by omega) ?_; intro v2 w2 ho2 hb2 hs2)
  go_ret
  exact ⟨_, rfl, ho2, hb1.trans hb2, by omega⟩
end Go.Proofs.YtcbbefibebkfgaaGreatDoor
