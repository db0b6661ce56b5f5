/- GetText of the program and of the reference: each answers what the plain function says. No condition but lengths. -/
import Derived.Test.YtcbbefibebkfgaaGreatDoorGet
namespace Go.Proofs.YtcbbefibebkfgaaGreatDoor
open Go.RowKit
set_option maxRecDepth 100000
set_option maxHeartbeats 2000000

theorem gnum_ok (bs : List UInt8) (a : Nat) : ∀ f k u, (gnum bs a f k u).2.2 = true →
    (-1000000000 ≤ (gnum bs a f k u).1 ∧ (gnum bs a f k u).1 ≤ 1000000000) ∧ ∃ j, (gnum bs a f k u).2.1 = ((a + j + 1 : Nat) : Int) ∧ k ≤ j ∧ a + j < bs.length := by
  intro f
  induction f with
  | zero => intro k u h; simp [gnum] at h
  | succ f ih =>
    intro k u h
    unfold gnum at h ⊢
    split at h
    · rename_i hlt
      rw [dif_pos hlt]
      split at h
      · rename_i hx
        rw [if_pos hx]
        obtain ⟨h1, j, h2, h3, h4⟩ := ih _ _ h
        exact ⟨h1, j, h2, by omega, h4⟩
      · rename_i hx
        rw [if_neg hx]
        split at h
        · simp at h
        · rename_i hc
          rw [if_neg hc]
          exact ⟨⟨by simp only; omega, by simp only; omega⟩, k, rfl, Nat.le_refl _, hlt⟩
    · simp at h
theorem getNum_ok (bs : List UInt8) (at_ : Int) (h : (getNum bs at_).2.2 = true) :
    (-1000000000 ≤ (getNum bs at_).1 ∧ (getNum bs at_).1 ≤ 1000000000) ∧ 0 ≤ at_ ∧ ∃ next : Nat, (getNum bs at_).2.1 = (next : Int) ∧ at_ < (next : Int) ∧ next ≤ bs.length := by
  unfold getNum at h ⊢
  split at h
  · simp at h
  · rename_i h0
    rw [if_neg h0]
    obtain ⟨h1, j, h2, h3, h4⟩ := gnum_ok bs at_.toNat 5 0 0 h
    exact ⟨h1, by omega, _, h2, by omega, by omega⟩
def getText (bs : List UInt8) (at_ : Int) : ByteArray × Int × Bool :=
  if (getNum bs at_).2.2 = true ∧ 0 ≤ (getNum bs at_).1 ∧ (getNum bs at_).1 ≤ (bs.length : Int) - (getNum bs at_).2.1 then
    (⟨((bs.drop (getNum bs at_).2.1.toNat).take (getNum bs at_).1.toNat).toArray⟩, (getNum bs at_).2.1 + (getNum bs at_).1, true)
  else (ByteArray.empty, 0, false)
def tupS (r : ByteArray × Int × Bool) : Value := .tuple #[.string r.1, .int .i64 r.2.1, .bool r.2.2]

theorem implGetText_any (A : Option Addr) (n c : Nat) (at_ : Int) (bs : List UInt8) (w : World) (B : Nat) (hr : RdB w B A n bs) (hn : n ≤ 4611686018427387904) (hnc : n ≤ c) :
    Calls Tryz.prog 30 #[.slice A n c, .int .i64 at_] w fun e w' => e = .returned (tupS (getText bs at_)) ∧ w = w' := by
  have hl := hr.len
  obtain ⟨v, nx, ok, hg⟩ : ∃ v nx ok, getNum bs at_ = (v, nx, ok) := ⟨_, _, _, rfl⟩
  have HG := Lib.hid hg; 
  cases ok with
  | false =>
    have hT : getText bs at_ = (ByteArray.empty, 0, false) := by unfold getText; rw [hg]; rfl
    have HT := Lib.hid hT; clear hT hg
    go_enter Tryz.func30, Tryz.ntmps30
    go_wp2_with (go_at_call 31; refine (implGetNum_any _ _ _ _ _ _ _ hr hn).mono ?_; rw [HG.out]; dsimp only [tup3]; rintro e w' ⟨rfl, rfl⟩)
    go_ret3
    exact ⟨by rw [HT.out]; rfl, rfl⟩
  | true =>
    obtain ⟨hv, h0, next, hnx, hlt, hle⟩ := getNum_ok bs at_ (by rw [hg])
    rw [hg] at hnx hv
    simp only at hnx hv
    subst hnx
    by_cases hin : 0 ≤ v ∧ v ≤ (n : Int) - (next : Int)
    · obtain ⟨hneg, hbig⟩ := hin
      obtain ⟨m, rfl⟩ := Int.eq_ofNat_of_zero_le hneg
      have hT : getText bs at_ = (⟨((bs.drop next).take m).toArray⟩, (next : Int) + (m : Int), true) := by
        unfold getText; rw [hg]; simp only; rw [if_pos (by rw [hl]; simp; omega)]; simp
      have HT := Lib.hid hT; clear hT hg hneg
      have HL := Lib.hid hl; clear hl
      by_cases hcn : c = next
      · obtain rfl : m = 0 := by omega
        subst hcn
        have hcv := conv_bytes (P := Tryz.prog) (RdB.nil_ w B A) 22 5 Tryz.underlying22 Tryz.underlying5 9 Tryz.underlying9 0
        go_enter Tryz.func30, Tryz.ntmps30
        go_wp2_with (go_at_call 31; refine (implGetNum_any _ _ _ _ _ _ _ hr hn).mono ?_; rw [HG.out]; dsimp only [tup3]; rintro e w' ⟨rfl, rfl⟩)
        go_ret3
        exact ⟨by rw [HT.out]; simp [tupS], rfl⟩
      · have hcv := conv_bytes (P := Tryz.prog) (hr.cut next m (by omega)) 22 5 Tryz.underlying22 Tryz.underlying5 9 Tryz.underlying9 (c - next)
        go_enter Tryz.func30, Tryz.ntmps30
        go_wp2_with (go_at_call 31; refine (implGetNum_any _ _ _ _ _ _ _ hr hn).mono ?_; rw [HG.out]; dsimp only [tup3]; rintro e w' ⟨rfl, rfl⟩)
        go_ret3
        exact ⟨by rw [HT.out]; simp [tupS], rfl⟩
    · have hT : getText bs at_ = (ByteArray.empty, 0, false) := by
        unfold getText; rw [hg]; simp only; rw [if_neg (by rw [hl]; omega)]
      have HT := Lib.hid hT; clear hT hg
      go_enter Tryz.func30, Tryz.ntmps30
      go_wp2_with (go_at_call 31; refine (implGetNum_any _ _ _ _ _ _ _ hr hn).mono ?_; rw [HG.out]; dsimp only [tup3]; rintro e w' ⟨rfl, rfl⟩)
      all_goals
        go_ret3
        exact ⟨by rw [HT.out]; rfl, rfl⟩
theorem specGetText_any (A : Option Addr) (n c : Nat) (at_ : Int) (bs : List UInt8) (w : World) (B : Nat) (hr : RdB w B A n bs) (hn : n ≤ 4611686018427387904) (hnc : n ≤ c) :
    Calls Tryz.prog 48 #[.slice A n c, .int .i64 at_] w fun e w' => e = .returned (tupS (getText bs at_)) ∧ w = w' := by
  have hl := hr.len
  obtain ⟨v, nx, ok, hg⟩ : ∃ v nx ok, getNum bs at_ = (v, nx, ok) := ⟨_, _, _, rfl⟩
  have HG := Lib.hid hg; 
  cases ok with
  | false =>
    have hT : getText bs at_ = (ByteArray.empty, 0, false) := by unfold getText; rw [hg]; rfl
    have HT := Lib.hid hT; clear hT hg
    go_enter Tryz.func48, Tryz.ntmps48
    go_wp2_with (go_at_call 76; refine (specGetNum_any _ _ _ _ _ _ _ hr hn).mono ?_; rw [HG.out]; dsimp only [tup3]; rintro e w' ⟨rfl, rfl⟩)
    go_ret3
    exact ⟨by rw [HT.out]; rfl, rfl⟩
  | true =>
    obtain ⟨hv, h0, next, hnx, hlt, hle⟩ := getNum_ok bs at_ (by rw [hg])
    rw [hg] at hnx hv
    simp only at hnx hv
    subst hnx
    by_cases hin : 0 ≤ v ∧ v ≤ (n : Int) - (next : Int)
    · obtain ⟨hneg, hbig⟩ := hin
      obtain ⟨m, rfl⟩ := Int.eq_ofNat_of_zero_le hneg
      have hT : getText bs at_ = (⟨((bs.drop next).take m).toArray⟩, (next : Int) + (m : Int), true) := by
        unfold getText; rw [hg]; simp only; rw [if_pos (by rw [hl]; simp; omega)]; simp
      have HT := Lib.hid hT; clear hT hg hneg
      have HL := Lib.hid hl; clear hl
      by_cases hcn : c = next
      · obtain rfl : m = 0 := by omega
        subst hcn
        have hcv := conv_bytes (P := Tryz.prog) (RdB.nil_ w B A) 22 5 Tryz.underlying22 Tryz.underlying5 9 Tryz.underlying9 0
        go_enter Tryz.func48, Tryz.ntmps48
        go_wp2_with (go_at_call 76; refine (specGetNum_any _ _ _ _ _ _ _ hr hn).mono ?_; rw [HG.out]; dsimp only [tup3]; rintro e w' ⟨rfl, rfl⟩)
        go_ret3
        exact ⟨by rw [HT.out]; simp [tupS], rfl⟩
      · have hcv := conv_bytes (P := Tryz.prog) (hr.cut next m (by omega)) 22 5 Tryz.underlying22 Tryz.underlying5 9 Tryz.underlying9 (c - next)
        go_enter Tryz.func48, Tryz.ntmps48
        go_wp2_with (go_at_call 76; refine (specGetNum_any _ _ _ _ _ _ _ hr hn).mono ?_; rw [HG.out]; dsimp only [tup3]; rintro e w' ⟨rfl, rfl⟩)
        go_ret3
        exact ⟨by rw [HT.out]; simp [tupS], rfl⟩
    · have hT : getText bs at_ = (ByteArray.empty, 0, false) := by
        unfold getText; rw [hg]; simp only; rw [if_neg (by rw [hl]; omega)]
      have HT := Lib.hid hT; clear hT hg
      go_enter Tryz.func48, Tryz.ntmps48
      go_wp2_with (go_at_call 76; refine (specGetNum_any _ _ _ _ _ _ _ hr hn).mono ?_; rw [HG.out]; dsimp only [tup3]; rintro e w' ⟨rfl, rfl⟩)
      all_goals
        go_ret3
        exact ⟨by rw [HT.out]; rfl, rfl⟩
end Go.Proofs.YtcbbefibebkfgaaGreatDoor
