/- The law FnExactMatchPat returns true at every input, and leaves what it was given as it was. No condition. -/
import Derived.Test.YtjlfllnjbdddaaaReadP
import Derived.Test.YtjlfllnjbdddaaaMatch2
import Derived.Test.YtjlfllnjbdddaaaMatchL
import Derived.Test.YtjlfllnjbdddaaaPatM
import Derived.Test.YtjlfllnjbdddaaaFactM
import Derived.Test.YtjlfllnjbdddaaaBindM
import Derived.Test.YtjlfllnjbdddaaaRead2
import Derived.Test.YtjlfllnjbdddaaaStep
import Derived.Test.YtjlfllnjbdddaaaRows
import Derived.Test.YtjlfllnjbdddaaaRead
namespace Go.Proofs.Ytjlfllnjbdddaaa.fnExactMatchPat
open Go.ChangeShapes Go.WideShapes Go.ChangeAt Go.RowKit
open Go.ChangeMaps (open_string shut_string)
set_option linter.unusedVariables false
set_option maxRecDepth 100000
set_option maxHeartbeats 20000000

theorem walk (kd0 : ByteArray) (A0 : Option Addr) (n0 c0 : Nat) (xs0 : List Ag) (no0 : Bool) (kd1 : ByteArray) (A1 : Option Addr) (n1 c1 : Nat) (xs1 : List Vl) (A2 : Option Addr) (n2 c2 : Nat) (xs2 : List Bd) (W : World) (hs0 : n0 ≤ c0 ∧ c0 ≤ 9223372036854775807 ∧ kd0.size ≤ 9223372036854775807 ∧ RdS aC 5 W W.heap.size A0 n0 xs0 ∧ ∀ a ∈ xs0, goodA a) (hs1 : n1 ≤ c1 ∧ c1 ≤ 9223372036854775807 ∧ kd1.size ≤ 9223372036854775807 ∧ RdS vC 3 W W.heap.size A1 n1 xs1 ∧ ∀ a ∈ xs1, a.s.size ≤ 9223372036854775807) (hs2 : n2 ≤ c2 ∧ c2 ≤ 9223372036854775807 ∧ RdS bC 4 W W.heap.size A2 n2 xs2 ∧ ∀ a ∈ xs2, goodB a) :
    Calls Try.prog 7 #[.agg #[.string kd0, .slice A0 n0 c0, .bool no0], .agg #[.string kd1, .slice A1 n1 c1], .slice A2 n2 c2] W fun e w' => e = .returned (.bool true) ∧ Below W.heap.size W w' := by
  obtain ⟨hnc0, hc0, hk0, hr0, hz0⟩ := hs0
  obtain rfl : n0 = xs0.length := hr0.len.symm
  have HZ0 := Lib.hid hz0; clear hz0
  obtain ⟨hnc1, hc1, hk1, hr1, hz1⟩ := hs1
  obtain rfl : n1 = xs1.length := hr1.len.symm
  have HZ1 := Lib.hid hz1; clear hz1
  obtain ⟨hnc2, hc2, hr2, hz2⟩ := hs2
  obtain rfl : n2 = xs2.length := hr2.len.symm
  have HZ2 := Lib.hid hz2; clear hz2
  by_cases bz0 : (1048576 : Int) < ((totP ⟨kd0, xs0, no0⟩) : Int)
  · have HB := Lib.hid (szR_big bz0)
    go_enter Try.func7, Try.ntmps7
    go_wp2_with fail
    refine (szPat_any kd0 A0 _ c0 _ xs0 no0 _ _ ((hr0.alloc _).alloc _) (by omega) hk0 HZ0.out (by omega) (by omega)).mono ?_
    rw [HB.out]
    rintro e w1 ⟨rfl, hb⟩
    have g_w1 : Below W.heap.size W w1 := (by repeat (first | with_reducible exact bel_refl _ | with_reducible assumption | with_reducible refine bel_set ?_ (by first | (simp; done) | (simp; omega) | omega) _ | with_reducible refine bel_alloc ?_ _ | with_reducible refine bel_drew ?_ | with_reducible refine bel_drewN ?_ _ | with_reducible refine bel_trans ?_ (by assumption)))
    have b0_0 := old_cell hb (b := W.heap.size) (o := 0) (v := .string kd0) (by go_simp)
    have b0_1 := old_cell hb (b := W.heap.size) (o := 1) (v := .slice A0 xs0.length c0) (by go_simp)
    have b0_2 := old_cell hb (b := W.heap.size) (o := 2) (v := .bool no0) (by go_simp)
    have b1_0 := old_cell hb (b := W.heap.size + 1) (o := 0) (v := .string kd1) (by go_simp)
    have b1_1 := old_cell hb (b := W.heap.size + 1) (o := 1) (v := .slice A1 xs1.length c1) (by go_simp)
    replace hr0 := hr0.kept g_w1
    replace hr1 := hr1.kept g_w1
    replace hr2 := hr2.kept g_w1
    have zs_w1 := g_w1.size
    have gW := g_w1
    clear hb g_w1
    have z_b0_0 : W.heap.size < w1.heap.size := cell_lt b0_0
    have z_b1_0 : W.heap.size + 1 < w1.heap.size := cell_lt b1_0
    go_wp2
    go_ret
    exact ⟨rfl, gW⟩
  have HF0 := Lib.hid (szR_fit (Int.not_lt.1 bz0))
  by_cases bz1 : (1048576 : Int) - ((totP ⟨kd0, xs0, no0⟩) : Nat) < ((totF ⟨kd1, xs1⟩) : Int)
  · have HB := Lib.hid (szR_big bz1)
    go_enter Try.func7, Try.ntmps7
    go_wp2_with fail
    refine (szPat_any kd0 A0 _ c0 _ xs0 no0 _ _ ((hr0.alloc _).alloc _) (by omega) hk0 HZ0.out (by omega) (by omega)).mono ?_
    rw [HF0.out]
    rintro e w2 ⟨rfl, hb⟩
    have g_w2 : Below W.heap.size W w2 := (by repeat (first | with_reducible exact bel_refl _ | with_reducible assumption | with_reducible refine bel_set ?_ (by first | (simp; done) | (simp; omega) | omega) _ | with_reducible refine bel_alloc ?_ _ | with_reducible refine bel_drew ?_ | with_reducible refine bel_drewN ?_ _ | with_reducible refine bel_trans ?_ (by assumption)))
    have b0_0 := old_cell hb (b := W.heap.size) (o := 0) (v := .string kd0) (by go_simp)
    have b0_1 := old_cell hb (b := W.heap.size) (o := 1) (v := .slice A0 xs0.length c0) (by go_simp)
    have b0_2 := old_cell hb (b := W.heap.size) (o := 2) (v := .bool no0) (by go_simp)
    have b1_0 := old_cell hb (b := W.heap.size + 1) (o := 0) (v := .string kd1) (by go_simp)
    have b1_1 := old_cell hb (b := W.heap.size + 1) (o := 1) (v := .slice A1 xs1.length c1) (by go_simp)
    replace hr0 := hr0.kept g_w2
    replace hr1 := hr1.kept g_w2
    replace hr2 := hr2.kept g_w2
    have zs_w2 := g_w2.size
    have gW := g_w2
    clear hb g_w2
    have z_b0_0 : W.heap.size < w2.heap.size := cell_lt b0_0
    have z_b1_0 : W.heap.size + 1 < w2.heap.size := cell_lt b1_0
    go_wp2_with fail
    refine (szFact_any kd1 A1 _ c1 _ xs1 _ _ hr1 (by omega) hk1 HZ1.out (by omega) (by omega)).mono ?_
    rw [HB.out]
    rintro e w3 ⟨rfl, hb⟩
    have g_w3 : Below w2.heap.size w2 w3 := (by repeat (first | with_reducible exact bel_refl _ | with_reducible assumption | with_reducible refine bel_set ?_ (by first | (simp; done) | (simp; omega) | omega) _ | with_reducible refine bel_alloc ?_ _ | with_reducible refine bel_drew ?_ | with_reducible refine bel_drewN ?_ _ | with_reducible refine bel_trans ?_ (by assumption)))
    replace b0_0 := old_cell g_w3 b0_0
    replace b0_1 := old_cell g_w3 b0_1
    replace b0_2 := old_cell g_w3 b0_2
    replace b1_0 := old_cell g_w3 b1_0
    replace b1_1 := old_cell g_w3 b1_1
    replace hr0 := hr0.kept g_w3
    replace hr1 := hr1.kept g_w3
    replace hr2 := hr2.kept g_w3
    have zs_w3 := g_w3.size
    have gW : Below W.heap.size W w3 := bel_trans gW g_w3
    clear hb g_w3
    have z_b0_0 : W.heap.size < w3.heap.size := cell_lt b0_0
    have z_b1_0 : W.heap.size + 1 < w3.heap.size := cell_lt b1_0
    go_wp2
    go_ret
    exact ⟨rfl, gW⟩
  have HF1 := Lib.hid (szR_fit (Int.not_lt.1 bz1))
  by_cases bz2 : (1048576 : Int) - ((totP ⟨kd0, xs0, no0⟩) : Nat) - ((totF ⟨kd1, xs1⟩) : Nat) < ((totB xs2) : Int)
  · have HB := Lib.hid (szR_big bz2)
    go_enter Try.func7, Try.ntmps7
    go_wp2_with fail
    refine (szPat_any kd0 A0 _ c0 _ xs0 no0 _ _ ((hr0.alloc _).alloc _) (by omega) hk0 HZ0.out (by omega) (by omega)).mono ?_
    rw [HF0.out]
    rintro e w4 ⟨rfl, hb⟩
    have g_w4 : Below W.heap.size W w4 := (by repeat (first | with_reducible exact bel_refl _ | with_reducible assumption | with_reducible refine bel_set ?_ (by first | (simp; done) | (simp; omega) | omega) _ | with_reducible refine bel_alloc ?_ _ | with_reducible refine bel_drew ?_ | with_reducible refine bel_drewN ?_ _ | with_reducible refine bel_trans ?_ (by assumption)))
    have b0_0 := old_cell hb (b := W.heap.size) (o := 0) (v := .string kd0) (by go_simp)
    have b0_1 := old_cell hb (b := W.heap.size) (o := 1) (v := .slice A0 xs0.length c0) (by go_simp)
    have b0_2 := old_cell hb (b := W.heap.size) (o := 2) (v := .bool no0) (by go_simp)
    have b1_0 := old_cell hb (b := W.heap.size + 1) (o := 0) (v := .string kd1) (by go_simp)
    have b1_1 := old_cell hb (b := W.heap.size + 1) (o := 1) (v := .slice A1 xs1.length c1) (by go_simp)
    replace hr0 := hr0.kept g_w4
    replace hr1 := hr1.kept g_w4
    replace hr2 := hr2.kept g_w4
    have zs_w4 := g_w4.size
    have gW := g_w4
    clear hb g_w4
    have z_b0_0 : W.heap.size < w4.heap.size := cell_lt b0_0
    have z_b1_0 : W.heap.size + 1 < w4.heap.size := cell_lt b1_0
    go_wp2_with fail
    refine (szFact_any kd1 A1 _ c1 _ xs1 _ _ hr1 (by omega) hk1 HZ1.out (by omega) (by omega)).mono ?_
    rw [HF1.out]
    rintro e w5 ⟨rfl, hb⟩
    have g_w5 : Below w4.heap.size w4 w5 := (by repeat (first | with_reducible exact bel_refl _ | with_reducible assumption | with_reducible refine bel_set ?_ (by first | (simp; done) | (simp; omega) | omega) _ | with_reducible refine bel_alloc ?_ _ | with_reducible refine bel_drew ?_ | with_reducible refine bel_drewN ?_ _ | with_reducible refine bel_trans ?_ (by assumption)))
    replace b0_0 := old_cell g_w5 b0_0
    replace b0_1 := old_cell g_w5 b0_1
    replace b0_2 := old_cell g_w5 b0_2
    replace b1_0 := old_cell g_w5 b1_0
    replace b1_1 := old_cell g_w5 b1_1
    replace hr0 := hr0.kept g_w5
    replace hr1 := hr1.kept g_w5
    replace hr2 := hr2.kept g_w5
    have zs_w5 := g_w5.size
    have gW : Below W.heap.size W w5 := bel_trans gW g_w5
    clear hb g_w5
    have z_b0_0 : W.heap.size < w5.heap.size := cell_lt b0_0
    have z_b1_0 : W.heap.size + 1 < w5.heap.size := cell_lt b1_0
    go_wp2_with fail
    refine (szBindS_any A2 _ c2 _ xs2 _ _ hr2 (by omega) HZ2.out (by omega) (by omega)).mono ?_
    rw [HB.out]
    rintro e w6 ⟨rfl, hb⟩
    have g_w6 : Below w5.heap.size w5 w6 := (by repeat (first | with_reducible exact bel_refl _ | with_reducible assumption | with_reducible refine bel_set ?_ (by first | (simp; done) | (simp; omega) | omega) _ | with_reducible refine bel_alloc ?_ _ | with_reducible refine bel_drew ?_ | with_reducible refine bel_drewN ?_ _ | with_reducible refine bel_trans ?_ (by assumption)))
    replace b0_0 := old_cell g_w6 b0_0
    replace b0_1 := old_cell g_w6 b0_1
    replace b0_2 := old_cell g_w6 b0_2
    replace b1_0 := old_cell g_w6 b1_0
    replace b1_1 := old_cell g_w6 b1_1
    replace hr0 := hr0.kept g_w6
    replace hr1 := hr1.kept g_w6
    replace hr2 := hr2.kept g_w6
    have zs_w6 := g_w6.size
    have gW : Below W.heap.size W w6 := bel_trans gW g_w6
    clear hb g_w6
    have z_b0_0 : W.heap.size < w6.heap.size := cell_lt b0_0
    have z_b1_0 : W.heap.size + 1 < w6.heap.size := cell_lt b1_0
    go_wp2
    go_ret
    exact ⟨rfl, gW⟩
  have HF2 := Lib.hid (szR_fit (Int.not_lt.1 bz2))
  have hl0 : xs0.length ≤ 1048576 := by unfold totP totA at bz0; simp only at bz0; omega
  have hl1 : xs1.length ≤ 1048576 := by unfold totF totV at bz1; simp only at bz1; omega
  have hl2 : xs2.length ≤ 1048576 := by unfold totB at bz2; omega
  obtain ⟨⟨rs, rb⟩, hr⟩ : ∃ r, matchPat kd0 xs0 ⟨kd1, xs1⟩ xs2 = r := ⟨_, rfl⟩
  have hrl := matchPat_len hr
  have hrs : rs.length ≤ 1048576 := by have e1 : xs0.length ≤ totP ⟨kd0, xs0, no0⟩ := (by unfold totP totA; simp only; omega); have e2 : xs2.length ≤ totB xs2 := (by unfold totB; omega); omega
  have HR := Lib.hid hr; clear hr
  go_enter Try.func7, Try.ntmps7
  go_wp2_with fail
  refine (szPat_any kd0 A0 _ c0 _ xs0 no0 _ _ ((hr0.alloc _).alloc _) (by omega) hk0 HZ0.out (by omega) (by omega)).mono ?_
  rw [HF0.out]
  rintro e w7 ⟨rfl, hb⟩
  have g_w7 : Below W.heap.size W w7 := (by repeat (first | with_reducible exact bel_refl _ | with_reducible assumption | with_reducible refine bel_set ?_ (by first | (simp; done) | (simp; omega) | omega) _ | with_reducible refine bel_alloc ?_ _ | with_reducible refine bel_drew ?_ | with_reducible refine bel_drewN ?_ _ | with_reducible refine bel_trans ?_ (by assumption)))
  have b0_0 := old_cell hb (b := W.heap.size) (o := 0) (v := .string kd0) (by go_simp)
  have b0_1 := old_cell hb (b := W.heap.size) (o := 1) (v := .slice A0 xs0.length c0) (by go_simp)
  have b0_2 := old_cell hb (b := W.heap.size) (o := 2) (v := .bool no0) (by go_simp)
  have b1_0 := old_cell hb (b := W.heap.size + 1) (o := 0) (v := .string kd1) (by go_simp)
  have b1_1 := old_cell hb (b := W.heap.size + 1) (o := 1) (v := .slice A1 xs1.length c1) (by go_simp)
  replace hr0 := hr0.kept g_w7
  replace hr1 := hr1.kept g_w7
  replace hr2 := hr2.kept g_w7
  have zs_w7 := g_w7.size
  have gW := g_w7
  clear hb g_w7
  have z_b0_0 : W.heap.size < w7.heap.size := cell_lt b0_0
  have z_b1_0 : W.heap.size + 1 < w7.heap.size := cell_lt b1_0
  go_wp2_with fail
  refine (szFact_any kd1 A1 _ c1 _ xs1 _ _ hr1 (by omega) hk1 HZ1.out (by omega) (by omega)).mono ?_
  rw [HF1.out]
  rintro e w8 ⟨rfl, hb⟩
  have g_w8 : Below w7.heap.size w7 w8 := (by repeat (first | with_reducible exact bel_refl _ | with_reducible assumption | with_reducible refine bel_set ?_ (by first | (simp; done) | (simp; omega) | omega) _ | with_reducible refine bel_alloc ?_ _ | with_reducible refine bel_drew ?_ | with_reducible refine bel_drewN ?_ _ | with_reducible refine bel_trans ?_ (by assumption)))
  replace b0_0 := old_cell g_w8 b0_0
  replace b0_1 := old_cell g_w8 b0_1
  replace b0_2 := old_cell g_w8 b0_2
  replace b1_0 := old_cell g_w8 b1_0
  replace b1_1 := old_cell g_w8 b1_1
  replace hr0 := hr0.kept g_w8
  replace hr1 := hr1.kept g_w8
  replace hr2 := hr2.kept g_w8
  have zs_w8 := g_w8.size
  have gW : Below W.heap.size W w8 := bel_trans gW g_w8
  clear hb g_w8
  have z_b0_0 : W.heap.size < w8.heap.size := cell_lt b0_0
  have z_b1_0 : W.heap.size + 1 < w8.heap.size := cell_lt b1_0
  go_wp2_with fail
  refine (szBindS_any A2 _ c2 _ xs2 _ _ hr2 (by omega) HZ2.out (by omega) (by omega)).mono ?_
  rw [HF2.out]
  rintro e w9 ⟨rfl, hb⟩
  have g_w9 : Below w8.heap.size w8 w9 := (by repeat (first | with_reducible exact bel_refl _ | with_reducible assumption | with_reducible refine bel_set ?_ (by first | (simp; done) | (simp; omega) | omega) _ | with_reducible refine bel_alloc ?_ _ | with_reducible refine bel_drew ?_ | with_reducible refine bel_drewN ?_ _ | with_reducible refine bel_trans ?_ (by assumption)))
  replace b0_0 := old_cell g_w9 b0_0
  replace b0_1 := old_cell g_w9 b0_1
  replace b0_2 := old_cell g_w9 b0_2
  replace b1_0 := old_cell g_w9 b1_0
  replace b1_1 := old_cell g_w9 b1_1
  replace hr0 := hr0.kept g_w9
  replace hr1 := hr1.kept g_w9
  replace hr2 := hr2.kept g_w9
  have zs_w9 := g_w9.size
  have gW : Below W.heap.size W w9 := bel_trans gW g_w9
  clear hb g_w9
  have z_b0_0 : W.heap.size < w9.heap.size := cell_lt b0_0
  have z_b1_0 : W.heap.size + 1 < w9.heap.size := cell_lt b1_0
  go_upto_region 11 with fail
  go_cut [8, 9] (fun s8 s9 wx => ∃ A c, s8 = .slice A rs.length c ∧ s9 = .bool rb ∧ OwnT bC 4 wx w9.heap.size 116 (.slice A rs.length c) rs ∧ Below w9.heap.size w9 wx)
  case first =>
    go_region_held3 (fun w' => Below w9.heap.size w9 w' ∧ w'.cell? ⟨W.heap.size, 0, none⟩ = some (.string kd0) ∧ w'.cell? ⟨W.heap.size, 1, none⟩ = some (.slice A0 xs0.length c0) ∧ w'.cell? ⟨W.heap.size, 2, none⟩ = some (.bool no0) ∧ w'.cell? ⟨W.heap.size + 1, 0, none⟩ = some (.string kd1) ∧ w'.cell? ⟨W.heap.size + 1, 1, none⟩ = some (.slice A1 xs1.length c1)) (((refine (fun hB => ⟨hB, old_cell hB b0_0, old_cell hB b0_1, old_cell hB b0_2, old_cell hB b1_0, old_cell hB b1_1⟩ : Below w9.heap.size w9 _ → _) ?_); (repeat (first | exact bel_refl _ | exact bel_drew (bel_refl _) | exact bel_trans (And.left (by assumption)) (by assumption) | assumption))))
      ((first | (go_at_call 21; (with_reducible refine (toPat_any kd0 A0 _ c0 xs0 no0 _ _ (hr0.kept (And.left (by assumption))) (by omega)).mono ?_); rintro e w10 ⟨v_10, rfl, ho_10, hb⟩; obtain ⟨A_10, c_10, rfl, hc_10, _⟩ := ho_10.rd; (try replace ho_11 := ho_11.kept hb); (try replace ho_12 := ho_12.kept hb)) | (go_at_call 38; (with_reducible refine (toFact_any kd1 A1 _ c1 xs1 _ _ (hr1.kept (And.left (by assumption))) (by omega)).mono ?_); rintro e w11 ⟨v_11, rfl, ho_11, hb⟩; obtain ⟨A_11, c_11, rfl, hc_11, _⟩ := ho_11.rd; (try replace ho_10 := ho_10.kept hb); (try replace ho_12 := ho_12.kept hb)) | (go_at_call 26; (with_reducible refine (toBindS_any A2 _ c2 xs2 _ _ (hr2.kept (And.left (by assumption))) (by omega)).mono ?_); rintro e w12 ⟨v_12, rfl, ho_12, hb⟩; obtain ⟨A_12, c_12, rfl, hc_12, _⟩ := ho_12.rd; (try replace ho_10 := ho_10.kept hb); (try replace ho_11 := ho_11.kept hb)) | (go_at_call 37; (with_reducible refine (specMatchPat_any kd0 A_10 _ c_10 xs0 no0 kd1 A_11 _ c_11 xs1 A_12 _ c_12 xs2 rs rb _ _ _ _ (ho_10.rdO) (ho_11.rdO) (ho_12.rdO) (by omega) (by omega) HR.out).mono ?_); dsimp only [tupM]; rintro e w13 ⟨A_13, c_13, rfl, ho_13, hb⟩; (try replace ho_10 := ho_10.kept hb); (try replace ho_11 := ho_11.kept hb); (try replace ho_12 := ho_12.kept hb); replace ho_13 := ho_13.lower (And.left (by assumption) : Below w9.heap.size w9 _).size)))
    all_goals
      rename_i hHeld
      go_wp2_with fail
      go_meet
      case rel => exact ⟨_, _, rfl, rfl, ho_13, hHeld.1⟩
  case rest =>
    obtain ⟨A_13, c_13, rfl, rfl, ho_13, hB⟩ := hcut
    replace b0_0 := old_cell hB b0_0
    replace b0_1 := old_cell hB b0_1
    replace b0_2 := old_cell hB b0_2
    replace b1_0 := old_cell hB b1_0
    replace b1_1 := old_cell hB b1_1
    replace hr0 := hr0.kept hB
    replace hr1 := hr1.kept hB
    replace hr2 := hr2.kept hB
    have zs_14 := hB.size
    replace gW := bel_trans gW hB
    clear hB
    have z_b0_0 : W.heap.size < wc.heap.size := cell_lt b0_0
    have z_b1_0 : W.heap.size + 1 < wc.heap.size := cell_lt b1_0
    have in_13 : InB _ w9.heap.size wc.heap.size := ho_13.inL (by first | exact Nat.le_refl _ | (simp; done) | (simp; omega) | omega)
    go_wp2_with fail
    refine (toPat_any kd0 A0 _ c0 xs0 no0 _ _ hr0 (by omega)).mono ?_
    rintro e w15 ⟨v_15, rfl, ho_15, hb⟩
    obtain ⟨A_15, c_15, rfl, hc_15, _⟩ := ho_15.rd
    have g_w15 : Below wc.heap.size wc w15 := (by repeat (first | with_reducible exact bel_refl _ | with_reducible assumption | with_reducible refine bel_set ?_ (by first | (simp; done) | (simp; omega) | omega) _ | with_reducible refine bel_alloc ?_ _ | with_reducible refine bel_drew ?_ | with_reducible refine bel_drewN ?_ _ | with_reducible refine bel_trans ?_ (by assumption)))
    replace b0_0 := old_cell g_w15 b0_0
    replace b0_1 := old_cell g_w15 b0_1
    replace b0_2 := old_cell g_w15 b0_2
    replace b1_0 := old_cell g_w15 b1_0
    replace b1_1 := old_cell g_w15 b1_1
    replace hr0 := hr0.kept g_w15
    replace hr1 := hr1.kept g_w15
    replace hr2 := hr2.kept g_w15
    replace ho_13 := ho_13.kept g_w15
    have zs_w15 := g_w15.size
    have gW : Below W.heap.size W w15 := bel_trans gW g_w15
    clear hb g_w15
    have z_b0_0 : W.heap.size < w15.heap.size := cell_lt b0_0
    have z_b1_0 : W.heap.size + 1 < w15.heap.size := cell_lt b1_0
    have in_15 : InB _ wc.heap.size w15.heap.size := ho_15.inL (by first | exact Nat.le_refl _ | (simp; done) | (simp; omega) | omega)
    go_wp2_with fail
    refine (toFact_any kd1 A1 _ c1 xs1 _ _ (hr1.alloc _) (by omega)).mono ?_
    rintro e w16 ⟨v_16, rfl, ho_16, hb⟩
    obtain ⟨A_16, c_16, rfl, hc_16, _⟩ := ho_16.rd
    have g_w16 : Below w15.heap.size w15 w16 := (by repeat (first | with_reducible exact bel_refl _ | with_reducible assumption | with_reducible refine bel_set ?_ (by first | (simp; done) | (simp; omega) | omega) _ | with_reducible refine bel_alloc ?_ _ | with_reducible refine bel_drew ?_ | with_reducible refine bel_drewN ?_ _ | with_reducible refine bel_trans ?_ (by assumption)))
    have b2_0 := old_cell hb (b := w15.heap.size) (o := 0) (v := .string kd0) (by go_simp)
    have b2_1 := old_cell hb (b := w15.heap.size) (o := 1) (v := .slice A_15 xs0.length c_15) (by go_simp)
    have b2_2 := old_cell hb (b := w15.heap.size) (o := 2) (v := .bool no0) (by go_simp)
    replace b0_0 := old_cell g_w16 b0_0
    replace b0_1 := old_cell g_w16 b0_1
    replace b0_2 := old_cell g_w16 b0_2
    replace b1_0 := old_cell g_w16 b1_0
    replace b1_1 := old_cell g_w16 b1_1
    replace hr0 := hr0.kept g_w16
    replace hr1 := hr1.kept g_w16
    replace hr2 := hr2.kept g_w16
    replace ho_13 := ho_13.kept g_w16
    replace ho_15 := ho_15.kept g_w16
    have zs_w16 := g_w16.size
    have gW : Below W.heap.size W w16 := bel_trans gW g_w16
    clear hb g_w16
    have z_b0_0 : W.heap.size < w16.heap.size := cell_lt b0_0
    have z_b1_0 : W.heap.size + 1 < w16.heap.size := cell_lt b1_0
    have z_b2_0 : w15.heap.size < w16.heap.size := cell_lt b2_0
    have in_16 : InB _ (w15.heap.size + 1) w16.heap.size := ho_16.inL (by first | exact Nat.le_refl _ | (simp; done) | (simp; omega) | omega)
    go_wp2_with fail
    refine (toBindS_any A2 _ c2 xs2 _ _ (hr2.alloc _) (by omega)).mono ?_
    rintro e w17 ⟨v_17, rfl, ho_17, hb⟩
    obtain ⟨A_17, c_17, rfl, hc_17, _⟩ := ho_17.rd
    have g_w17 : Below w16.heap.size w16 w17 := (by repeat (first | with_reducible exact bel_refl _ | with_reducible assumption | with_reducible refine bel_set ?_ (by first | (simp; done) | (simp; omega) | omega) _ | with_reducible refine bel_alloc ?_ _ | with_reducible refine bel_drew ?_ | with_reducible refine bel_drewN ?_ _ | with_reducible refine bel_trans ?_ (by assumption)))
    have b3_0 := old_cell hb (b := w16.heap.size) (o := 0) (v := .string kd1) (by go_simp)
    have b3_1 := old_cell hb (b := w16.heap.size) (o := 1) (v := .slice A_16 xs1.length c_16) (by go_simp)
    replace b0_0 := old_cell g_w17 b0_0
    replace b0_1 := old_cell g_w17 b0_1
    replace b0_2 := old_cell g_w17 b0_2
    replace b1_0 := old_cell g_w17 b1_0
    replace b1_1 := old_cell g_w17 b1_1
    replace b2_0 := old_cell g_w17 b2_0
    replace b2_1 := old_cell g_w17 b2_1
    replace b2_2 := old_cell g_w17 b2_2
    replace hr0 := hr0.kept g_w17
    replace hr1 := hr1.kept g_w17
    replace hr2 := hr2.kept g_w17
    replace ho_13 := ho_13.kept g_w17
    replace ho_15 := ho_15.kept g_w17
    replace ho_16 := ho_16.kept g_w17
    have zs_w17 := g_w17.size
    have gW : Below W.heap.size W w17 := bel_trans gW g_w17
    clear hb g_w17
    have z_b0_0 : W.heap.size < w17.heap.size := cell_lt b0_0
    have z_b1_0 : W.heap.size + 1 < w17.heap.size := cell_lt b1_0
    have z_b2_0 : w15.heap.size < w17.heap.size := cell_lt b2_0
    have z_b3_0 : w16.heap.size < w17.heap.size := cell_lt b3_0
    have in_17 : InB _ (w16.heap.size + 1) w17.heap.size := ho_17.inL (by first | exact Nat.le_refl _ | (simp; done) | (simp; omega) | omega)
    go_wp2_with fail
    refine (implMatchPat_any kd0 A_15 _ c_15 xs0 no0 kd1 A_16 _ c_16 xs1 A_17 _ c_17 xs2 rs rb _ _ _ _ (ho_15.rdO) (ho_16.rdO) (ho_17.rdO) (by omega) (by omega) HR.out).mono ?_
    dsimp only [tupM]
    rintro e w18 ⟨A_18, c_18, rfl, ho_18, hb⟩
    have g_w18 : Below w17.heap.size w17 w18 := (by repeat (first | with_reducible exact bel_refl _ | with_reducible assumption | with_reducible refine bel_set ?_ (by first | (simp; done) | (simp; omega) | omega) _ | with_reducible refine bel_alloc ?_ _ | with_reducible refine bel_drew ?_ | with_reducible refine bel_drewN ?_ _ | with_reducible refine bel_trans ?_ (by assumption)))
    replace b0_0 := old_cell g_w18 b0_0
    replace b0_1 := old_cell g_w18 b0_1
    replace b0_2 := old_cell g_w18 b0_2
    replace b1_0 := old_cell g_w18 b1_0
    replace b1_1 := old_cell g_w18 b1_1
    replace b2_0 := old_cell g_w18 b2_0
    replace b2_1 := old_cell g_w18 b2_1
    replace b2_2 := old_cell g_w18 b2_2
    replace b3_0 := old_cell g_w18 b3_0
    replace b3_1 := old_cell g_w18 b3_1
    replace hr0 := hr0.kept g_w18
    replace hr1 := hr1.kept g_w18
    replace hr2 := hr2.kept g_w18
    replace ho_13 := ho_13.kept g_w18
    replace ho_15 := ho_15.kept g_w18
    replace ho_16 := ho_16.kept g_w18
    replace ho_17 := ho_17.kept g_w18
    have zs_w18 := g_w18.size
    have gW : Below W.heap.size W w18 := bel_trans gW g_w18
    clear hb g_w18
    have z_b0_0 : W.heap.size < w18.heap.size := cell_lt b0_0
    have z_b1_0 : W.heap.size + 1 < w18.heap.size := cell_lt b1_0
    have z_b2_0 : w15.heap.size < w18.heap.size := cell_lt b2_0
    have z_b3_0 : w16.heap.size < w18.heap.size := cell_lt b3_0
    have in_18 : InB _ w17.heap.size w18.heap.size := ho_18.inL (by first | exact Nat.le_refl _ | (simp; done) | (simp; omega) | omega)
    go_wp2_with fail
    refine (eqBindS_any A_18 A_13 _ c_18 _ c_13 rs rs _ _ _ (ho_18.rdO) (ho_13.rdO) (by omega)).mono ?_
    rw [decide_eq_true rfl]
    rintro e w19 ⟨rfl, hb⟩
    have g_w19 : Below w18.heap.size w18 w19 := (by repeat (first | with_reducible exact bel_refl _ | with_reducible assumption | with_reducible refine bel_set ?_ (by first | (simp; done) | (simp; omega) | omega) _ | with_reducible refine bel_alloc ?_ _ | with_reducible refine bel_drew ?_ | with_reducible refine bel_drewN ?_ _ | with_reducible refine bel_trans ?_ (by assumption)))
    replace b0_0 := old_cell g_w19 b0_0
    replace b0_1 := old_cell g_w19 b0_1
    replace b0_2 := old_cell g_w19 b0_2
    replace b1_0 := old_cell g_w19 b1_0
    replace b1_1 := old_cell g_w19 b1_1
    replace b2_0 := old_cell g_w19 b2_0
    replace b2_1 := old_cell g_w19 b2_1
    replace b2_2 := old_cell g_w19 b2_2
    replace b3_0 := old_cell g_w19 b3_0
    replace b3_1 := old_cell g_w19 b3_1
    replace hr0 := hr0.kept g_w19
    replace hr1 := hr1.kept g_w19
    replace hr2 := hr2.kept g_w19
    replace ho_13 := ho_13.kept g_w19
    replace ho_15 := ho_15.kept g_w19
    replace ho_16 := ho_16.kept g_w19
    replace ho_17 := ho_17.kept g_w19
    replace ho_18 := ho_18.kept g_w19
    have zs_w19 := g_w19.size
    have gW : Below W.heap.size W w19 := bel_trans gW g_w19
    clear hb g_w19
    have z_b0_0 : W.heap.size < w19.heap.size := cell_lt b0_0
    have z_b1_0 : W.heap.size + 1 < w19.heap.size := cell_lt b1_0
    have z_b2_0 : w15.heap.size < w19.heap.size := cell_lt b2_0
    have z_b3_0 : w16.heap.size < w19.heap.size := cell_lt b3_0
    go_wp2_with fail
    go_region_held3 (fun w' => Below w19.heap.size w19 w' ∧ w'.cell? ⟨W.heap.size, 0, none⟩ = some (.string kd0) ∧ w'.cell? ⟨W.heap.size, 1, none⟩ = some (.slice A0 xs0.length c0) ∧ w'.cell? ⟨W.heap.size, 2, none⟩ = some (.bool no0) ∧ w'.cell? ⟨W.heap.size + 1, 0, none⟩ = some (.string kd1) ∧ w'.cell? ⟨W.heap.size + 1, 1, none⟩ = some (.slice A1 xs1.length c1) ∧ w'.cell? ⟨w15.heap.size, 0, none⟩ = some (.string kd0) ∧ w'.cell? ⟨w15.heap.size, 1, none⟩ = some (.slice A_15 xs0.length c_15) ∧ w'.cell? ⟨w15.heap.size, 2, none⟩ = some (.bool no0) ∧ w'.cell? ⟨w16.heap.size, 0, none⟩ = some (.string kd1) ∧ w'.cell? ⟨w16.heap.size, 1, none⟩ = some (.slice A_16 xs1.length c_16)) (((refine (fun hB => ⟨hB, old_cell hB b0_0, old_cell hB b0_1, old_cell hB b0_2, old_cell hB b1_0, old_cell hB b1_1, old_cell hB b2_0, old_cell hB b2_1, old_cell hB b2_2, old_cell hB b3_0, old_cell hB b3_1⟩ : Below w19.heap.size w19 _ → _) ?_); (repeat (first | exact bel_refl _ | exact bel_drew (bel_refl _) | exact bel_trans (And.left (by assumption)) (by assumption) | assumption))))
      ((first | (go_at_call 21; (with_reducible refine (toPat_any kd0 A0 _ c0 xs0 no0 _ _ (hr0.kept (And.left (by assumption))) (by omega)).mono ?_); rintro e w20 ⟨v_20, rfl, ho_20, hb⟩; obtain ⟨A_20, c_20, rfl, hc_20, _⟩ := ho_20.rd) | (go_at_call 23; (with_reducible refine (eqPat_any kd0 kd0 A_15 A_20 _ c_15 _ c_20 xs0 xs0 no0 no0 _ _ _ ((ho_15.rdO).kept (And.left (by assumption))) (ho_20.rdO) (by omega)).mono ?_); rw [decide_eq_true rfl]; rintro e w21 ⟨rfl, hb⟩; (try replace ho_20 := ho_20.kept hb))))
    rename_i hHeld
    obtain ⟨hB, _⟩ := hHeld
    replace b0_0 := old_cell hB b0_0
    replace b0_1 := old_cell hB b0_1
    replace b0_2 := old_cell hB b0_2
    replace b1_0 := old_cell hB b1_0
    replace b1_1 := old_cell hB b1_1
    replace b2_0 := old_cell hB b2_0
    replace b2_1 := old_cell hB b2_1
    replace b2_2 := old_cell hB b2_2
    replace b3_0 := old_cell hB b3_0
    replace b3_1 := old_cell hB b3_1
    replace hr0 := hr0.kept hB
    replace hr1 := hr1.kept hB
    replace hr2 := hr2.kept hB
    replace ho_13 := ho_13.kept hB
    replace ho_15 := ho_15.kept hB
    replace ho_16 := ho_16.kept hB
    replace ho_17 := ho_17.kept hB
    replace ho_18 := ho_18.kept hB
    have zs_22 := hB.size
    replace gW := bel_trans gW hB
    clear hB
    have z_b0_0 : W.heap.size < w21.heap.size := cell_lt b0_0
    have z_b1_0 : W.heap.size + 1 < w21.heap.size := cell_lt b1_0
    have z_b2_0 : w15.heap.size < w21.heap.size := cell_lt b2_0
    have z_b3_0 : w16.heap.size < w21.heap.size := cell_lt b3_0
    go_wp2_with fail
    go_region_held3 (fun w' => Below w21.heap.size w21 w' ∧ w'.cell? ⟨W.heap.size, 0, none⟩ = some (.string kd0) ∧ w'.cell? ⟨W.heap.size, 1, none⟩ = some (.slice A0 xs0.length c0) ∧ w'.cell? ⟨W.heap.size, 2, none⟩ = some (.bool no0) ∧ w'.cell? ⟨W.heap.size + 1, 0, none⟩ = some (.string kd1) ∧ w'.cell? ⟨W.heap.size + 1, 1, none⟩ = some (.slice A1 xs1.length c1) ∧ w'.cell? ⟨w15.heap.size, 0, none⟩ = some (.string kd0) ∧ w'.cell? ⟨w15.heap.size, 1, none⟩ = some (.slice A_15 xs0.length c_15) ∧ w'.cell? ⟨w15.heap.size, 2, none⟩ = some (.bool no0) ∧ w'.cell? ⟨w16.heap.size, 0, none⟩ = some (.string kd1) ∧ w'.cell? ⟨w16.heap.size, 1, none⟩ = some (.slice A_16 xs1.length c_16)) (((refine (fun hB => ⟨hB, old_cell hB b0_0, old_cell hB b0_1, old_cell hB b0_2, old_cell hB b1_0, old_cell hB b1_1, old_cell hB b2_0, old_cell hB b2_1, old_cell hB b2_2, old_cell hB b3_0, old_cell hB b3_1⟩ : Below w21.heap.size w21 _ → _) ?_); (repeat (first | exact bel_refl _ | exact bel_drew (bel_refl _) | exact bel_trans (And.left (by assumption)) (by assumption) | assumption))))
      ((first | (go_at_call 38; (with_reducible refine (toFact_any kd1 A1 _ c1 xs1 _ _ (hr1.kept (And.left (by assumption))) (by omega)).mono ?_); rintro e w23 ⟨v_23, rfl, ho_23, hb⟩; obtain ⟨A_23, c_23, rfl, hc_23, _⟩ := ho_23.rd) | (go_at_call 40; (with_reducible refine (eqFact_any kd1 kd1 A_16 A_23 _ c_16 _ c_23 xs1 xs1 _ _ _ ((ho_16.rdO).kept (And.left (by assumption))) (ho_23.rdO) (by omega)).mono ?_); rw [decide_eq_true rfl]; rintro e w24 ⟨rfl, hb⟩; (try replace ho_23 := ho_23.kept hb))))
    rename_i hHeld
    obtain ⟨hB, _⟩ := hHeld
    replace b0_0 := old_cell hB b0_0
    replace b0_1 := old_cell hB b0_1
    replace b0_2 := old_cell hB b0_2
    replace b1_0 := old_cell hB b1_0
    replace b1_1 := old_cell hB b1_1
    replace b2_0 := old_cell hB b2_0
    replace b2_1 := old_cell hB b2_1
    replace b2_2 := old_cell hB b2_2
    replace b3_0 := old_cell hB b3_0
    replace b3_1 := old_cell hB b3_1
    replace hr0 := hr0.kept hB
    replace hr1 := hr1.kept hB
    replace hr2 := hr2.kept hB
    replace ho_13 := ho_13.kept hB
    replace ho_15 := ho_15.kept hB
    replace ho_16 := ho_16.kept hB
    replace ho_17 := ho_17.kept hB
    replace ho_18 := ho_18.kept hB
    have zs_25 := hB.size
    replace gW := bel_trans gW hB
    clear hB
    have z_b0_0 : W.heap.size < w24.heap.size := cell_lt b0_0
    have z_b1_0 : W.heap.size + 1 < w24.heap.size := cell_lt b1_0
    have z_b2_0 : w15.heap.size < w24.heap.size := cell_lt b2_0
    have z_b3_0 : w16.heap.size < w24.heap.size := cell_lt b3_0
    go_wp2_with fail
    refine (toBindS_any A2 _ c2 xs2 _ _ hr2 (by omega)).mono ?_
    rintro e w26 ⟨v_26, rfl, ho_26, hb⟩
    obtain ⟨A_26, c_26, rfl, hc_26, _⟩ := ho_26.rd
    have g_w26 : Below w24.heap.size w24 w26 := (by repeat (first | with_reducible exact bel_refl _ | with_reducible assumption | with_reducible refine bel_set ?_ (by first | (simp; done) | (simp; omega) | omega) _ | with_reducible refine bel_alloc ?_ _ | with_reducible refine bel_drew ?_ | with_reducible refine bel_drewN ?_ _ | with_reducible refine bel_trans ?_ (by assumption)))
    replace b0_0 := old_cell g_w26 b0_0
    replace b0_1 := old_cell g_w26 b0_1
    replace b0_2 := old_cell g_w26 b0_2
    replace b1_0 := old_cell g_w26 b1_0
    replace b1_1 := old_cell g_w26 b1_1
    replace b2_0 := old_cell g_w26 b2_0
    replace b2_1 := old_cell g_w26 b2_1
    replace b2_2 := old_cell g_w26 b2_2
    replace b3_0 := old_cell g_w26 b3_0
    replace b3_1 := old_cell g_w26 b3_1
    replace hr0 := hr0.kept g_w26
    replace hr1 := hr1.kept g_w26
    replace hr2 := hr2.kept g_w26
    replace ho_13 := ho_13.kept g_w26
    replace ho_15 := ho_15.kept g_w26
    replace ho_16 := ho_16.kept g_w26
    replace ho_17 := ho_17.kept g_w26
    replace ho_18 := ho_18.kept g_w26
    have zs_w26 := g_w26.size
    have gW : Below W.heap.size W w26 := bel_trans gW g_w26
    clear hb g_w26
    have z_b0_0 : W.heap.size < w26.heap.size := cell_lt b0_0
    have z_b1_0 : W.heap.size + 1 < w26.heap.size := cell_lt b1_0
    have z_b2_0 : w15.heap.size < w26.heap.size := cell_lt b2_0
    have z_b3_0 : w16.heap.size < w26.heap.size := cell_lt b3_0
    have in_26 : InB _ w24.heap.size w26.heap.size := ho_26.inL (by first | exact Nat.le_refl _ | (simp; done) | (simp; omega) | omega)
    go_wp2_with fail
    refine (eqBindS_any A_17 A_26 _ c_17 _ c_26 xs2 xs2 _ _ _ (ho_17.rdO) (ho_26.rdO) (by omega)).mono ?_
    rw [decide_eq_true rfl]
    rintro e w27 ⟨rfl, hb⟩
    have g_w27 : Below w26.heap.size w26 w27 := (by repeat (first | with_reducible exact bel_refl _ | with_reducible assumption | with_reducible refine bel_set ?_ (by first | (simp; done) | (simp; omega) | omega) _ | with_reducible refine bel_alloc ?_ _ | with_reducible refine bel_drew ?_ | with_reducible refine bel_drewN ?_ _ | with_reducible refine bel_trans ?_ (by assumption)))
    replace b0_0 := old_cell g_w27 b0_0
    replace b0_1 := old_cell g_w27 b0_1
    replace b0_2 := old_cell g_w27 b0_2
    replace b1_0 := old_cell g_w27 b1_0
    replace b1_1 := old_cell g_w27 b1_1
    replace b2_0 := old_cell g_w27 b2_0
    replace b2_1 := old_cell g_w27 b2_1
    replace b2_2 := old_cell g_w27 b2_2
    replace b3_0 := old_cell g_w27 b3_0
    replace b3_1 := old_cell g_w27 b3_1
    replace hr0 := hr0.kept g_w27
    replace hr1 := hr1.kept g_w27
    replace hr2 := hr2.kept g_w27
    replace ho_13 := ho_13.kept g_w27
    replace ho_15 := ho_15.kept g_w27
    replace ho_16 := ho_16.kept g_w27
    replace ho_17 := ho_17.kept g_w27
    replace ho_18 := ho_18.kept g_w27
    replace ho_26 := ho_26.kept g_w27
    have zs_w27 := g_w27.size
    have gW : Below W.heap.size W w27 := bel_trans gW g_w27
    clear hb g_w27
    have z_b0_0 : W.heap.size < w27.heap.size := cell_lt b0_0
    have z_b1_0 : W.heap.size + 1 < w27.heap.size := cell_lt b1_0
    have z_b2_0 : w15.heap.size < w27.heap.size := cell_lt b2_0
    have z_b3_0 : w16.heap.size < w27.heap.size := cell_lt b3_0
    go_wp2_with fail
    refine (markPat_any kd0 A_15 _ c_15 xs0 no0 _ 1 _ _ ho_15 rfl (by first | rfl | omega | simp) (by omega) (by omega)).mono ?_
    rintro e w28 ⟨rfl, hm, hg⟩
    have gg : Below W.heap.size w27 w28 := below_of_grown hg in_15 (by omega) (by omega)
    have zs_w28 := hg.size
    replace b0_0 := cell_far b0_0 hg in_15 (by omega)
    replace b0_1 := cell_far b0_1 hg in_15 (by omega)
    replace b0_2 := cell_far b0_2 hg in_15 (by omega)
    replace b1_0 := cell_far b1_0 hg in_15 (by omega)
    replace b1_1 := cell_far b1_1 hg in_15 (by omega)
    replace b2_0 := cell_far b2_0 hg in_15 (by omega)
    replace b2_1 := cell_far b2_1 hg in_15 (by omega)
    replace b2_2 := cell_far b2_2 hg in_15 (by omega)
    replace b3_0 := cell_far b3_0 hg in_15 (by omega)
    replace b3_1 := cell_far b3_1 hg in_15 (by omega)
    replace hr0 := hr0.belowB gg
    replace hr1 := hr1.belowB gg
    replace hr2 := hr2.belowB gg
    replace ho_13 := ho_13.far hg in_13 in_15 (by omega)
    replace ho_16 := ho_16.far hg in_16 in_15 (by omega)
    replace ho_17 := ho_17.far hg in_17 in_15 (by omega)
    replace ho_18 := ho_18.far hg in_18 in_15 (by omega)
    replace ho_26 := ho_26.far hg in_26 in_15 (by omega)
    have gW : Below W.heap.size W w28 := gW.trans gg
    clear ho_15
    have ho_15 := hm
    clear hm hg gg
    have z_b0_0 : W.heap.size < w28.heap.size := cell_lt b0_0
    have z_b1_0 : W.heap.size + 1 < w28.heap.size := cell_lt b1_0
    have z_b2_0 : w15.heap.size < w28.heap.size := cell_lt b2_0
    have z_b3_0 : w16.heap.size < w28.heap.size := cell_lt b3_0
    go_wp2_with fail
    refine (markFact_any kd1 A_16 _ c_16 xs1 _ (1 + 5 * xs0.length) _ _ ho_16 rfl (by first | rfl | omega | simp) (by omega) (by omega)).mono ?_
    rintro e w29 ⟨rfl, hm, hg⟩
    have gg : Below W.heap.size w28 w29 := below_of_grown hg in_16 (by omega) (by omega)
    have zs_w29 := hg.size
    replace b0_0 := cell_far b0_0 hg in_16 (by omega)
    replace b0_1 := cell_far b0_1 hg in_16 (by omega)
    replace b0_2 := cell_far b0_2 hg in_16 (by omega)
    replace b1_0 := cell_far b1_0 hg in_16 (by omega)
    replace b1_1 := cell_far b1_1 hg in_16 (by omega)
    replace b2_0 := cell_far b2_0 hg in_16 (by omega)
    replace b2_1 := cell_far b2_1 hg in_16 (by omega)
    replace b2_2 := cell_far b2_2 hg in_16 (by omega)
    replace b3_0 := cell_far b3_0 hg in_16 (by omega)
    replace b3_1 := cell_far b3_1 hg in_16 (by omega)
    replace hr0 := hr0.belowB gg
    replace hr1 := hr1.belowB gg
    replace hr2 := hr2.belowB gg
    replace ho_13 := ho_13.far hg in_13 in_16 (by omega)
    replace ho_15 := ho_15.far hg in_15 in_16 (by omega)
    replace ho_17 := ho_17.far hg in_17 in_16 (by omega)
    replace ho_18 := ho_18.far hg in_18 in_16 (by omega)
    replace ho_26 := ho_26.far hg in_26 in_16 (by omega)
    have gW : Below W.heap.size W w29 := gW.trans gg
    clear ho_16
    have ho_16 := hm
    clear hm hg gg
    have z_b0_0 : W.heap.size < w29.heap.size := cell_lt b0_0
    have z_b1_0 : W.heap.size + 1 < w29.heap.size := cell_lt b1_0
    have z_b2_0 : w15.heap.size < w29.heap.size := cell_lt b2_0
    have z_b3_0 : w16.heap.size < w29.heap.size := cell_lt b3_0
    go_wp2_with fail
    refine (markBindS_any A_17 _ c_17 xs2 _ ((1 + 5 * xs0.length) + 3 * xs1.length) _ _ ho_17 rfl (by first | rfl | omega | simp) (by omega) (by omega)).mono ?_
    rintro e w30 ⟨rfl, hm, hg⟩
    have gg : Below W.heap.size w29 w30 := below_of_grown hg in_17 (by omega) (by omega)
    have zs_w30 := hg.size
    replace b0_0 := cell_far b0_0 hg in_17 (by omega)
    replace b0_1 := cell_far b0_1 hg in_17 (by omega)
    replace b0_2 := cell_far b0_2 hg in_17 (by omega)
    replace b1_0 := cell_far b1_0 hg in_17 (by omega)
    replace b1_1 := cell_far b1_1 hg in_17 (by omega)
    replace b2_0 := cell_far b2_0 hg in_17 (by omega)
    replace b2_1 := cell_far b2_1 hg in_17 (by omega)
    replace b2_2 := cell_far b2_2 hg in_17 (by omega)
    replace b3_0 := cell_far b3_0 hg in_17 (by omega)
    replace b3_1 := cell_far b3_1 hg in_17 (by omega)
    replace hr0 := hr0.belowB gg
    replace hr1 := hr1.belowB gg
    replace hr2 := hr2.belowB gg
    replace ho_13 := ho_13.far hg in_13 in_17 (by omega)
    replace ho_15 := ho_15.far hg in_15 in_17 (by omega)
    replace ho_16 := ho_16.far hg in_16 in_17 (by omega)
    replace ho_18 := ho_18.far hg in_18 in_17 (by omega)
    replace ho_26 := ho_26.far hg in_26 in_17 (by omega)
    have gW : Below W.heap.size W w30 := gW.trans gg
    clear ho_17
    have ho_17 := hm
    clear hm hg gg
    have z_b0_0 : W.heap.size < w30.heap.size := cell_lt b0_0
    have z_b1_0 : W.heap.size + 1 < w30.heap.size := cell_lt b1_0
    have z_b2_0 : w15.heap.size < w30.heap.size := cell_lt b2_0
    have z_b3_0 : w16.heap.size < w30.heap.size := cell_lt b3_0
    go_wp2_with fail
    refine (eqBindS_any A_18 A_13 _ c_18 _ c_13 rs rs _ _ _ (ho_18.rdO) (ho_13.rdO) (by omega)).mono ?_
    rw [decide_eq_true rfl]
    rintro e w31 ⟨rfl, hb⟩
    have g_w31 : Below w30.heap.size w30 w31 := (by repeat (first | with_reducible exact bel_refl _ | with_reducible assumption | with_reducible refine bel_set ?_ (by first | (simp; done) | (simp; omega) | omega) _ | with_reducible refine bel_alloc ?_ _ | with_reducible refine bel_drew ?_ | with_reducible refine bel_drewN ?_ _ | with_reducible refine bel_trans ?_ (by assumption)))
    replace b0_0 := old_cell g_w31 b0_0
    replace b0_1 := old_cell g_w31 b0_1
    replace b0_2 := old_cell g_w31 b0_2
    replace b1_0 := old_cell g_w31 b1_0
    replace b1_1 := old_cell g_w31 b1_1
    replace b2_0 := old_cell g_w31 b2_0
    replace b2_1 := old_cell g_w31 b2_1
    replace b2_2 := old_cell g_w31 b2_2
    replace b3_0 := old_cell g_w31 b3_0
    replace b3_1 := old_cell g_w31 b3_1
    replace hr0 := hr0.kept g_w31
    replace hr1 := hr1.kept g_w31
    replace hr2 := hr2.kept g_w31
    replace ho_13 := ho_13.kept g_w31
    replace ho_15 := ho_15.kept g_w31
    replace ho_16 := ho_16.kept g_w31
    replace ho_17 := ho_17.kept g_w31
    replace ho_18 := ho_18.kept g_w31
    replace ho_26 := ho_26.kept g_w31
    have zs_w31 := g_w31.size
    have gW : Below W.heap.size W w31 := bel_trans gW g_w31
    clear hb g_w31
    have z_b0_0 : W.heap.size < w31.heap.size := cell_lt b0_0
    have z_b1_0 : W.heap.size + 1 < w31.heap.size := cell_lt b1_0
    have z_b2_0 : w15.heap.size < w31.heap.size := cell_lt b2_0
    have z_b3_0 : w16.heap.size < w31.heap.size := cell_lt b3_0
    go_wp2_with fail
    refine (markBindS_any A_18 _ c_18 rs _ 1 _ _ ho_18 rfl (by first | rfl | omega | simp) (by omega) (by omega)).mono ?_
    rintro e w32 ⟨rfl, hm, hg⟩
    have gg : Below W.heap.size w31 w32 := below_of_grown hg in_18 (by omega) (by omega)
    have zs_w32 := hg.size
    replace b0_0 := cell_far b0_0 hg in_18 (by omega)
    replace b0_1 := cell_far b0_1 hg in_18 (by omega)
    replace b0_2 := cell_far b0_2 hg in_18 (by omega)
    replace b1_0 := cell_far b1_0 hg in_18 (by omega)
    replace b1_1 := cell_far b1_1 hg in_18 (by omega)
    replace b2_0 := cell_far b2_0 hg in_18 (by omega)
    replace b2_1 := cell_far b2_1 hg in_18 (by omega)
    replace b2_2 := cell_far b2_2 hg in_18 (by omega)
    replace b3_0 := cell_far b3_0 hg in_18 (by omega)
    replace b3_1 := cell_far b3_1 hg in_18 (by omega)
    replace hr0 := hr0.belowB gg
    replace hr1 := hr1.belowB gg
    replace hr2 := hr2.belowB gg
    replace ho_13 := ho_13.far hg in_13 in_18 (by omega)
    replace ho_15 := ho_15.far hg in_15 in_18 (by omega)
    replace ho_16 := ho_16.far hg in_16 in_18 (by omega)
    replace ho_17 := ho_17.far hg in_17 in_18 (by omega)
    replace ho_26 := ho_26.far hg in_26 in_18 (by omega)
    have gW : Below W.heap.size W w32 := gW.trans gg
    clear ho_18
    have ho_18 := hm
    clear hm hg gg
    have z_b0_0 : W.heap.size < w32.heap.size := cell_lt b0_0
    have z_b1_0 : W.heap.size + 1 < w32.heap.size := cell_lt b1_0
    have z_b2_0 : w15.heap.size < w32.heap.size := cell_lt b2_0
    have z_b3_0 : w16.heap.size < w32.heap.size := cell_lt b3_0
    go_wp2_with fail
    refine (heldBindS_any A_18 c_18 rs.length _ 1 _ _ (ho_18.rdM (marksBind_len _ _)) (by first | rfl | omega | simp) (by omega) (by omega)).mono ?_
    rintro e w33 ⟨rfl, hb⟩
    have g_w33 : Below w32.heap.size w32 w33 := (by repeat (first | with_reducible exact bel_refl _ | with_reducible assumption | with_reducible refine bel_set ?_ (by first | (simp; done) | (simp; omega) | omega) _ | with_reducible refine bel_alloc ?_ _ | with_reducible refine bel_drew ?_ | with_reducible refine bel_drewN ?_ _ | with_reducible refine bel_trans ?_ (by assumption)))
    replace b0_0 := old_cell g_w33 b0_0
    replace b0_1 := old_cell g_w33 b0_1
    replace b0_2 := old_cell g_w33 b0_2
    replace b1_0 := old_cell g_w33 b1_0
    replace b1_1 := old_cell g_w33 b1_1
    replace b2_0 := old_cell g_w33 b2_0
    replace b2_1 := old_cell g_w33 b2_1
    replace b2_2 := old_cell g_w33 b2_2
    replace b3_0 := old_cell g_w33 b3_0
    replace b3_1 := old_cell g_w33 b3_1
    replace hr0 := hr0.kept g_w33
    replace hr1 := hr1.kept g_w33
    replace hr2 := hr2.kept g_w33
    replace ho_13 := ho_13.kept g_w33
    replace ho_15 := ho_15.kept g_w33
    replace ho_16 := ho_16.kept g_w33
    replace ho_17 := ho_17.kept g_w33
    replace ho_18 := ho_18.kept g_w33
    replace ho_26 := ho_26.kept g_w33
    have zs_w33 := g_w33.size
    have gW : Below W.heap.size W w33 := bel_trans gW g_w33
    clear hb g_w33
    have z_b0_0 : W.heap.size < w33.heap.size := cell_lt b0_0
    have z_b1_0 : W.heap.size + 1 < w33.heap.size := cell_lt b1_0
    have z_b2_0 : w15.heap.size < w33.heap.size := cell_lt b2_0
    have z_b3_0 : w16.heap.size < w33.heap.size := cell_lt b3_0
    go_upto_region 38 with fail
    go_cut [18, 19] (fun s18 s19 wx => ∃ A c, s18 = .slice A rs.length c ∧ s19 = .bool rb ∧ OwnT bC 4 wx w33.heap.size 116 (.slice A rs.length c) rs ∧ Below w33.heap.size w33 wx)
    case first =>
      go_region_held3 (fun w' => Below w33.heap.size w33 w' ∧ w'.cell? ⟨W.heap.size, 0, none⟩ = some (.string kd0) ∧ w'.cell? ⟨W.heap.size, 1, none⟩ = some (.slice A0 xs0.length c0) ∧ w'.cell? ⟨W.heap.size, 2, none⟩ = some (.bool no0) ∧ w'.cell? ⟨W.heap.size + 1, 0, none⟩ = some (.string kd1) ∧ w'.cell? ⟨W.heap.size + 1, 1, none⟩ = some (.slice A1 xs1.length c1) ∧ w'.cell? ⟨w15.heap.size, 0, none⟩ = some (.string kd0) ∧ w'.cell? ⟨w15.heap.size, 1, none⟩ = some (.slice A_15 xs0.length c_15) ∧ w'.cell? ⟨w15.heap.size, 2, none⟩ = some (.bool no0) ∧ w'.cell? ⟨w16.heap.size, 0, none⟩ = some (.string kd1) ∧ w'.cell? ⟨w16.heap.size, 1, none⟩ = some (.slice A_16 xs1.length c_16)) (((refine (fun hB => ⟨hB, old_cell hB b0_0, old_cell hB b0_1, old_cell hB b0_2, old_cell hB b1_0, old_cell hB b1_1, old_cell hB b2_0, old_cell hB b2_1, old_cell hB b2_2, old_cell hB b3_0, old_cell hB b3_1⟩ : Below w33.heap.size w33 _ → _) ?_); (repeat (first | exact bel_refl _ | exact bel_drew (bel_refl _) | exact bel_trans (And.left (by assumption)) (by assumption) | assumption))))
        ((first | (go_at_call 21; (with_reducible refine (toPat_any kd0 A0 _ c0 xs0 no0 _ _ (hr0.kept (And.left (by assumption))) (by omega)).mono ?_); rintro e w34 ⟨v_34, rfl, ho_34, hb⟩; obtain ⟨A_34, c_34, rfl, hc_34, _⟩ := ho_34.rd; (try replace ho_35 := ho_35.kept hb); (try replace ho_36 := ho_36.kept hb)) | (go_at_call 38; (with_reducible refine (toFact_any kd1 A1 _ c1 xs1 _ _ (hr1.kept (And.left (by assumption))) (by omega)).mono ?_); rintro e w35 ⟨v_35, rfl, ho_35, hb⟩; obtain ⟨A_35, c_35, rfl, hc_35, _⟩ := ho_35.rd; (try replace ho_34 := ho_34.kept hb); (try replace ho_36 := ho_36.kept hb)) | (go_at_call 26; (with_reducible refine (toBindS_any A2 _ c2 xs2 _ _ (hr2.kept (And.left (by assumption))) (by omega)).mono ?_); rintro e w36 ⟨v_36, rfl, ho_36, hb⟩; obtain ⟨A_36, c_36, rfl, hc_36, _⟩ := ho_36.rd; (try replace ho_34 := ho_34.kept hb); (try replace ho_35 := ho_35.kept hb)) | (go_at_call 39; (with_reducible refine (implMatchPat_any kd0 A_34 _ c_34 xs0 no0 kd1 A_35 _ c_35 xs1 A_36 _ c_36 xs2 rs rb _ _ _ _ (ho_34.rdO) (ho_35.rdO) (ho_36.rdO) (by omega) (by omega) HR.out).mono ?_); dsimp only [tupM]; rintro e w37 ⟨A_37, c_37, rfl, ho_37, hb⟩; (try replace ho_34 := ho_34.kept hb); (try replace ho_35 := ho_35.kept hb); (try replace ho_36 := ho_36.kept hb); replace ho_37 := ho_37.lower (And.left (by assumption) : Below w33.heap.size w33 _).size)))
      all_goals
        rename_i hHeld
        go_wp2_with fail
        go_meet
        case rel => exact ⟨_, _, rfl, rfl, ho_37, hHeld.1⟩
    case rest =>
      obtain ⟨A_37, c_37, rfl, rfl, ho_37, hB⟩ := hcut
      replace b0_0 := old_cell hB b0_0
      replace b0_1 := old_cell hB b0_1
      replace b0_2 := old_cell hB b0_2
      replace b1_0 := old_cell hB b1_0
      replace b1_1 := old_cell hB b1_1
      replace b2_0 := old_cell hB b2_0
      replace b2_1 := old_cell hB b2_1
      replace b2_2 := old_cell hB b2_2
      replace b3_0 := old_cell hB b3_0
      replace b3_1 := old_cell hB b3_1
      replace hr0 := hr0.kept hB
      replace hr1 := hr1.kept hB
      replace hr2 := hr2.kept hB
      replace ho_13 := ho_13.kept hB
      replace ho_15 := ho_15.kept hB
      replace ho_16 := ho_16.kept hB
      replace ho_17 := ho_17.kept hB
      replace ho_18 := ho_18.kept hB
      replace ho_26 := ho_26.kept hB
      have zs_38 := hB.size
      replace gW := bel_trans gW hB
      clear hB
      have z_b0_0 : W.heap.size < wc.heap.size := cell_lt b0_0
      have z_b1_0 : W.heap.size + 1 < wc.heap.size := cell_lt b1_0
      have z_b2_0 : w15.heap.size < wc.heap.size := cell_lt b2_0
      have z_b3_0 : w16.heap.size < wc.heap.size := cell_lt b3_0
      have in_37 : InB _ w33.heap.size wc.heap.size := ho_37.inL (by first | exact Nat.le_refl _ | (simp; done) | (simp; omega) | omega)
      go_wp2_with fail
      refine (eqBindS_any A_37 A_13 _ c_37 _ c_13 rs rs _ _ _ (ho_37.rdO) (ho_13.rdO) (by omega)).mono ?_
      rw [decide_eq_true rfl]
      rintro e w39 ⟨rfl, hb⟩
      have g_w39 : Below wc.heap.size wc w39 := (by repeat (first | with_reducible exact bel_refl _ | with_reducible assumption | with_reducible refine bel_set ?_ (by first | (simp; done) | (simp; omega) | omega) _ | with_reducible refine bel_alloc ?_ _ | with_reducible refine bel_drew ?_ | with_reducible refine bel_drewN ?_ _ | with_reducible refine bel_trans ?_ (by assumption)))
      replace b0_0 := old_cell g_w39 b0_0
      replace b0_1 := old_cell g_w39 b0_1
      replace b0_2 := old_cell g_w39 b0_2
      replace b1_0 := old_cell g_w39 b1_0
      replace b1_1 := old_cell g_w39 b1_1
      replace b2_0 := old_cell g_w39 b2_0
      replace b2_1 := old_cell g_w39 b2_1
      replace b2_2 := old_cell g_w39 b2_2
      replace b3_0 := old_cell g_w39 b3_0
      replace b3_1 := old_cell g_w39 b3_1
      replace hr0 := hr0.kept g_w39
      replace hr1 := hr1.kept g_w39
      replace hr2 := hr2.kept g_w39
      replace ho_13 := ho_13.kept g_w39
      replace ho_15 := ho_15.kept g_w39
      replace ho_16 := ho_16.kept g_w39
      replace ho_17 := ho_17.kept g_w39
      replace ho_18 := ho_18.kept g_w39
      replace ho_26 := ho_26.kept g_w39
      replace ho_37 := ho_37.kept g_w39
      have zs_w39 := g_w39.size
      have gW : Below W.heap.size W w39 := bel_trans gW g_w39
      clear hb g_w39
      have z_b0_0 : W.heap.size < w39.heap.size := cell_lt b0_0
      have z_b1_0 : W.heap.size + 1 < w39.heap.size := cell_lt b1_0
      have z_b2_0 : w15.heap.size < w39.heap.size := cell_lt b2_0
      have z_b3_0 : w16.heap.size < w39.heap.size := cell_lt b3_0
      go_wp2_with fail
      refine (heldBindS_any A_18 c_18 rs.length _ 1 _ _ (ho_18.rdM (marksBind_len _ _)) (by first | rfl | omega | simp) (by omega) (by omega)).mono ?_
      rintro e w40 ⟨rfl, hb⟩
      have g_w40 : Below w39.heap.size w39 w40 := (by repeat (first | with_reducible exact bel_refl _ | with_reducible assumption | with_reducible refine bel_set ?_ (by first | (simp; done) | (simp; omega) | omega) _ | with_reducible refine bel_alloc ?_ _ | with_reducible refine bel_drew ?_ | with_reducible refine bel_drewN ?_ _ | with_reducible refine bel_trans ?_ (by assumption)))
      replace b0_0 := old_cell g_w40 b0_0
      replace b0_1 := old_cell g_w40 b0_1
      replace b0_2 := old_cell g_w40 b0_2
      replace b1_0 := old_cell g_w40 b1_0
      replace b1_1 := old_cell g_w40 b1_1
      replace b2_0 := old_cell g_w40 b2_0
      replace b2_1 := old_cell g_w40 b2_1
      replace b2_2 := old_cell g_w40 b2_2
      replace b3_0 := old_cell g_w40 b3_0
      replace b3_1 := old_cell g_w40 b3_1
      replace hr0 := hr0.kept g_w40
      replace hr1 := hr1.kept g_w40
      replace hr2 := hr2.kept g_w40
      replace ho_13 := ho_13.kept g_w40
      replace ho_15 := ho_15.kept g_w40
      replace ho_16 := ho_16.kept g_w40
      replace ho_17 := ho_17.kept g_w40
      replace ho_18 := ho_18.kept g_w40
      replace ho_26 := ho_26.kept g_w40
      replace ho_37 := ho_37.kept g_w40
      have zs_w40 := g_w40.size
      have gW : Below W.heap.size W w40 := bel_trans gW g_w40
      clear hb g_w40
      have z_b0_0 : W.heap.size < w40.heap.size := cell_lt b0_0
      have z_b1_0 : W.heap.size + 1 < w40.heap.size := cell_lt b1_0
      have z_b2_0 : w15.heap.size < w40.heap.size := cell_lt b2_0
      have z_b3_0 : w16.heap.size < w40.heap.size := cell_lt b3_0
      go_wp2
      go_ret
      exact ⟨rfl, gW⟩

theorem own : ownKnob Try.prog.godebug = none := by kernel_rfl
theorem laidOut : laidOutB Try.prog = true := by kernel_rfl
theorem lifted (os : Os) (started : os.Started) (H : Type) (enc : TypeId × Value → H) :
    ReturnsInHanded {} Try.checked os 7 .any (Rows.fnExactMatchPatSpec.pre6 enc Try.prog Try.f7 Rows.fnExactMatchPatRow.domain false) (Rows.fnExactMatchPatSpec.post enc Try.prog Try.f7 false true false false) := by
  refine returnsInHanded_of_change (C := Try.checked) own started (by kernel_rfl) Try.func7
    (ChangeSpec.witness6 (enc := enc) (C := Try.checked) false ⟨#[], #[.agg #[.string ByteArray.empty, .slice none 0 0, .bool false], .agg #[.string ByteArray.empty, .slice none 0 0], .slice none 0 0], []⟩ 8 (by kernel_rfl) (by kernel_rfl) (by kernel_rfl) (by kernel_rfl)) ?_
  intro W base args ds gs before hval0 hW hcnd _
  have hval : ∀ (j : Nat) t v, Try.f7.params[j]? = some t → args[j]? = some v → Value.okWide Try.prog W .any base t v := hval0
  have hW' := hW
  obtain ⟨p, q, hA0, hV, rfl, hfz, hnd⟩ := hW
  have hA : DataW.TrodAll enc Try.prog W 0 (fun _ => true) true Try.f7.params.toList args.toList ds p := hA0
  rw [Try.params7] at hA hval
  obtain ⟨v0, vs0, d0, ds0, p0, q0, hargs, rfl, rfl, h0, r0⟩ := trodAll_cons hA
  obtain ⟨v1, vs1, d1, ds1, p1, q1, rfl, rfl, rfl, h1, r1⟩ := trodAll_cons r0
  obtain ⟨v2, vs2, d2, ds2, p2, q2, rfl, rfl, rfl, h2, r2⟩ := trodAll_cons r1
  obtain ⟨rfl, rfl, rfl⟩ := trodAll_nil r2
  obtain rfl : args = #[v0, v1, v2] := by cases args; simp_all
  obtain ⟨rfl, rfl⟩ := trodVars_none hV
  have lt0 : ∀ x ∈ p0, x.block < W.heap.size := by obtain ⟨m, hm⟩ := h0; exact DataW.trod_lt m _ _ _ hm
  obtain ⟨kd0, A0, n0, c0, xs0, no0, hv0, hs0⟩ := open_pat (hval 0 35 v0 rfl rfl) h0
  subst hv0
  have lt1 : ∀ x ∈ p1, x.block < W.heap.size := by obtain ⟨m, hm⟩ := h1; exact DataW.trod_lt m _ _ _ hm
  obtain ⟨kd1, A1, n1, c1, xs1, hv1, hs1⟩ := open_fact (hval 1 60 v1 rfl rfl) h1
  subst hv1
  have lt2 : ∀ x ∈ p2, x.block < W.heap.size := by obtain ⟨m, hm⟩ := h2; exact DataW.trod_lt m _ _ _ hm
  obtain ⟨A2, n2, c2, xs2, hv2, hs2⟩ := open_bindS (hval 2 44 v2 rfl rfl) h2
  subst hv2
  clear hA0 hval0
  refine (walk kd0 A0 n0 c0 xs0 no0 kd1 A1 n1 c1 xs1 A2 n2 c2 xs2 W hs0 hs1 hs2).mono fun e W' ⟨he, bel⟩ => ?_
  subst he
  exact ⟨_, rfl, _, _, _, [], _, [], hW', trodAll_mk1 (shut_bool Try.underlying4 _), (trodAll_cons_mk (Below.trod laidOut (by kernel_rfl) (of_decide_eq_true (by kernel_rfl)) h0 bel lt0) (trodAll_cons_mk (Below.trod laidOut (by kernel_rfl) (of_decide_eq_true (by kernel_rfl)) h1 bel lt1) (trodAll_cons_mk (Below.trod laidOut (by kernel_rfl) (of_decide_eq_true (by kernel_rfl)) h2 bel lt2) trodAll_mk0))), rfl, bel.frame _, fun h => by cases h⟩
theorem over : Rows.fnExactMatchPatRow.holds Try.pinned (OpenSpec.ofChange Rows.fnExactMatchPatSpec) :=
  OpenClaim.holds_of_wide 7 Try.f7 rfl rfl rfl rfl rfl rfl rfl ⟨rfl, rfl, rfl, rfl, rfl⟩ rfl rfl rfl rfl rfl (by kernel_rfl) Try.func7 (by kernel_rfl)
    (of_decide_eq_true (by kernel_rfl)) (by unfold Func.isWrapper; first | (rw [if_pos (by decide +kernel)]; kernel_rfl) | (rw [if_neg (by decide +kernel)]; exact ⟨rfl, rfl⟩))
    (fun os started H enc _ => lifted os started H enc)
theorem proved : Rows.FnExactMatchPatSaid := over
end Go.Proofs.Ytjlfllnjbdddaaa.fnExactMatchPat
