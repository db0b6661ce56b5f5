/- The law FnExactGetFact returns true at every input, and leaves what it was given as it was. No condition. -/
import Derived.Test.YtpejngdcbhbchaaRead2
import Derived.Test.YtpejngdcbhbchaaGetFact
import Derived.Test.YtpejngdcbhbchaaFactM
import Derived.Test.YtpejngdcbhbchaaBy2
import Derived.Test.YtpejngdcbhbchaaStep
import Derived.Test.YtpejngdcbhbchaaRows
import Derived.Test.YtpejngdcbhbchaaRead
namespace Go.Proofs.Ytpejngdcbhbchaa.fnExactGetFact
open Go.ChangeShapes Go.WideShapes Go.ChangeAt Go.RowKit
open Go.ChangeMaps (open_string shut_string)
set_option linter.unusedVariables false
set_option maxRecDepth 100000
set_option maxHeartbeats 20000000

theorem walk (A0 : Option Addr) (n0 c0 : Nat) (xs0 : List UInt8) (x1 : Int) (W : World) (hs0 : n0 ≤ c0 ∧ c0 ≤ maxLen ∧ RdB W W.heap.size A0 n0 xs0) (hs1 : -9223372036854775808 ≤ x1 ∧ x1 ≤ 9223372036854775807) :
    Calls Try.prog 4 #[.slice A0 n0 c0, .int .i64 x1] W fun e w' => e = .returned (.bool true) ∧ Below W.heap.size W w' := by
  obtain ⟨hnc0, hc0, hrb0⟩ := hs0
  obtain rfl : n0 = xs0.length := hrb0.len.symm
  have hr0 : RdY W W.heap.size A0 xs0.length xs0 := ⟨Nat.le_refl _, hrb0⟩
  by_cases bl0 : (1048576 : Int) < (xs0.length : Int)
  · go_enter Try.func4, Try.ntmps4
    go_wp2
    go_ret
    exact ⟨rfl, (by repeat (first | with_reducible exact bel_refl _ | with_reducible assumption | with_reducible refine bel_set ?_ (by first | (simp; done) | (simp; omega) | omega) _ | with_reducible refine bel_alloc ?_ _ | with_reducible refine bel_drew ?_ | with_reducible refine bel_drewN ?_ _ | with_reducible refine bel_trans ?_ (by assumption)))⟩
  have hlb0 : xs0.length ≤ 1048576 := by omega
  obtain ⟨⟨⟨fkd, ffs⟩, fp, fb⟩, hr⟩ : ∃ r, getFact xs0 x1 = r := ⟨_, rfl⟩
  have hfl := getFact_len hr
  have HR := Lib.hid hr; clear hr
  go_enter Try.func4, Try.ntmps4
  go_wp2_with fail
  refine (toByteS_b A0 _ c0 xs0 _ _ hr0 (by omega)).mono ?_
  rintro e w1 ⟨v_1, rfl, ho_1, hb⟩
  obtain ⟨A_1, c_1, rfl, hc_1, _⟩ := ho_1.form
  have g_w1 : Below W.heap.size W w1 := (by repeat (first | with_reducible exact bel_refl _ | with_reducible assumption | with_reducible refine bel_set ?_ (by first | (simp; done) | (simp; omega) | omega) _ | with_reducible refine bel_alloc ?_ _ | with_reducible refine bel_drew ?_ | with_reducible refine bel_drewN ?_ _ | with_reducible refine bel_trans ?_ (by assumption)))
  replace hr0 := hr0.kept g_w1
  have zs_w1 := g_w1.size
  have gW := g_w1
  clear hb g_w1
  have in_1 : InB _ W.heap.size w1.heap.size := ho_1.inL (by first | exact Nat.le_refl _ | (simp; done) | (simp; omega) | omega)
  go_wp2_with fail
  refine (specGetFact_any A_1 _ c_1 x1 xs0 fkd ffs fp fb _ _ (ho_1.rdO) (by omega) (by omega) HR.out).mono ?_
  dsimp only [tupGF]
  rintro e w2 ⟨A_2, c_2, rfl, ho_2, hb⟩
  have g_w2 : Below w1.heap.size w1 w2 := (by repeat (first | with_reducible exact bel_refl _ | with_reducible assumption | with_reducible refine bel_set ?_ (by first | (simp; done) | (simp; omega) | omega) _ | with_reducible refine bel_alloc ?_ _ | with_reducible refine bel_drew ?_ | with_reducible refine bel_drewN ?_ _ | with_reducible refine bel_trans ?_ (by assumption)))
  replace hr0 := hr0.kept g_w2
  replace ho_1 := ho_1.kept g_w2
  have zs_w2 := g_w2.size
  have gW : Below W.heap.size W w2 := bel_trans gW g_w2
  clear hb g_w2
  have in_2 : InB _ w1.heap.size w2.heap.size := ho_2.inL (by first | exact Nat.le_refl _ | (simp; done) | (simp; omega) | omega)
  go_wp2_with fail
  refine (toByteS_b A0 _ c0 xs0 _ _ (hr0.alloc _) (by omega)).mono ?_
  rintro e w3 ⟨v_3, rfl, ho_3, hb⟩
  obtain ⟨A_3, c_3, rfl, hc_3, _⟩ := ho_3.form
  have g_w3 : Below w2.heap.size w2 w3 := (by repeat (first | with_reducible exact bel_refl _ | with_reducible assumption | with_reducible refine bel_set ?_ (by first | (simp; done) | (simp; omega) | omega) _ | with_reducible refine bel_alloc ?_ _ | with_reducible refine bel_drew ?_ | with_reducible refine bel_drewN ?_ _ | with_reducible refine bel_trans ?_ (by assumption)))
  have b0_0 := old_cell hb (b := w2.heap.size) (o := 0) (v := .string fkd) (by go_simp)
  have b0_1 := old_cell hb (b := w2.heap.size) (o := 1) (v := .slice A_2 ffs.length c_2) (by go_simp)
  replace hr0 := hr0.kept g_w3
  replace ho_1 := ho_1.kept g_w3
  replace ho_2 := ho_2.kept g_w3
  have zs_w3 := g_w3.size
  have gW : Below W.heap.size W w3 := bel_trans gW g_w3
  clear hb g_w3
  have z_b0_0 : w2.heap.size < w3.heap.size := cell_lt b0_0
  have in_3 : InB _ (w2.heap.size + 1) w3.heap.size := ho_3.inL (by first | exact Nat.le_refl _ | (simp; done) | (simp; omega) | omega)
  go_wp2_with fail
  refine (implGetFact_any A_3 _ c_3 x1 xs0 fkd ffs fp fb _ _ (ho_3.rdO) (by omega) (by omega) HR.out).mono ?_
  dsimp only [tupGF]
  rintro e w4 ⟨A_4, c_4, rfl, ho_4, hb⟩
  have g_w4 : Below w3.heap.size w3 w4 := (by repeat (first | with_reducible exact bel_refl _ | with_reducible assumption | with_reducible refine bel_set ?_ (by first | (simp; done) | (simp; omega) | omega) _ | with_reducible refine bel_alloc ?_ _ | with_reducible refine bel_drew ?_ | with_reducible refine bel_drewN ?_ _ | with_reducible refine bel_trans ?_ (by assumption)))
  replace b0_0 := old_cell g_w4 b0_0
  replace b0_1 := old_cell g_w4 b0_1
  replace hr0 := hr0.kept g_w4
  replace ho_1 := ho_1.kept g_w4
  replace ho_2 := ho_2.kept g_w4
  replace ho_3 := ho_3.kept g_w4
  have zs_w4 := g_w4.size
  have gW : Below W.heap.size W w4 := bel_trans gW g_w4
  clear hb g_w4
  have z_b0_0 : w2.heap.size < w4.heap.size := cell_lt b0_0
  have in_4 : InB _ w3.heap.size w4.heap.size := ho_4.inL (by first | exact Nat.le_refl _ | (simp; done) | (simp; omega) | omega)
  go_wp2_with fail
  refine (eqFact_any fkd fkd A_4 A_2 _ c_4 _ c_2 ffs ffs _ _ _ ((ho_4.rdO).alloc _) ((ho_2.rdO).alloc _) (by omega)).mono ?_
  rw [decide_eq_true rfl]
  rintro e w5 ⟨rfl, hb⟩
  have g_w5 : Below w4.heap.size w4 w5 := (by repeat (first | with_reducible exact bel_refl _ | with_reducible assumption | with_reducible refine bel_set ?_ (by first | (simp; done) | (simp; omega) | omega) _ | with_reducible refine bel_alloc ?_ _ | with_reducible refine bel_drew ?_ | with_reducible refine bel_drewN ?_ _ | with_reducible refine bel_trans ?_ (by assumption)))
  have b1_0 := old_cell hb (b := w4.heap.size) (o := 0) (v := .string fkd) (by go_simp)
  have b1_1 := old_cell hb (b := w4.heap.size) (o := 1) (v := .slice A_4 ffs.length c_4) (by go_simp)
  replace b0_0 := old_cell g_w5 b0_0
  replace b0_1 := old_cell g_w5 b0_1
  replace hr0 := hr0.kept g_w5
  replace ho_1 := ho_1.kept g_w5
  replace ho_2 := ho_2.kept g_w5
  replace ho_3 := ho_3.kept g_w5
  replace ho_4 := ho_4.kept g_w5
  have zs_w5 := g_w5.size
  have gW : Below W.heap.size W w5 := bel_trans gW g_w5
  clear hb g_w5
  have z_b0_0 : w2.heap.size < w5.heap.size := cell_lt b0_0
  have z_b1_0 : w4.heap.size < w5.heap.size := cell_lt b1_0
  go_wp2_with fail
  refine (toByteS_b A0 _ c0 xs0 _ _ hr0 (by omega)).mono ?_
  rintro e w6 ⟨v_6, rfl, ho_6, hb⟩
  obtain ⟨A_6, c_6, rfl, hc_6, _⟩ := ho_6.form
  have g_w6 : Below w5.heap.size w5 w6 := (by repeat (first | with_reducible exact bel_refl _ | with_reducible assumption | with_reducible refine bel_set ?_ (by first | (simp; done) | (simp; omega) | omega) _ | with_reducible refine bel_alloc ?_ _ | with_reducible refine bel_drew ?_ | with_reducible refine bel_drewN ?_ _ | with_reducible refine bel_trans ?_ (by assumption)))
  replace b0_0 := old_cell g_w6 b0_0
  replace b0_1 := old_cell g_w6 b0_1
  replace b1_0 := old_cell g_w6 b1_0
  replace b1_1 := old_cell g_w6 b1_1
  replace hr0 := hr0.kept g_w6
  replace ho_1 := ho_1.kept g_w6
  replace ho_2 := ho_2.kept g_w6
  replace ho_3 := ho_3.kept g_w6
  replace ho_4 := ho_4.kept g_w6
  have zs_w6 := g_w6.size
  have gW : Below W.heap.size W w6 := bel_trans gW g_w6
  clear hb g_w6
  have z_b0_0 : w2.heap.size < w6.heap.size := cell_lt b0_0
  have z_b1_0 : w4.heap.size < w6.heap.size := cell_lt b1_0
  have in_6 : InB _ w5.heap.size w6.heap.size := ho_6.inL (by first | exact Nat.le_refl _ | (simp; done) | (simp; omega) | omega)
  go_wp2_with fail
  refine (eqByteS_b A_3 A_6 _ c_3 _ c_6 xs0 xs0 _ _ _ (ho_3.rdO) (ho_6.rdO) (by omega)).mono ?_
  rw [decide_eq_true rfl]
  rintro e w7 ⟨rfl, hb⟩
  have g_w7 : Below w6.heap.size w6 w7 := (by repeat (first | with_reducible exact bel_refl _ | with_reducible assumption | with_reducible refine bel_set ?_ (by first | (simp; done) | (simp; omega) | omega) _ | with_reducible refine bel_alloc ?_ _ | with_reducible refine bel_drew ?_ | with_reducible refine bel_drewN ?_ _ | with_reducible refine bel_trans ?_ (by assumption)))
  replace b0_0 := old_cell g_w7 b0_0
  replace b0_1 := old_cell g_w7 b0_1
  replace b1_0 := old_cell g_w7 b1_0
  replace b1_1 := old_cell g_w7 b1_1
  replace hr0 := hr0.kept g_w7
  replace ho_1 := ho_1.kept g_w7
  replace ho_2 := ho_2.kept g_w7
  replace ho_3 := ho_3.kept g_w7
  replace ho_4 := ho_4.kept g_w7
  replace ho_6 := ho_6.kept g_w7
  have zs_w7 := g_w7.size
  have gW : Below W.heap.size W w7 := bel_trans gW g_w7
  clear hb g_w7
  have z_b0_0 : w2.heap.size < w7.heap.size := cell_lt b0_0
  have z_b1_0 : w4.heap.size < w7.heap.size := cell_lt b1_0
  go_wp2_with fail
  refine (markByteS_b A_3 c_3 xs0 _ 1 _ _ ho_3 (by first | rfl | omega | simp) (by omega) (by omega)).mono ?_
  rintro e w8 ⟨rfl, hm, hg⟩
  have gg : Below W.heap.size w7 w8 := below_of_grown hg in_3 (by omega) (by omega)
  have zs_w8 := hg.size
  replace b0_0 := cell_far b0_0 hg in_3 (by omega)
  replace b0_1 := cell_far b0_1 hg in_3 (by omega)
  replace b1_0 := cell_far b1_0 hg in_3 (by omega)
  replace b1_1 := cell_far b1_1 hg in_3 (by omega)
  replace hr0 := hr0.belowB gg
  replace ho_1 := ho_1.far hg in_1 in_3 (by omega)
  replace ho_2 := ho_2.far hg in_2 in_3 (by omega)
  replace ho_4 := ho_4.far hg in_4 in_3 (by omega)
  replace ho_6 := ho_6.far hg in_6 in_3 (by omega)
  have gW : Below W.heap.size W w8 := gW.trans gg
  clear ho_3
  have ho_3 := hm
  clear hm hg gg
  have z_b0_0 : w2.heap.size < w8.heap.size := cell_lt b0_0
  have z_b1_0 : w4.heap.size < w8.heap.size := cell_lt b1_0
  go_wp2_with fail
  refine (eqFact_any fkd fkd A_4 A_2 _ c_4 _ c_2 ffs ffs _ _ _ (ho_4.rdO) (ho_2.rdO) (by omega)).mono ?_
  rw [decide_eq_true rfl]
  rintro e w9 ⟨rfl, hb⟩
  have g_w9 : Below w8.heap.size w8 w9 := (by repeat (first | with_reducible exact bel_refl _ | with_reducible assumption | with_reducible refine bel_set ?_ (by first | (simp; done) | (simp; omega) | omega) _ | with_reducible refine bel_alloc ?_ _ | with_reducible refine bel_drew ?_ | with_reducible refine bel_drewN ?_ _ | with_reducible refine bel_trans ?_ (by assumption)))
  replace b0_0 := old_cell g_w9 b0_0
  replace b0_1 := old_cell g_w9 b0_1
  replace b1_0 := old_cell g_w9 b1_0
  replace b1_1 := old_cell g_w9 b1_1
  replace hr0 := hr0.kept g_w9
  replace ho_1 := ho_1.kept g_w9
  replace ho_2 := ho_2.kept g_w9
  replace ho_3 := ho_3.kept g_w9
  replace ho_4 := ho_4.kept g_w9
  replace ho_6 := ho_6.kept g_w9
  have zs_w9 := g_w9.size
  have gW : Below W.heap.size W w9 := bel_trans gW g_w9
  clear hb g_w9
  have z_b0_0 : w2.heap.size < w9.heap.size := cell_lt b0_0
  have z_b1_0 : w4.heap.size < w9.heap.size := cell_lt b1_0
  go_wp2_with fail
  refine (markFact_any fkd A_4 _ c_4 ffs _ 1 _ _ ho_4 rfl (by first | rfl | omega | simp) (by omega) (by omega)).mono ?_
  rintro e w10 ⟨rfl, hm, hg⟩
  have gg : Below W.heap.size w9 w10 := below_of_grown hg in_4 (by omega) (by omega)
  have zs_w10 := hg.size
  replace b0_0 := cell_far b0_0 hg in_4 (by omega)
  replace b0_1 := cell_far b0_1 hg in_4 (by omega)
  replace b1_0 := cell_far b1_0 hg in_4 (by omega)
  replace b1_1 := cell_far b1_1 hg in_4 (by omega)
  replace hr0 := hr0.belowB gg
  replace ho_1 := ho_1.far hg in_1 in_4 (by omega)
  replace ho_2 := ho_2.far hg in_2 in_4 (by omega)
  replace ho_3 := ho_3.far hg in_3 in_4 (by omega)
  replace ho_6 := ho_6.far hg in_6 in_4 (by omega)
  have gW : Below W.heap.size W w10 := gW.trans gg
  clear ho_4
  have ho_4 := hm
  clear hm hg gg
  have z_b0_0 : w2.heap.size < w10.heap.size := cell_lt b0_0
  have z_b1_0 : w4.heap.size < w10.heap.size := cell_lt b1_0
  go_wp2_with fail
  refine (heldFact_any fkd A_4 c_4 ffs.length _ 1 _ _ (ho_4.rdM (marksVal_len _ _)) (by first | rfl | omega | simp) (by omega) (by omega)).mono ?_
  rintro e w11 ⟨rfl, hb⟩
  have g_w11 : Below w10.heap.size w10 w11 := (by repeat (first | with_reducible exact bel_refl _ | with_reducible assumption | with_reducible refine bel_set ?_ (by first | (simp; done) | (simp; omega) | omega) _ | with_reducible refine bel_alloc ?_ _ | with_reducible refine bel_drew ?_ | with_reducible refine bel_drewN ?_ _ | with_reducible refine bel_trans ?_ (by assumption)))
  replace b0_0 := old_cell g_w11 b0_0
  replace b0_1 := old_cell g_w11 b0_1
  replace b1_0 := old_cell g_w11 b1_0
  replace b1_1 := old_cell g_w11 b1_1
  replace hr0 := hr0.kept g_w11
  replace ho_1 := ho_1.kept g_w11
  replace ho_2 := ho_2.kept g_w11
  replace ho_3 := ho_3.kept g_w11
  replace ho_4 := ho_4.kept g_w11
  replace ho_6 := ho_6.kept g_w11
  have zs_w11 := g_w11.size
  have gW : Below W.heap.size W w11 := bel_trans gW g_w11
  clear hb g_w11
  have z_b0_0 : w2.heap.size < w11.heap.size := cell_lt b0_0
  have z_b1_0 : w4.heap.size < w11.heap.size := cell_lt b1_0
  go_wp2_with fail
  refine (toByteS_b A0 _ c0 xs0 _ _ hr0 (by omega)).mono ?_
  rintro e w12 ⟨v_12, rfl, ho_12, hb⟩
  obtain ⟨A_12, c_12, rfl, hc_12, _⟩ := ho_12.form
  have g_w12 : Below w11.heap.size w11 w12 := (by repeat (first | with_reducible exact bel_refl _ | with_reducible assumption | with_reducible refine bel_set ?_ (by first | (simp; done) | (simp; omega) | omega) _ | with_reducible refine bel_alloc ?_ _ | with_reducible refine bel_drew ?_ | with_reducible refine bel_drewN ?_ _ | with_reducible refine bel_trans ?_ (by assumption)))
  replace b0_0 := old_cell g_w12 b0_0
  replace b0_1 := old_cell g_w12 b0_1
  replace b1_0 := old_cell g_w12 b1_0
  replace b1_1 := old_cell g_w12 b1_1
  replace hr0 := hr0.kept g_w12
  replace ho_1 := ho_1.kept g_w12
  replace ho_2 := ho_2.kept g_w12
  replace ho_3 := ho_3.kept g_w12
  replace ho_4 := ho_4.kept g_w12
  replace ho_6 := ho_6.kept g_w12
  have zs_w12 := g_w12.size
  have gW : Below W.heap.size W w12 := bel_trans gW g_w12
  clear hb g_w12
  have z_b0_0 : w2.heap.size < w12.heap.size := cell_lt b0_0
  have z_b1_0 : w4.heap.size < w12.heap.size := cell_lt b1_0
  have in_12 : InB _ w11.heap.size w12.heap.size := ho_12.inL (by first | exact Nat.le_refl _ | (simp; done) | (simp; omega) | omega)
  go_wp2_with fail
  refine (implGetFact_any A_12 _ c_12 x1 xs0 fkd ffs fp fb _ _ (ho_12.rdO) (by omega) (by omega) HR.out).mono ?_
  dsimp only [tupGF]
  rintro e w13 ⟨A_13, c_13, rfl, ho_13, hb⟩
  have g_w13 : Below w12.heap.size w12 w13 := (by repeat (first | with_reducible exact bel_refl _ | with_reducible assumption | with_reducible refine bel_set ?_ (by first | (simp; done) | (simp; omega) | omega) _ | with_reducible refine bel_alloc ?_ _ | with_reducible refine bel_drew ?_ | with_reducible refine bel_drewN ?_ _ | with_reducible refine bel_trans ?_ (by assumption)))
  replace b0_0 := old_cell g_w13 b0_0
  replace b0_1 := old_cell g_w13 b0_1
  replace b1_0 := old_cell g_w13 b1_0
  replace b1_1 := old_cell g_w13 b1_1
  replace hr0 := hr0.kept g_w13
  replace ho_1 := ho_1.kept g_w13
  replace ho_2 := ho_2.kept g_w13
  replace ho_3 := ho_3.kept g_w13
  replace ho_4 := ho_4.kept g_w13
  replace ho_6 := ho_6.kept g_w13
  replace ho_12 := ho_12.kept g_w13
  have zs_w13 := g_w13.size
  have gW : Below W.heap.size W w13 := bel_trans gW g_w13
  clear hb g_w13
  have z_b0_0 : w2.heap.size < w13.heap.size := cell_lt b0_0
  have z_b1_0 : w4.heap.size < w13.heap.size := cell_lt b1_0
  have in_13 : InB _ w12.heap.size w13.heap.size := ho_13.inL (by first | exact Nat.le_refl _ | (simp; done) | (simp; omega) | omega)
  go_wp2_with fail
  refine (eqFact_any fkd fkd A_13 A_2 _ c_13 _ c_2 ffs ffs _ _ _ ((ho_13.rdO).alloc _) ((ho_2.rdO).alloc _) (by omega)).mono ?_
  rw [decide_eq_true rfl]
  rintro e w14 ⟨rfl, hb⟩
  have g_w14 : Below w13.heap.size w13 w14 := (by repeat (first | with_reducible exact bel_refl _ | with_reducible assumption | with_reducible refine bel_set ?_ (by first | (simp; done) | (simp; omega) | omega) _ | with_reducible refine bel_alloc ?_ _ | with_reducible refine bel_drew ?_ | with_reducible refine bel_drewN ?_ _ | with_reducible refine bel_trans ?_ (by assumption)))
  have b2_0 := old_cell hb (b := w13.heap.size) (o := 0) (v := .string fkd) (by go_simp)
  have b2_1 := old_cell hb (b := w13.heap.size) (o := 1) (v := .slice A_13 ffs.length c_13) (by go_simp)
  replace b0_0 := old_cell g_w14 b0_0
  replace b0_1 := old_cell g_w14 b0_1
  replace b1_0 := old_cell g_w14 b1_0
  replace b1_1 := old_cell g_w14 b1_1
  replace hr0 := hr0.kept g_w14
  replace ho_1 := ho_1.kept g_w14
  replace ho_2 := ho_2.kept g_w14
  replace ho_3 := ho_3.kept g_w14
  replace ho_4 := ho_4.kept g_w14
  replace ho_6 := ho_6.kept g_w14
  replace ho_12 := ho_12.kept g_w14
  replace ho_13 := ho_13.kept g_w14
  have zs_w14 := g_w14.size
  have gW : Below W.heap.size W w14 := bel_trans gW g_w14
  clear hb g_w14
  have z_b0_0 : w2.heap.size < w14.heap.size := cell_lt b0_0
  have z_b1_0 : w4.heap.size < w14.heap.size := cell_lt b1_0
  have z_b2_0 : w13.heap.size < w14.heap.size := cell_lt b2_0
  go_wp2_with fail
  refine (heldFact_any fkd A_4 c_4 ffs.length _ 1 _ _ (ho_4.rdM (marksVal_len _ _)) (by first | rfl | omega | simp) (by omega) (by omega)).mono ?_
  rintro e w15 ⟨rfl, hb⟩
  have g_w15 : Below w14.heap.size w14 w15 := (by repeat (first | with_reducible exact bel_refl _ | with_reducible assumption | with_reducible refine bel_set ?_ (by first | (simp; done) | (simp; omega) | omega) _ | with_reducible refine bel_alloc ?_ _ | with_reducible refine bel_drew ?_ | with_reducible refine bel_drewN ?_ _ | with_reducible refine bel_trans ?_ (by assumption)))
  replace b0_0 := old_cell g_w15 b0_0
  replace b0_1 := old_cell g_w15 b0_1
  replace b1_0 := old_cell g_w15 b1_0
  replace b1_1 := old_cell g_w15 b1_1
  replace b2_0 := old_cell g_w15 b2_0
  replace b2_1 := old_cell g_w15 b2_1
  replace hr0 := hr0.kept g_w15
  replace ho_1 := ho_1.kept g_w15
  replace ho_2 := ho_2.kept g_w15
  replace ho_3 := ho_3.kept g_w15
  replace ho_4 := ho_4.kept g_w15
  replace ho_6 := ho_6.kept g_w15
  replace ho_12 := ho_12.kept g_w15
  replace ho_13 := ho_13.kept g_w15
  have zs_w15 := g_w15.size
  have gW : Below W.heap.size W w15 := bel_trans gW g_w15
  clear hb g_w15
  have z_b0_0 : w2.heap.size < w15.heap.size := cell_lt b0_0
  have z_b1_0 : w4.heap.size < w15.heap.size := cell_lt b1_0
  have z_b2_0 : w13.heap.size < w15.heap.size := cell_lt b2_0
  go_wp2
  go_ret
  exact ⟨rfl, gW⟩

theorem own : ownKnob Try.prog.godebug = none := by kernel_rfl
theorem laidOut : laidOutB Try.prog = true := by kernel_rfl
theorem lifted (os : Os) (started : os.Started) (H : Type) (enc : TypeId × Value → H) :
    ReturnsInHanded {} Try.checked os 4 .any (Rows.fnExactGetFactSpec.pre6 enc Try.prog Try.f4 Rows.fnExactGetFactRow.domain false) (Rows.fnExactGetFactSpec.post enc Try.prog Try.f4 false true false false) := by
  refine returnsInHanded_of_change (C := Try.checked) own started (by kernel_rfl) Try.func4
    (ChangeSpec.witness6 (enc := enc) (C := Try.checked) false ⟨#[], #[.slice none 0 0, .int .i64 0], []⟩ 8 (by kernel_rfl) (by kernel_rfl) (by kernel_rfl) (by kernel_rfl)) ?_
  intro W base args ds gs before hval0 hW hcnd _
  have hval : ∀ (j : Nat) t v, Try.f4.params[j]? = some t → args[j]? = some v → Value.okWide Try.prog W .any base t v := hval0
  have hW' := hW
  obtain ⟨p, q, hA0, hV, rfl, hfz, hnd⟩ := hW
  have hA : DataW.TrodAll enc Try.prog W 0 (fun _ => true) true Try.f4.params.toList args.toList ds p := hA0
  rw [Try.params4] at hA hval
  obtain ⟨v0, vs0, d0, ds0, p0, q0, hargs, rfl, rfl, h0, r0⟩ := trodAll_cons hA
  obtain ⟨v1, vs1, d1, ds1, p1, q1, rfl, rfl, rfl, h1, r1⟩ := trodAll_cons r0
  obtain ⟨rfl, rfl, rfl⟩ := trodAll_nil r1
  obtain rfl : args = #[v0, v1] := by cases args; simp_all
  obtain ⟨rfl, rfl⟩ := trodVars_none hV
  have lt0 : ∀ x ∈ p0, x.block < W.heap.size := by obtain ⟨m, hm⟩ := h0; exact DataW.trod_lt m _ _ _ hm
  obtain ⟨A0, n0, c0, b0, hv0, hs0⟩ := open_bytes Try.underlying22 Try.underlying5 (by kernel_rfl) (hval 0 22 v0 rfl rfl) h0
  subst hv0
  have lt1 : ∀ x ∈ p1, x.block < W.heap.size := by obtain ⟨m, hm⟩ := h1; exact DataW.trod_lt m _ _ _ hm
  obtain ⟨x1, hv1, hs1⟩ := open_i64 Try.underlying3 (hval 1 3 v1 rfl rfl) h1
  subst hv1
  clear hA0 hval0
  refine (walk A0 n0 c0 b0 x1 W hs0 hs1).mono fun e W' ⟨he, bel⟩ => ?_
  subst he
  exact ⟨_, rfl, _, _, _, [], _, [], hW', trodAll_mk1 (shut_bool Try.underlying4 _), (trodAll_cons_mk (Below.trod laidOut (by kernel_rfl) (of_decide_eq_true (by kernel_rfl)) h0 bel lt0) (trodAll_cons_mk (Below.trod laidOut (by kernel_rfl) (of_decide_eq_true (by kernel_rfl)) h1 bel lt1) trodAll_mk0)), rfl, bel.frame _, fun h => by cases h⟩
theorem over : Rows.fnExactGetFactRow.holds Try.pinned (OpenSpec.ofChange Rows.fnExactGetFactSpec) :=
  OpenClaim.holds_of_wide 4 Try.f4 rfl rfl rfl rfl rfl rfl rfl ⟨rfl, rfl, rfl, rfl, rfl⟩ rfl rfl rfl rfl rfl (by kernel_rfl) Try.func4 (by kernel_rfl)
    (of_decide_eq_true (by kernel_rfl)) (by unfold Func.isWrapper; first | (rw [if_pos (by decide +kernel)]; kernel_rfl) | (rw [if_neg (by decide +kernel)]; exact ⟨rfl, rfl⟩))
    (fun os started H enc _ => lifted os started H enc)
theorem proved : Rows.FnExactGetFactSaid := over
end Go.Proofs.Ytpejngdcbhbchaa.fnExactGetFact
