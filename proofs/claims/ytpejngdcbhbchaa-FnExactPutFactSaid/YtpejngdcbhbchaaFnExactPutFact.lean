/- The law FnExactPutFact returns true at every input, and leaves what it was given as it was. No condition. -/
import Derived.Test.YtpejngdcbhbchaaRead2
import Derived.Test.YtpejngdcbhbchaaPutFact
import Derived.Test.YtpejngdcbhbchaaFactM
import Derived.Test.YtpejngdcbhbchaaBy2
import Derived.Test.YtpejngdcbhbchaaStep
import Derived.Test.YtpejngdcbhbchaaRows
import Derived.Test.YtpejngdcbhbchaaRead
namespace Go.Proofs.Ytpejngdcbhbchaa.fnExactPutFact
open Go.ChangeShapes Go.WideShapes Go.ChangeAt Go.RowKit
open Go.ChangeMaps (open_string shut_string)
set_option linter.unusedVariables false
set_option maxRecDepth 100000
set_option maxHeartbeats 20000000

theorem walk (A0 : Option Addr) (n0 c0 : Nat) (xs0 : List UInt8) (kd1 : ByteArray) (A1 : Option Addr) (n1 c1 : Nat) (xs1 : List Vl) (W : World) (hs0 : n0 ≤ c0 ∧ c0 ≤ maxLen ∧ RdB W W.heap.size A0 n0 xs0) (hs1 : n1 ≤ c1 ∧ c1 ≤ 9223372036854775807 ∧ kd1.size ≤ 9223372036854775807 ∧ RdS vC 3 W W.heap.size A1 n1 xs1 ∧ ∀ a ∈ xs1, a.s.size ≤ 9223372036854775807) :
    Calls Try.prog 3 #[.slice A0 n0 c0, .agg #[.string kd1, .slice A1 n1 c1]] W fun e w' => e = .returned (.bool true) ∧ Below W.heap.size W w' := by
  obtain ⟨hnc0, hc0, hrb0⟩ := hs0
  obtain rfl : n0 = xs0.length := hrb0.len.symm
  have hr0 : RdY W W.heap.size A0 xs0.length xs0 := ⟨Nat.le_refl _, hrb0⟩
  obtain ⟨hnc1, hc1, hk1, hr1, hz1⟩ := hs1
  obtain rfl : n1 = xs1.length := hr1.len.symm
  have HZ1 := Lib.hid hz1; clear hz1
  by_cases bl0 : (1048576 : Int) < (xs0.length : Int)
  · go_enter Try.func3, Try.ntmps3
    go_wp2
    go_ret
    exact ⟨rfl, (by repeat (first | with_reducible exact bel_refl _ | with_reducible assumption | with_reducible refine bel_set ?_ (by first | (simp; done) | (simp; omega) | omega) _ | with_reducible refine bel_alloc ?_ _ | with_reducible refine bel_drew ?_ | with_reducible refine bel_drewN ?_ _ | with_reducible refine bel_trans ?_ (by assumption)))⟩
  by_cases bz0 : (1048576 : Int) < ((totF ⟨kd1, xs1⟩) : Int)
  · have HB := Lib.hid (szR_big bz0)
    go_enter Try.func3, Try.ntmps3
    go_wp2_with fail
    refine (szFact_any kd1 A1 _ c1 _ xs1 _ _ (hr1.alloc _) (by omega) hk1 HZ1.out (by omega) (by omega)).mono ?_
    rw [HB.out]
    rintro e w1 ⟨rfl, hb⟩
    have g_w1 : Below W.heap.size W w1 := (by repeat (first | with_reducible exact bel_refl _ | with_reducible assumption | with_reducible refine bel_set ?_ (by first | (simp; done) | (simp; omega) | omega) _ | with_reducible refine bel_alloc ?_ _ | with_reducible refine bel_drew ?_ | with_reducible refine bel_drewN ?_ _ | with_reducible refine bel_trans ?_ (by assumption)))
    have b0_0 := old_cell hb (b := W.heap.size) (o := 0) (v := .string kd1) (by go_simp)
    have b0_1 := old_cell hb (b := W.heap.size) (o := 1) (v := .slice A1 xs1.length c1) (by go_simp)
    replace hr0 := hr0.kept g_w1
    replace hr1 := hr1.kept g_w1
    have zs_w1 := g_w1.size
    have gW := g_w1
    clear hb g_w1
    have z_b0_0 : W.heap.size < w1.heap.size := cell_lt b0_0
    go_wp2
    go_ret
    exact ⟨rfl, gW⟩
  have HF0 := Lib.hid (szR_fit (Int.not_lt.1 bz0))
  have hl1 : xs1.length ≤ 1048576 := by unfold totF totV at bz0; simp only at bz0; omega
  have HT1 := Lib.hid (totF_le (Int.not_lt.1 bz0))
  obtain ⟨rs, hrs, hrl⟩ : ∃ rs, xs0 ++ putF ⟨kd1, xs1⟩ = rs ∧ rs.length ≤ 16777216 := ⟨_, rfl, by have := putF_len HT1.out; simp only [List.length_append] at this ⊢; omega⟩
  have HR := Lib.hid hrs; clear hrs
  go_enter Try.func3, Try.ntmps3
  go_wp2_with fail
  refine (szFact_any kd1 A1 _ c1 _ xs1 _ _ (hr1.alloc _) (by omega) hk1 HZ1.out (by omega) (by omega)).mono ?_
  rw [HF0.out]
  rintro e w2 ⟨rfl, hb⟩
  have g_w2 : Below W.heap.size W w2 := (by repeat (first | with_reducible exact bel_refl _ | with_reducible assumption | with_reducible refine bel_set ?_ (by first | (simp; done) | (simp; omega) | omega) _ | with_reducible refine bel_alloc ?_ _ | with_reducible refine bel_drew ?_ | with_reducible refine bel_drewN ?_ _ | with_reducible refine bel_trans ?_ (by assumption)))
  have b0_0 := old_cell hb (b := W.heap.size) (o := 0) (v := .string kd1) (by go_simp)
  have b0_1 := old_cell hb (b := W.heap.size) (o := 1) (v := .slice A1 xs1.length c1) (by go_simp)
  replace hr0 := hr0.kept g_w2
  replace hr1 := hr1.kept g_w2
  have zs_w2 := g_w2.size
  have gW := g_w2
  clear hb g_w2
  have z_b0_0 : W.heap.size < w2.heap.size := cell_lt b0_0
  go_upto_region 7 with fail
  go_cut [6] (fun s6 wx => ∃ A c, s6 = .slice A rs.length c ∧ OwnB wx w2.heap.size 5 (.slice A rs.length c) rs ∧ Below w2.heap.size w2 wx)
  case first =>
    go_region_held3 (fun w' => Below w2.heap.size w2 w' ∧ w'.cell? ⟨W.heap.size, 0, none⟩ = some (.string kd1) ∧ w'.cell? ⟨W.heap.size, 1, none⟩ = some (.slice A1 xs1.length c1)) (((refine (fun hB => ⟨hB, old_cell hB b0_0, old_cell hB b0_1⟩ : Below w2.heap.size w2 _ → _) ?_); (repeat (first | exact bel_refl _ | exact bel_drew (bel_refl _) | exact bel_trans (And.left (by assumption)) (by assumption) | assumption))))
      ((first | (go_at_call 9; (with_reducible refine (toByteS_b A0 _ c0 xs0 _ _ (hr0.kept (And.left (by assumption))) (by omega)).mono ?_); rintro e w3 ⟨v_3, rfl, ho_3, hb⟩; obtain ⟨A_3, c_3, rfl, hc_3, _⟩ := ho_3.form; (try replace ho_4 := ho_4.kept hb); (try replace ho_5 := ho_5.kept hb)) | (go_at_call 10; (with_reducible refine (toFact_any kd1 A1 _ c1 xs1 _ _ (hr1.kept (And.left (by assumption))) (by omega)).mono ?_); rintro e w4 ⟨v_4, rfl, ho_4, hb⟩; obtain ⟨A_4, c_4, rfl, hc_4, _⟩ := ho_4.rd; (try replace ho_3 := ho_3.kept hb); (try replace ho_5 := ho_5.kept hb)) | (go_at_call 8; (with_reducible refine (specPutFact_any A_3 _ c_3 xs0 kd1 A_4 _ c_4 xs1 _ _ _ (ho_3.rdO).b (ho_3.rdO).le (ho_4.rdO) (by omega) HT1.out).mono ?_); rw [HR.out]; rintro e w5 ⟨v_5, rfl, ho_5, hb, _⟩; obtain ⟨A_5, c_5, rfl, hc_5, _⟩ := ho_5.form; (try replace ho_3 := ho_3.kept hb); (try replace ho_4 := ho_4.kept hb); replace ho_5 := ho_5.lower (And.left (by assumption) : Below w2.heap.size w2 _).size)))
    all_goals
      rename_i hHeld
      go_wp2_with fail
      go_meet
      case rel => exact ⟨_, _, rfl, ho_5, hHeld.1⟩
  case rest =>
    obtain ⟨A_5, c_5, rfl, ho_5, hB⟩ := hcut
    replace b0_0 := old_cell hB b0_0
    replace b0_1 := old_cell hB b0_1
    replace hr0 := hr0.kept hB
    replace hr1 := hr1.kept hB
    have zs_6 := hB.size
    replace gW := bel_trans gW hB
    clear hB
    have z_b0_0 : W.heap.size < wc.heap.size := cell_lt b0_0
    have in_5 : InB _ w2.heap.size wc.heap.size := ho_5.inL (by first | exact Nat.le_refl _ | (simp; done) | (simp; omega) | omega)
    go_wp2_with fail
    refine (toByteS_b A0 _ c0 xs0 _ _ hr0 (by omega)).mono ?_
    rintro e w7 ⟨v_7, rfl, ho_7, hb⟩
    obtain ⟨A_7, c_7, rfl, hc_7, _⟩ := ho_7.form
    have g_w7 : Below wc.heap.size wc w7 := (by repeat (first | with_reducible exact bel_refl _ | with_reducible assumption | with_reducible refine bel_set ?_ (by first | (simp; done) | (simp; omega) | omega) _ | with_reducible refine bel_alloc ?_ _ | with_reducible refine bel_drew ?_ | with_reducible refine bel_drewN ?_ _ | with_reducible refine bel_trans ?_ (by assumption)))
    replace b0_0 := old_cell g_w7 b0_0
    replace b0_1 := old_cell g_w7 b0_1
    replace hr0 := hr0.kept g_w7
    replace hr1 := hr1.kept g_w7
    replace ho_5 := ho_5.kept g_w7
    have zs_w7 := g_w7.size
    have gW : Below W.heap.size W w7 := bel_trans gW g_w7
    clear hb g_w7
    have z_b0_0 : W.heap.size < w7.heap.size := cell_lt b0_0
    have in_7 : InB _ wc.heap.size w7.heap.size := ho_7.inL (by first | exact Nat.le_refl _ | (simp; done) | (simp; omega) | omega)
    go_wp2_with fail
    refine (toFact_any kd1 A1 _ c1 xs1 _ _ hr1 (by omega)).mono ?_
    rintro e w8 ⟨v_8, rfl, ho_8, hb⟩
    obtain ⟨A_8, c_8, rfl, hc_8, _⟩ := ho_8.rd
    have g_w8 : Below w7.heap.size w7 w8 := (by repeat (first | with_reducible exact bel_refl _ | with_reducible assumption | with_reducible refine bel_set ?_ (by first | (simp; done) | (simp; omega) | omega) _ | with_reducible refine bel_alloc ?_ _ | with_reducible refine bel_drew ?_ | with_reducible refine bel_drewN ?_ _ | with_reducible refine bel_trans ?_ (by assumption)))
    replace b0_0 := old_cell g_w8 b0_0
    replace b0_1 := old_cell g_w8 b0_1
    replace hr0 := hr0.kept g_w8
    replace hr1 := hr1.kept g_w8
    replace ho_5 := ho_5.kept g_w8
    replace ho_7 := ho_7.kept g_w8
    have zs_w8 := g_w8.size
    have gW : Below W.heap.size W w8 := bel_trans gW g_w8
    clear hb g_w8
    have z_b0_0 : W.heap.size < w8.heap.size := cell_lt b0_0
    have in_8 : InB _ w7.heap.size w8.heap.size := ho_8.inL (by first | exact Nat.le_refl _ | (simp; done) | (simp; omega) | omega)
    go_wp2_with fail
    refine (implPutFact_any A_7 _ c_7 xs0 kd1 A_8 _ c_8 xs1 _ _ _ ((ho_7.rdO).alloc _).b ((ho_7.rdO).alloc _).le ((ho_8.rdO).alloc _) (by omega) HT1.out).mono ?_
    rw [HR.out]
    rintro e w9 ⟨v_9, rfl, ho_9, hb, _⟩
    obtain ⟨A_9, c_9, rfl, hc_9, _⟩ := ho_9.form
    have g_w9 : Below w8.heap.size w8 w9 := (by repeat (first | with_reducible exact bel_refl _ | with_reducible assumption | with_reducible refine bel_set ?_ (by first | (simp; done) | (simp; omega) | omega) _ | with_reducible refine bel_alloc ?_ _ | with_reducible refine bel_drew ?_ | with_reducible refine bel_drewN ?_ _ | with_reducible refine bel_trans ?_ (by assumption)))
    have b1_0 := old_cell hb (b := w8.heap.size) (o := 0) (v := .string kd1) (by go_simp)
    have b1_1 := old_cell hb (b := w8.heap.size) (o := 1) (v := .slice A_8 xs1.length c_8) (by go_simp)
    replace b0_0 := old_cell g_w9 b0_0
    replace b0_1 := old_cell g_w9 b0_1
    replace hr0 := hr0.kept g_w9
    replace hr1 := hr1.kept g_w9
    replace ho_5 := ho_5.kept g_w9
    replace ho_7 := ho_7.kept g_w9
    replace ho_8 := ho_8.kept g_w9
    have zs_w9 := g_w9.size
    have gW : Below W.heap.size W w9 := bel_trans gW g_w9
    clear hb g_w9
    have z_b0_0 : W.heap.size < w9.heap.size := cell_lt b0_0
    have z_b1_0 : w8.heap.size < w9.heap.size := cell_lt b1_0
    have in_9 : InB _ (w8.heap.size + 1) w9.heap.size := ho_9.inL (by first | exact Nat.le_refl _ | (simp; done) | (simp; omega) | omega)
    go_wp2_with fail
    refine (eqByteS_b A_9 A_5 _ c_9 _ c_5 rs rs _ _ _ (ho_9.rdO) (ho_5.rdO) (by omega)).mono ?_
    rw [decide_eq_true rfl]
    rintro e w10 ⟨rfl, hb⟩
    have g_w10 : Below w9.heap.size w9 w10 := (by repeat (first | with_reducible exact bel_refl _ | with_reducible assumption | with_reducible refine bel_set ?_ (by first | (simp; done) | (simp; omega) | omega) _ | with_reducible refine bel_alloc ?_ _ | with_reducible refine bel_drew ?_ | with_reducible refine bel_drewN ?_ _ | with_reducible refine bel_trans ?_ (by assumption)))
    replace b0_0 := old_cell g_w10 b0_0
    replace b0_1 := old_cell g_w10 b0_1
    replace b1_0 := old_cell g_w10 b1_0
    replace b1_1 := old_cell g_w10 b1_1
    replace hr0 := hr0.kept g_w10
    replace hr1 := hr1.kept g_w10
    replace ho_5 := ho_5.kept g_w10
    replace ho_7 := ho_7.kept g_w10
    replace ho_8 := ho_8.kept g_w10
    replace ho_9 := ho_9.kept g_w10
    have zs_w10 := g_w10.size
    have gW : Below W.heap.size W w10 := bel_trans gW g_w10
    clear hb g_w10
    have z_b0_0 : W.heap.size < w10.heap.size := cell_lt b0_0
    have z_b1_0 : w8.heap.size < w10.heap.size := cell_lt b1_0
    go_wp2_with fail
    refine (toByteS_b A0 _ c0 xs0 _ _ hr0 (by omega)).mono ?_
    rintro e w11 ⟨v_11, rfl, ho_11, hb⟩
    obtain ⟨A_11, c_11, rfl, hc_11, _⟩ := ho_11.form
    have g_w11 : Below w10.heap.size w10 w11 := (by repeat (first | with_reducible exact bel_refl _ | with_reducible assumption | with_reducible refine bel_set ?_ (by first | (simp; done) | (simp; omega) | omega) _ | with_reducible refine bel_alloc ?_ _ | with_reducible refine bel_drew ?_ | with_reducible refine bel_drewN ?_ _ | with_reducible refine bel_trans ?_ (by assumption)))
    replace b0_0 := old_cell g_w11 b0_0
    replace b0_1 := old_cell g_w11 b0_1
    replace b1_0 := old_cell g_w11 b1_0
    replace b1_1 := old_cell g_w11 b1_1
    replace hr0 := hr0.kept g_w11
    replace hr1 := hr1.kept g_w11
    replace ho_5 := ho_5.kept g_w11
    replace ho_7 := ho_7.kept g_w11
    replace ho_8 := ho_8.kept g_w11
    replace ho_9 := ho_9.kept g_w11
    have zs_w11 := g_w11.size
    have gW : Below W.heap.size W w11 := bel_trans gW g_w11
    clear hb g_w11
    have z_b0_0 : W.heap.size < w11.heap.size := cell_lt b0_0
    have z_b1_0 : w8.heap.size < w11.heap.size := cell_lt b1_0
    have in_11 : InB _ w10.heap.size w11.heap.size := ho_11.inL (by first | exact Nat.le_refl _ | (simp; done) | (simp; omega) | omega)
    go_wp2_with fail
    refine (eqByteS_b A_7 A_11 _ c_7 _ c_11 xs0 xs0 _ _ _ (ho_7.rdO) (ho_11.rdO) (by omega)).mono ?_
    rw [decide_eq_true rfl]
    rintro e w12 ⟨rfl, hb⟩
    have g_w12 : Below w11.heap.size w11 w12 := (by repeat (first | with_reducible exact bel_refl _ | with_reducible assumption | with_reducible refine bel_set ?_ (by first | (simp; done) | (simp; omega) | omega) _ | with_reducible refine bel_alloc ?_ _ | with_reducible refine bel_drew ?_ | with_reducible refine bel_drewN ?_ _ | with_reducible refine bel_trans ?_ (by assumption)))
    replace b0_0 := old_cell g_w12 b0_0
    replace b0_1 := old_cell g_w12 b0_1
    replace b1_0 := old_cell g_w12 b1_0
    replace b1_1 := old_cell g_w12 b1_1
    replace hr0 := hr0.kept g_w12
    replace hr1 := hr1.kept g_w12
    replace ho_5 := ho_5.kept g_w12
    replace ho_7 := ho_7.kept g_w12
    replace ho_8 := ho_8.kept g_w12
    replace ho_9 := ho_9.kept g_w12
    replace ho_11 := ho_11.kept g_w12
    have zs_w12 := g_w12.size
    have gW : Below W.heap.size W w12 := bel_trans gW g_w12
    clear hb g_w12
    have z_b0_0 : W.heap.size < w12.heap.size := cell_lt b0_0
    have z_b1_0 : w8.heap.size < w12.heap.size := cell_lt b1_0
    go_wp2_with fail
    go_region_held3 (fun w' => Below w12.heap.size w12 w' ∧ w'.cell? ⟨W.heap.size, 0, none⟩ = some (.string kd1) ∧ w'.cell? ⟨W.heap.size, 1, none⟩ = some (.slice A1 xs1.length c1) ∧ w'.cell? ⟨w8.heap.size, 0, none⟩ = some (.string kd1) ∧ w'.cell? ⟨w8.heap.size, 1, none⟩ = some (.slice A_8 xs1.length c_8)) (((refine (fun hB => ⟨hB, old_cell hB b0_0, old_cell hB b0_1, old_cell hB b1_0, old_cell hB b1_1⟩ : Below w12.heap.size w12 _ → _) ?_); (repeat (first | exact bel_refl _ | exact bel_drew (bel_refl _) | exact bel_trans (And.left (by assumption)) (by assumption) | assumption))))
      ((first | (go_at_call 10; (with_reducible refine (toFact_any kd1 A1 _ c1 xs1 _ _ (hr1.kept (And.left (by assumption))) (by omega)).mono ?_); rintro e w13 ⟨v_13, rfl, ho_13, hb⟩; obtain ⟨A_13, c_13, rfl, hc_13, _⟩ := ho_13.rd) | (go_at_call 13; (with_reducible refine (eqFact_any kd1 kd1 A_8 A_13 _ c_8 _ c_13 xs1 xs1 _ _ _ ((ho_8.rdO).kept (And.left (by assumption))) (ho_13.rdO) (by omega)).mono ?_); rw [decide_eq_true rfl]; rintro e w14 ⟨rfl, hb⟩; (try replace ho_13 := ho_13.kept hb))))
    rename_i hHeld
    obtain ⟨hB, _⟩ := hHeld
    replace b0_0 := old_cell hB b0_0
    replace b0_1 := old_cell hB b0_1
    replace b1_0 := old_cell hB b1_0
    replace b1_1 := old_cell hB b1_1
    replace hr0 := hr0.kept hB
    replace hr1 := hr1.kept hB
    replace ho_5 := ho_5.kept hB
    replace ho_7 := ho_7.kept hB
    replace ho_8 := ho_8.kept hB
    replace ho_9 := ho_9.kept hB
    replace ho_11 := ho_11.kept hB
    have zs_15 := hB.size
    replace gW := bel_trans gW hB
    clear hB
    have z_b0_0 : W.heap.size < w14.heap.size := cell_lt b0_0
    have z_b1_0 : w8.heap.size < w14.heap.size := cell_lt b1_0
    go_wp2_with fail
    refine (markByteS_b A_7 c_7 xs0 _ 1 _ _ ho_7 (by first | rfl | omega | simp) (by omega) (by omega)).mono ?_
    rintro e w16 ⟨rfl, hm, hg⟩
    have gg : Below W.heap.size w14 w16 := below_of_grown hg in_7 (by omega) (by omega)
    have zs_w16 := hg.size
    replace b0_0 := cell_far b0_0 hg in_7 (by omega)
    replace b0_1 := cell_far b0_1 hg in_7 (by omega)
    replace b1_0 := cell_far b1_0 hg in_7 (by omega)
    replace b1_1 := cell_far b1_1 hg in_7 (by omega)
    replace hr0 := hr0.belowB gg
    replace hr1 := hr1.belowB gg
    replace ho_5 := ho_5.far hg in_5 in_7 (by omega)
    replace ho_8 := ho_8.far hg in_8 in_7 (by omega)
    replace ho_9 := ho_9.far hg in_9 in_7 (by omega)
    replace ho_11 := ho_11.far hg in_11 in_7 (by omega)
    have gW : Below W.heap.size W w16 := gW.trans gg
    clear ho_7
    have ho_7 := hm
    clear hm hg gg
    have z_b0_0 : W.heap.size < w16.heap.size := cell_lt b0_0
    have z_b1_0 : w8.heap.size < w16.heap.size := cell_lt b1_0
    go_wp2_with fail
    refine (markFact_any kd1 A_8 _ c_8 xs1 _ (1 + 1 * xs0.length) _ _ ho_8 rfl (by first | rfl | omega | simp) (by omega) (by omega)).mono ?_
    rintro e w17 ⟨rfl, hm, hg⟩
    have gg : Below W.heap.size w16 w17 := below_of_grown hg in_8 (by omega) (by omega)
    have zs_w17 := hg.size
    replace b0_0 := cell_far b0_0 hg in_8 (by omega)
    replace b0_1 := cell_far b0_1 hg in_8 (by omega)
    replace b1_0 := cell_far b1_0 hg in_8 (by omega)
    replace b1_1 := cell_far b1_1 hg in_8 (by omega)
    replace hr0 := hr0.belowB gg
    replace hr1 := hr1.belowB gg
    replace ho_5 := ho_5.far hg in_5 in_8 (by omega)
    replace ho_7 := ho_7.far hg in_7 in_8 (by omega)
    replace ho_9 := ho_9.far hg in_9 in_8 (by omega)
    replace ho_11 := ho_11.far hg in_11 in_8 (by omega)
    have gW : Below W.heap.size W w17 := gW.trans gg
    clear ho_8
    have ho_8 := hm
    clear hm hg gg
    have z_b0_0 : W.heap.size < w17.heap.size := cell_lt b0_0
    have z_b1_0 : w8.heap.size < w17.heap.size := cell_lt b1_0
    go_wp2_with fail
    refine (eqByteS_b A_9 A_5 _ c_9 _ c_5 rs rs _ _ _ (ho_9.rdO) (ho_5.rdO) (by omega)).mono ?_
    rw [decide_eq_true rfl]
    rintro e w18 ⟨rfl, hb⟩
    have g_w18 : Below w17.heap.size w17 w18 := (by repeat (first | with_reducible exact bel_refl _ | with_reducible assumption | with_reducible refine bel_set ?_ (by first | (simp; done) | (simp; omega) | omega) _ | with_reducible refine bel_alloc ?_ _ | with_reducible refine bel_drew ?_ | with_reducible refine bel_drewN ?_ _ | with_reducible refine bel_trans ?_ (by assumption)))
    replace b0_0 := old_cell g_w18 b0_0
    replace b0_1 := old_cell g_w18 b0_1
    replace b1_0 := old_cell g_w18 b1_0
    replace b1_1 := old_cell g_w18 b1_1
    replace hr0 := hr0.kept g_w18
    replace hr1 := hr1.kept g_w18
    replace ho_5 := ho_5.kept g_w18
    replace ho_7 := ho_7.kept g_w18
    replace ho_8 := ho_8.kept g_w18
    replace ho_9 := ho_9.kept g_w18
    replace ho_11 := ho_11.kept g_w18
    have zs_w18 := g_w18.size
    have gW : Below W.heap.size W w18 := bel_trans gW g_w18
    clear hb g_w18
    have z_b0_0 : W.heap.size < w18.heap.size := cell_lt b0_0
    have z_b1_0 : w8.heap.size < w18.heap.size := cell_lt b1_0
    go_wp2_with fail
    refine (markByteS_b A_9 c_9 rs _ 1 _ _ ho_9 (by first | rfl | omega | simp) (by omega) (by omega)).mono ?_
    rintro e w19 ⟨rfl, hm, hg⟩
    have gg : Below W.heap.size w18 w19 := below_of_grown hg in_9 (by omega) (by omega)
    have zs_w19 := hg.size
    replace b0_0 := cell_far b0_0 hg in_9 (by omega)
    replace b0_1 := cell_far b0_1 hg in_9 (by omega)
    replace b1_0 := cell_far b1_0 hg in_9 (by omega)
    replace b1_1 := cell_far b1_1 hg in_9 (by omega)
    replace hr0 := hr0.belowB gg
    replace hr1 := hr1.belowB gg
    replace ho_5 := ho_5.far hg in_5 in_9 (by omega)
    replace ho_7 := ho_7.far hg in_7 in_9 (by omega)
    replace ho_8 := ho_8.far hg in_8 in_9 (by omega)
    replace ho_11 := ho_11.far hg in_11 in_9 (by omega)
    have gW : Below W.heap.size W w19 := gW.trans gg
    clear ho_9
    have ho_9 := hm
    clear hm hg gg
    have z_b0_0 : W.heap.size < w19.heap.size := cell_lt b0_0
    have z_b1_0 : w8.heap.size < w19.heap.size := cell_lt b1_0
    go_wp2_with fail
    refine (heldByteS_b A_9 c_9 rs.length _ 1 _ _ (ho_9.rdM (marksB_len _ _)) (by first | rfl | omega | simp) (by omega) (by omega)).mono ?_
    rintro e w20 ⟨rfl, hb⟩
    have g_w20 : Below w19.heap.size w19 w20 := (by repeat (first | with_reducible exact bel_refl _ | with_reducible assumption | with_reducible refine bel_set ?_ (by first | (simp; done) | (simp; omega) | omega) _ | with_reducible refine bel_alloc ?_ _ | with_reducible refine bel_drew ?_ | with_reducible refine bel_drewN ?_ _ | with_reducible refine bel_trans ?_ (by assumption)))
    replace b0_0 := old_cell g_w20 b0_0
    replace b0_1 := old_cell g_w20 b0_1
    replace b1_0 := old_cell g_w20 b1_0
    replace b1_1 := old_cell g_w20 b1_1
    replace hr0 := hr0.kept g_w20
    replace hr1 := hr1.kept g_w20
    replace ho_5 := ho_5.kept g_w20
    replace ho_7 := ho_7.kept g_w20
    replace ho_8 := ho_8.kept g_w20
    replace ho_9 := ho_9.kept g_w20
    replace ho_11 := ho_11.kept g_w20
    have zs_w20 := g_w20.size
    have gW : Below W.heap.size W w20 := bel_trans gW g_w20
    clear hb g_w20
    have z_b0_0 : W.heap.size < w20.heap.size := cell_lt b0_0
    have z_b1_0 : w8.heap.size < w20.heap.size := cell_lt b1_0
    go_upto_region 30 with fail
    go_cut [13] (fun s13 wx => ∃ A c, s13 = .slice A rs.length c ∧ OwnB wx w20.heap.size 5 (.slice A rs.length c) rs ∧ Below w20.heap.size w20 wx)
    case first =>
      go_region_held3 (fun w' => Below w20.heap.size w20 w' ∧ w'.cell? ⟨W.heap.size, 0, none⟩ = some (.string kd1) ∧ w'.cell? ⟨W.heap.size, 1, none⟩ = some (.slice A1 xs1.length c1) ∧ w'.cell? ⟨w8.heap.size, 0, none⟩ = some (.string kd1) ∧ w'.cell? ⟨w8.heap.size, 1, none⟩ = some (.slice A_8 xs1.length c_8)) (((refine (fun hB => ⟨hB, old_cell hB b0_0, old_cell hB b0_1, old_cell hB b1_0, old_cell hB b1_1⟩ : Below w20.heap.size w20 _ → _) ?_); (repeat (first | exact bel_refl _ | exact bel_drew (bel_refl _) | exact bel_trans (And.left (by assumption)) (by assumption) | assumption))))
        ((first | (go_at_call 9; (with_reducible refine (toByteS_b A0 _ c0 xs0 _ _ (hr0.kept (And.left (by assumption))) (by omega)).mono ?_); rintro e w21 ⟨v_21, rfl, ho_21, hb⟩; obtain ⟨A_21, c_21, rfl, hc_21, _⟩ := ho_21.form; (try replace ho_22 := ho_22.kept hb); (try replace ho_23 := ho_23.kept hb)) | (go_at_call 10; (with_reducible refine (toFact_any kd1 A1 _ c1 xs1 _ _ (hr1.kept (And.left (by assumption))) (by omega)).mono ?_); rintro e w22 ⟨v_22, rfl, ho_22, hb⟩; obtain ⟨A_22, c_22, rfl, hc_22, _⟩ := ho_22.rd; (try replace ho_21 := ho_21.kept hb); (try replace ho_23 := ho_23.kept hb)) | (go_at_call 11; (with_reducible refine (implPutFact_any A_21 _ c_21 xs0 kd1 A_22 _ c_22 xs1 _ _ _ (ho_21.rdO).b (ho_21.rdO).le (ho_22.rdO) (by omega) HT1.out).mono ?_); rw [HR.out]; rintro e w23 ⟨v_23, rfl, ho_23, hb, _⟩; obtain ⟨A_23, c_23, rfl, hc_23, _⟩ := ho_23.form; (try replace ho_21 := ho_21.kept hb); (try replace ho_22 := ho_22.kept hb); replace ho_23 := ho_23.lower (And.left (by assumption) : Below w20.heap.size w20 _).size)))
      all_goals
        rename_i hHeld
        go_wp2_with fail
        go_meet
        case rel => exact ⟨_, _, rfl, ho_23, hHeld.1⟩
    case rest =>
      obtain ⟨A_23, c_23, rfl, ho_23, hB⟩ := hcut
      replace b0_0 := old_cell hB b0_0
      replace b0_1 := old_cell hB b0_1
      replace b1_0 := old_cell hB b1_0
      replace b1_1 := old_cell hB b1_1
      replace hr0 := hr0.kept hB
      replace hr1 := hr1.kept hB
      replace ho_5 := ho_5.kept hB
      replace ho_7 := ho_7.kept hB
      replace ho_8 := ho_8.kept hB
      replace ho_9 := ho_9.kept hB
      replace ho_11 := ho_11.kept hB
      have zs_24 := hB.size
      replace gW := bel_trans gW hB
      clear hB
      have z_b0_0 : W.heap.size < wc.heap.size := cell_lt b0_0
      have z_b1_0 : w8.heap.size < wc.heap.size := cell_lt b1_0
      have in_23 : InB _ w20.heap.size wc.heap.size := ho_23.inL (by first | exact Nat.le_refl _ | (simp; done) | (simp; omega) | omega)
      go_wp2_with fail
      refine (eqByteS_b A_23 A_5 _ c_23 _ c_5 rs rs _ _ _ (ho_23.rdO) (ho_5.rdO) (by omega)).mono ?_
      rw [decide_eq_true rfl]
      rintro e w25 ⟨rfl, hb⟩
      have g_w25 : Below wc.heap.size wc w25 := (by repeat (first | with_reducible exact bel_refl _ | with_reducible assumption | with_reducible refine bel_set ?_ (by first | (simp; done) | (simp; omega) | omega) _ | with_reducible refine bel_alloc ?_ _ | with_reducible refine bel_drew ?_ | with_reducible refine bel_drewN ?_ _ | with_reducible refine bel_trans ?_ (by assumption)))
      replace b0_0 := old_cell g_w25 b0_0
      replace b0_1 := old_cell g_w25 b0_1
      replace b1_0 := old_cell g_w25 b1_0
      replace b1_1 := old_cell g_w25 b1_1
      replace hr0 := hr0.kept g_w25
      replace hr1 := hr1.kept g_w25
      replace ho_5 := ho_5.kept g_w25
      replace ho_7 := ho_7.kept g_w25
      replace ho_8 := ho_8.kept g_w25
      replace ho_9 := ho_9.kept g_w25
      replace ho_11 := ho_11.kept g_w25
      replace ho_23 := ho_23.kept g_w25
      have zs_w25 := g_w25.size
      have gW : Below W.heap.size W w25 := bel_trans gW g_w25
      clear hb g_w25
      have z_b0_0 : W.heap.size < w25.heap.size := cell_lt b0_0
      have z_b1_0 : w8.heap.size < w25.heap.size := cell_lt b1_0
      go_wp2_with fail
      refine (heldByteS_b A_9 c_9 rs.length _ 1 _ _ (ho_9.rdM (marksB_len _ _)) (by first | rfl | omega | simp) (by omega) (by omega)).mono ?_
      rintro e w26 ⟨rfl, hb⟩
      have g_w26 : Below w25.heap.size w25 w26 := (by repeat (first | with_reducible exact bel_refl _ | with_reducible assumption | with_reducible refine bel_set ?_ (by first | (simp; done) | (simp; omega) | omega) _ | with_reducible refine bel_alloc ?_ _ | with_reducible refine bel_drew ?_ | with_reducible refine bel_drewN ?_ _ | with_reducible refine bel_trans ?_ (by assumption)))
      replace b0_0 := old_cell g_w26 b0_0
      replace b0_1 := old_cell g_w26 b0_1
      replace b1_0 := old_cell g_w26 b1_0
      replace b1_1 := old_cell g_w26 b1_1
      replace hr0 := hr0.kept g_w26
      replace hr1 := hr1.kept g_w26
      replace ho_5 := ho_5.kept g_w26
      replace ho_7 := ho_7.kept g_w26
      replace ho_8 := ho_8.kept g_w26
      replace ho_9 := ho_9.kept g_w26
      replace ho_11 := ho_11.kept g_w26
      replace ho_23 := ho_23.kept g_w26
      have zs_w26 := g_w26.size
      have gW : Below W.heap.size W w26 := bel_trans gW g_w26
      clear hb g_w26
      have z_b0_0 : W.heap.size < w26.heap.size := cell_lt b0_0
      have z_b1_0 : w8.heap.size < w26.heap.size := cell_lt b1_0
      go_wp2
      go_ret
      exact ⟨rfl, gW⟩

theorem own : ownKnob Try.prog.godebug = none := by kernel_rfl
theorem laidOut : laidOutB Try.prog = true := by kernel_rfl
theorem lifted (os : Os) (started : os.Started) (H : Type) (enc : TypeId × Value → H) :
    ReturnsInHanded {} Try.checked os 3 .any (Rows.fnExactPutFactSpec.pre6 enc Try.prog Try.f3 Rows.fnExactPutFactRow.domain false) (Rows.fnExactPutFactSpec.post enc Try.prog Try.f3 false true false false) := by
  refine returnsInHanded_of_change (C := Try.checked) own started (by kernel_rfl) Try.func3
    (ChangeSpec.witness6 (enc := enc) (C := Try.checked) false ⟨#[], #[.slice none 0 0, .agg #[.string ByteArray.empty, .slice none 0 0]], []⟩ 8 (by kernel_rfl) (by kernel_rfl) (by kernel_rfl) (by kernel_rfl)) ?_
  intro W base args ds gs before hval0 hW hcnd _
  have hval : ∀ (j : Nat) t v, Try.f3.params[j]? = some t → args[j]? = some v → Value.okWide Try.prog W .any base t v := hval0
  have hW' := hW
  obtain ⟨p, q, hA0, hV, rfl, hfz, hnd⟩ := hW
  have hA : DataW.TrodAll enc Try.prog W 0 (fun _ => true) true Try.f3.params.toList args.toList ds p := hA0
  rw [Try.params3] at hA hval
  obtain ⟨v0, vs0, d0, ds0, p0, q0, hargs, rfl, rfl, h0, r0⟩ := trodAll_cons hA
  obtain ⟨v1, vs1, d1, ds1, p1, q1, rfl, rfl, rfl, h1, r1⟩ := trodAll_cons r0
  obtain ⟨rfl, rfl, rfl⟩ := trodAll_nil r1
  obtain rfl : args = #[v0, v1] := by cases args; simp_all
  obtain ⟨rfl, rfl⟩ := trodVars_none hV
  have lt0 : ∀ x ∈ p0, x.block < W.heap.size := by obtain ⟨m, hm⟩ := h0; exact DataW.trod_lt m _ _ _ hm
  obtain ⟨A0, n0, c0, b0, hv0, hs0⟩ := open_bytes Try.underlying22 Try.underlying5 (by kernel_rfl) (hval 0 22 v0 rfl rfl) h0
  subst hv0
  have lt1 : ∀ x ∈ p1, x.block < W.heap.size := by obtain ⟨m, hm⟩ := h1; exact DataW.trod_lt m _ _ _ hm
  obtain ⟨kd1, A1, n1, c1, xs1, hv1, hs1⟩ := open_fact (hval 1 25 v1 rfl rfl) h1
  subst hv1
  clear hA0 hval0
  refine (walk A0 n0 c0 b0 kd1 A1 n1 c1 xs1 W hs0 hs1).mono fun e W' ⟨he, bel⟩ => ?_
  subst he
  exact ⟨_, rfl, _, _, _, [], _, [], hW', trodAll_mk1 (shut_bool Try.underlying4 _), (trodAll_cons_mk (Below.trod laidOut (by kernel_rfl) (of_decide_eq_true (by kernel_rfl)) h0 bel lt0) (trodAll_cons_mk (Below.trod laidOut (by kernel_rfl) (of_decide_eq_true (by kernel_rfl)) h1 bel lt1) trodAll_mk0)), rfl, bel.frame _, fun h => by cases h⟩
theorem over : Rows.fnExactPutFactRow.holds Try.pinned (OpenSpec.ofChange Rows.fnExactPutFactSpec) :=
  OpenClaim.holds_of_wide 3 Try.f3 rfl rfl rfl rfl rfl rfl rfl ⟨rfl, rfl, rfl, rfl, rfl⟩ rfl rfl rfl rfl rfl (by kernel_rfl) Try.func3 (by kernel_rfl)
    (of_decide_eq_true (by kernel_rfl)) (by unfold Func.isWrapper; first | (rw [if_pos (by decide +kernel)]; kernel_rfl) | (rw [if_neg (by decide +kernel)]; exact ⟨rfl, rfl⟩))
    (fun os started H enc _ => lifted os started H enc)
theorem proved : Rows.FnExactPutFactSaid := over
end Go.Proofs.Ytpejngdcbhbchaa.fnExactPutFact
