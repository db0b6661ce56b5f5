/- The law FnExactLessFact returns true at every input, and leaves what it was given as it was. No condition. -/
import Derived.Test.YtdcfkohgijahcaaRead2
import Derived.Test.YtdcfkohgijahcaaFact3
import Derived.Test.YtdcfkohgijahcaaRows
import Derived.Test.YtdcfkohgijahcaaRead
namespace Go.Proofs.Ytdcfkohgijahcaa.fnExactLessFact
open Go.ChangeShapes Go.WideShapes Go.ChangeAt Go.RowKit
open Go.ChangeMaps (open_string shut_string)
set_option linter.unusedVariables false
set_option maxRecDepth 100000
set_option maxHeartbeats 20000000

theorem walk (kd0 : ByteArray) (A0 : Option Addr) (n0 c0 : Nat) (xs0 : List Vl) (kd1 : ByteArray) (A1 : Option Addr) (n1 c1 : Nat) (xs1 : List Vl) (W : World) (hs0 : n0 ≤ c0 ∧ c0 ≤ 9223372036854775807 ∧ kd0.size ≤ 9223372036854775807 ∧ RdS vC 3 W W.heap.size A0 n0 xs0 ∧ ∀ a ∈ xs0, a.s.size ≤ 9223372036854775807) (hs1 : n1 ≤ c1 ∧ c1 ≤ 9223372036854775807 ∧ kd1.size ≤ 9223372036854775807 ∧ RdS vC 3 W W.heap.size A1 n1 xs1 ∧ ∀ a ∈ xs1, a.s.size ≤ 9223372036854775807) :
    Calls Try.prog 9 #[.agg #[.string kd0, .slice A0 n0 c0], .agg #[.string kd1, .slice A1 n1 c1]] W fun e w' => e = .returned (.bool true) ∧ Below W.heap.size W w' := by
  obtain ⟨hnc0, hc0, hk0, hr0, hz0⟩ := hs0
  obtain rfl : n0 = xs0.length := hr0.len.symm
  have HZ0 := Lib.hid hz0; clear hz0
  obtain ⟨hnc1, hc1, hk1, hr1, hz1⟩ := hs1
  obtain rfl : n1 = xs1.length := hr1.len.symm
  have HZ1 := Lib.hid hz1; clear hz1
  by_cases bz0 : (1048576 : Int) < ((totF ⟨kd0, xs0⟩) : Int)
  · have HB := Lib.hid (szR_big bz0)
    go_enter Try.func9, Try.ntmps9
    go_wp2_with fail
    refine (szFact_any kd0 A0 _ c0 _ xs0 _ _ ((hr0.alloc _).alloc _) (by omega) hk0 HZ0.out (by omega) (by omega)).mono ?_
    rw [HB.out]
    rintro e w1 ⟨rfl, hb⟩
    have g_w1 : Below W.heap.size W w1 := (by repeat (first | exact bel_refl _ | assumption | refine bel_alloc ?_ _ | refine bel_drew ?_ | refine bel_drewN ?_ _ | refine bel_trans ?_ (by assumption) | refine bel_set ?_ (by first | (simp; done) | (simp; omega) | omega) _))
    have b0_0 := old_cell hb (b := W.heap.size) (o := 0) (v := .string kd0) (by go_simp)
    have b0_1 := old_cell hb (b := W.heap.size) (o := 1) (v := .slice A0 xs0.length c0) (by go_simp)
    have b1_0 := old_cell hb (b := W.heap.size + 1) (o := 0) (v := .string kd1) (by go_simp)
    have b1_1 := old_cell hb (b := W.heap.size + 1) (o := 1) (v := .slice A1 xs1.length c1) (by go_simp)
    replace hr0 := hr0.kept g_w1
    replace hr1 := hr1.kept g_w1
    have gW := g_w1
    clear hb g_w1
    have z_b0_0 : W.heap.size < w1.heap.size := cell_lt b0_0
    have z_b1_0 : W.heap.size + 1 < w1.heap.size := cell_lt b1_0
    go_wp2
    go_ret
    exact ⟨rfl, gW⟩
  have HF0 := Lib.hid (szR_fit (Int.not_lt.1 bz0))
  by_cases bz1 : (1048576 : Int) - ((totF ⟨kd0, xs0⟩) : Nat) < ((totF ⟨kd1, xs1⟩) : Int)
  · have HB := Lib.hid (szR_big bz1)
    go_enter Try.func9, Try.ntmps9
    go_wp2_with fail
    refine (szFact_any kd0 A0 _ c0 _ xs0 _ _ ((hr0.alloc _).alloc _) (by omega) hk0 HZ0.out (by omega) (by omega)).mono ?_
    rw [HF0.out]
    rintro e w2 ⟨rfl, hb⟩
    have g_w2 : Below W.heap.size W w2 := (by repeat (first | exact bel_refl _ | assumption | refine bel_alloc ?_ _ | refine bel_drew ?_ | refine bel_drewN ?_ _ | refine bel_trans ?_ (by assumption) | refine bel_set ?_ (by first | (simp; done) | (simp; omega) | omega) _))
    have b0_0 := old_cell hb (b := W.heap.size) (o := 0) (v := .string kd0) (by go_simp)
    have b0_1 := old_cell hb (b := W.heap.size) (o := 1) (v := .slice A0 xs0.length c0) (by go_simp)
    have b1_0 := old_cell hb (b := W.heap.size + 1) (o := 0) (v := .string kd1) (by go_simp)
    have b1_1 := old_cell hb (b := W.heap.size + 1) (o := 1) (v := .slice A1 xs1.length c1) (by go_simp)
    replace hr0 := hr0.kept g_w2
    replace hr1 := hr1.kept g_w2
    have gW := g_w2
    clear hb g_w2
    have z_b0_0 : W.heap.size < w2.heap.size := cell_lt b0_0
    have z_b1_0 : W.heap.size + 1 < w2.heap.size := cell_lt b1_0
    go_wp2_with fail
    refine (szFact_any kd1 A1 _ c1 _ xs1 _ _ hr1 (by omega) hk1 HZ1.out (by omega) (by omega)).mono ?_
    rw [HB.out]
    rintro e w3 ⟨rfl, hb⟩
    have g_w3 : Below w2.heap.size w2 w3 := (by repeat (first | exact bel_refl _ | assumption | refine bel_alloc ?_ _ | refine bel_drew ?_ | refine bel_drewN ?_ _ | refine bel_trans ?_ (by assumption) | refine bel_set ?_ (by first | (simp; done) | (simp; omega) | omega) _))
    replace b0_0 := old_cell g_w3 b0_0
    replace b0_1 := old_cell g_w3 b0_1
    replace b1_0 := old_cell g_w3 b1_0
    replace b1_1 := old_cell g_w3 b1_1
    replace hr0 := hr0.kept g_w3
    replace hr1 := hr1.kept g_w3
    have gW : Below W.heap.size W w3 := bel_trans gW g_w3
    clear hb g_w3
    have z_b0_0 : W.heap.size < w3.heap.size := cell_lt b0_0
    have z_b1_0 : W.heap.size + 1 < w3.heap.size := cell_lt b1_0
    go_wp2
    go_ret
    exact ⟨rfl, gW⟩
  have HF1 := Lib.hid (szR_fit (Int.not_lt.1 bz1))
  have hl0 : xs0.length ≤ 1048576 := by unfold totF totV at bz0; simp only at bz0; omega
  have hl1 : xs1.length ≤ 1048576 := by unfold totF totV at bz1; simp only at bz1; omega
  obtain ⟨r, hr⟩ : ∃ r, lessF ⟨kd0, xs0⟩ ⟨kd1, xs1⟩ = r := ⟨_, rfl⟩
  have HR := Lib.hid hr; clear hr
  go_enter Try.func9, Try.ntmps9
  go_wp2_with fail
  refine (szFact_any kd0 A0 _ c0 _ xs0 _ _ ((hr0.alloc _).alloc _) (by omega) hk0 HZ0.out (by omega) (by omega)).mono ?_
  rw [HF0.out]
  rintro e w4 ⟨rfl, hb⟩
  have g_w4 : Below W.heap.size W w4 := (by repeat (first | exact bel_refl _ | assumption | refine bel_alloc ?_ _ | refine bel_drew ?_ | refine bel_drewN ?_ _ | refine bel_trans ?_ (by assumption) | refine bel_set ?_ (by first | (simp; done) | (simp; omega) | omega) _))
  have b0_0 := old_cell hb (b := W.heap.size) (o := 0) (v := .string kd0) (by go_simp)
  have b0_1 := old_cell hb (b := W.heap.size) (o := 1) (v := .slice A0 xs0.length c0) (by go_simp)
  have b1_0 := old_cell hb (b := W.heap.size + 1) (o := 0) (v := .string kd1) (by go_simp)
  have b1_1 := old_cell hb (b := W.heap.size + 1) (o := 1) (v := .slice A1 xs1.length c1) (by go_simp)
  replace hr0 := hr0.kept g_w4
  replace hr1 := hr1.kept g_w4
  have gW := g_w4
  clear hb g_w4
  have z_b0_0 : W.heap.size < w4.heap.size := cell_lt b0_0
  have z_b1_0 : W.heap.size + 1 < w4.heap.size := cell_lt b1_0
  go_wp2_with fail
  refine (szFact_any kd1 A1 _ c1 _ xs1 _ _ hr1 (by omega) hk1 HZ1.out (by omega) (by omega)).mono ?_
  rw [HF1.out]
  rintro e w5 ⟨rfl, hb⟩
  have g_w5 : Below w4.heap.size w4 w5 := (by repeat (first | exact bel_refl _ | assumption | refine bel_alloc ?_ _ | refine bel_drew ?_ | refine bel_drewN ?_ _ | refine bel_trans ?_ (by assumption) | refine bel_set ?_ (by first | (simp; done) | (simp; omega) | omega) _))
  replace b0_0 := old_cell g_w5 b0_0
  replace b0_1 := old_cell g_w5 b0_1
  replace b1_0 := old_cell g_w5 b1_0
  replace b1_1 := old_cell g_w5 b1_1
  replace hr0 := hr0.kept g_w5
  replace hr1 := hr1.kept g_w5
  have gW : Below W.heap.size W w5 := bel_trans gW g_w5
  clear hb g_w5
  have z_b0_0 : W.heap.size < w5.heap.size := cell_lt b0_0
  have z_b1_0 : W.heap.size + 1 < w5.heap.size := cell_lt b1_0
  go_upto_region 8 with fail
  go_cut [6] (fun s6 wx => s6 = .bool r ∧ Below w5.heap.size w5 wx)
  case first =>
    go_region_held3 (fun w' => Below w5.heap.size w5 w' ∧ w'.cell? ⟨W.heap.size, 0, none⟩ = some (.string kd0) ∧ w'.cell? ⟨W.heap.size, 1, none⟩ = some (.slice A0 xs0.length c0) ∧ w'.cell? ⟨W.heap.size + 1, 0, none⟩ = some (.string kd1) ∧ w'.cell? ⟨W.heap.size + 1, 1, none⟩ = some (.slice A1 xs1.length c1)) (((refine (fun hB => ⟨hB, old_cell hB b0_0, old_cell hB b0_1, old_cell hB b1_0, old_cell hB b1_1⟩ : Below w5.heap.size w5 _ → _) ?_); (repeat (first | exact bel_refl _ | exact bel_drew (bel_refl _) | exact bel_trans (And.left (by assumption)) (by assumption) | assumption))))
      ((first | (go_at_call 33; (with_reducible refine (toFact_any kd0 A0 _ c0 xs0 _ _ (hr0.kept (And.left (by assumption))) (by omega)).mono ?_); rintro e w6 ⟨v_6, rfl, ho_6, hb⟩; obtain ⟨A_6, c_6, rfl, hc_6, hr_6⟩ := ho_6.rd; (try replace hr_7 := hr_7.kept hb)) | (go_at_call 33; (with_reducible refine (toFact_any kd1 A1 _ c1 xs1 _ _ (hr1.kept (And.left (by assumption))) (by omega)).mono ?_); rintro e w7 ⟨v_7, rfl, ho_7, hb⟩; obtain ⟨A_7, c_7, rfl, hc_7, hr_7⟩ := ho_7.rd; (try replace hr_6 := hr_6.kept hb)) | (go_at_call 36; (with_reducible refine (specLessFact_any kd0 kd1 A_6 A_7 _ c_6 _ c_7 xs0 xs1 _ _ _ hr_6 hr_7 (by omega) (by omega)).mono ?_); rw [HR.out]; rintro e w8 ⟨rfl, hb⟩; (try replace hr_6 := hr_6.kept hb); (try replace hr_7 := hr_7.kept hb))))
    all_goals
      rename_i hHeld
      go_wp2_with fail
      go_meet
      case rel => exact ⟨rfl, hHeld.1⟩
  case rest =>
    obtain ⟨rfl, hB⟩ := hcut
    replace b0_0 := old_cell hB b0_0
    replace b0_1 := old_cell hB b0_1
    replace b1_0 := old_cell hB b1_0
    replace b1_1 := old_cell hB b1_1
    replace hr0 := hr0.kept hB
    replace hr1 := hr1.kept hB
    replace gW := bel_trans gW hB
    clear hB
    have z_b0_0 : W.heap.size < wc.heap.size := cell_lt b0_0
    have z_b1_0 : W.heap.size + 1 < wc.heap.size := cell_lt b1_0
    go_wp2_with fail
    refine (toFact_any kd0 A0 _ c0 xs0 _ _ hr0 (by omega)).mono ?_
    rintro e w9 ⟨v_9, rfl, ho_9, hb⟩
    obtain ⟨A_9, c_9, rfl, hc_9, hr_9⟩ := ho_9.rd
    have g_w9 : Below wc.heap.size wc w9 := (by repeat (first | exact bel_refl _ | assumption | refine bel_alloc ?_ _ | refine bel_drew ?_ | refine bel_drewN ?_ _ | refine bel_trans ?_ (by assumption) | refine bel_set ?_ (by first | (simp; done) | (simp; omega) | omega) _))
    replace b0_0 := old_cell g_w9 b0_0
    replace b0_1 := old_cell g_w9 b0_1
    replace b1_0 := old_cell g_w9 b1_0
    replace b1_1 := old_cell g_w9 b1_1
    replace hr0 := hr0.kept g_w9
    replace hr1 := hr1.kept g_w9
    have gW : Below W.heap.size W w9 := bel_trans gW g_w9
    clear hb g_w9
    have z_b0_0 : W.heap.size < w9.heap.size := cell_lt b0_0
    have z_b1_0 : W.heap.size + 1 < w9.heap.size := cell_lt b1_0
    go_wp2_with fail
    refine (toFact_any kd1 A1 _ c1 xs1 _ _ (hr1.alloc _) (by omega)).mono ?_
    rintro e w10 ⟨v_10, rfl, ho_10, hb⟩
    obtain ⟨A_10, c_10, rfl, hc_10, hr_10⟩ := ho_10.rd
    have g_w10 : Below w9.heap.size w9 w10 := (by repeat (first | exact bel_refl _ | assumption | refine bel_alloc ?_ _ | refine bel_drew ?_ | refine bel_drewN ?_ _ | refine bel_trans ?_ (by assumption) | refine bel_set ?_ (by first | (simp; done) | (simp; omega) | omega) _))
    have b2_0 := old_cell hb (b := w9.heap.size) (o := 0) (v := .string kd0) (by go_simp)
    have b2_1 := old_cell hb (b := w9.heap.size) (o := 1) (v := .slice A_9 xs0.length c_9) (by go_simp)
    replace b0_0 := old_cell g_w10 b0_0
    replace b0_1 := old_cell g_w10 b0_1
    replace b1_0 := old_cell g_w10 b1_0
    replace b1_1 := old_cell g_w10 b1_1
    replace hr0 := hr0.kept g_w10
    replace hr1 := hr1.kept g_w10
    replace hr_9 := hr_9.kept g_w10
    have gW : Below W.heap.size W w10 := bel_trans gW g_w10
    clear hb g_w10
    have z_b0_0 : W.heap.size < w10.heap.size := cell_lt b0_0
    have z_b1_0 : W.heap.size + 1 < w10.heap.size := cell_lt b1_0
    have z_b2_0 : w9.heap.size < w10.heap.size := cell_lt b2_0
    go_wp2_with fail
    refine (implLessFact_any kd0 kd1 A_9 A_10 _ c_9 _ c_10 xs0 xs1 _ _ _ (hr_9.alloc _) (hr_10.alloc _) (by omega) (by omega)).mono ?_
    rw [HR.out]
    rintro e w11 ⟨rfl, hb⟩
    have g_w11 : Below w10.heap.size w10 w11 := (by repeat (first | exact bel_refl _ | assumption | refine bel_alloc ?_ _ | refine bel_drew ?_ | refine bel_drewN ?_ _ | refine bel_trans ?_ (by assumption) | refine bel_set ?_ (by first | (simp; done) | (simp; omega) | omega) _))
    have b3_0 := old_cell hb (b := w10.heap.size) (o := 0) (v := .string kd1) (by go_simp)
    have b3_1 := old_cell hb (b := w10.heap.size) (o := 1) (v := .slice A_10 xs1.length c_10) (by go_simp)
    replace b0_0 := old_cell g_w11 b0_0
    replace b0_1 := old_cell g_w11 b0_1
    replace b1_0 := old_cell g_w11 b1_0
    replace b1_1 := old_cell g_w11 b1_1
    replace b2_0 := old_cell g_w11 b2_0
    replace b2_1 := old_cell g_w11 b2_1
    replace hr0 := hr0.kept g_w11
    replace hr1 := hr1.kept g_w11
    replace hr_9 := hr_9.kept g_w11
    replace hr_10 := hr_10.kept g_w11
    have gW : Below W.heap.size W w11 := bel_trans gW g_w11
    clear hb g_w11
    have z_b0_0 : W.heap.size < w11.heap.size := cell_lt b0_0
    have z_b1_0 : W.heap.size + 1 < w11.heap.size := cell_lt b1_0
    have z_b2_0 : w9.heap.size < w11.heap.size := cell_lt b2_0
    have z_b3_0 : w10.heap.size < w11.heap.size := cell_lt b3_0
    go_wp2_with fail
    go_region_held3 (fun w' => Below w11.heap.size w11 w' ∧ w'.cell? ⟨W.heap.size, 0, none⟩ = some (.string kd0) ∧ w'.cell? ⟨W.heap.size, 1, none⟩ = some (.slice A0 xs0.length c0) ∧ w'.cell? ⟨W.heap.size + 1, 0, none⟩ = some (.string kd1) ∧ w'.cell? ⟨W.heap.size + 1, 1, none⟩ = some (.slice A1 xs1.length c1) ∧ w'.cell? ⟨w9.heap.size, 0, none⟩ = some (.string kd0) ∧ w'.cell? ⟨w9.heap.size, 1, none⟩ = some (.slice A_9 xs0.length c_9) ∧ w'.cell? ⟨w10.heap.size, 0, none⟩ = some (.string kd1) ∧ w'.cell? ⟨w10.heap.size, 1, none⟩ = some (.slice A_10 xs1.length c_10)) (((refine (fun hB => ⟨hB, old_cell hB b0_0, old_cell hB b0_1, old_cell hB b1_0, old_cell hB b1_1, old_cell hB b2_0, old_cell hB b2_1, old_cell hB b3_0, old_cell hB b3_1⟩ : Below w11.heap.size w11 _ → _) ?_); (repeat (first | exact bel_refl _ | exact bel_drew (bel_refl _) | exact bel_trans (And.left (by assumption)) (by assumption) | assumption))))
      ((first | (go_at_call 33; (with_reducible refine (toFact_any kd0 A0 _ c0 xs0 _ _ (hr0.kept (And.left (by assumption))) (by omega)).mono ?_); rintro e w12 ⟨v_12, rfl, ho_12, hb⟩; obtain ⟨A_12, c_12, rfl, hc_12, hr_12⟩ := ho_12.rd) | (go_at_call 35; (with_reducible refine (eqFact_any kd0 kd0 A_9 A_12 _ c_9 _ c_12 xs0 xs0 _ _ _ (hr_9.kept (And.left (by assumption))) hr_12 (by omega)).mono ?_); rw [decide_eq_true rfl]; rintro e w13 ⟨rfl, hb⟩; (try replace hr_12 := hr_12.kept hb))))
    rename_i hHeld
    obtain ⟨hB, _⟩ := hHeld
    replace b0_0 := old_cell hB b0_0
    replace b0_1 := old_cell hB b0_1
    replace b1_0 := old_cell hB b1_0
    replace b1_1 := old_cell hB b1_1
    replace b2_0 := old_cell hB b2_0
    replace b2_1 := old_cell hB b2_1
    replace b3_0 := old_cell hB b3_0
    replace b3_1 := old_cell hB b3_1
    replace hr0 := hr0.kept hB
    replace hr1 := hr1.kept hB
    replace hr_9 := hr_9.kept hB
    replace hr_10 := hr_10.kept hB
    replace gW := bel_trans gW hB
    clear hB
    have z_b0_0 : W.heap.size < w13.heap.size := cell_lt b0_0
    have z_b1_0 : W.heap.size + 1 < w13.heap.size := cell_lt b1_0
    have z_b2_0 : w9.heap.size < w13.heap.size := cell_lt b2_0
    have z_b3_0 : w10.heap.size < w13.heap.size := cell_lt b3_0
    go_wp2_with fail
    go_region_held3 (fun w' => Below w13.heap.size w13 w' ∧ w'.cell? ⟨W.heap.size, 0, none⟩ = some (.string kd0) ∧ w'.cell? ⟨W.heap.size, 1, none⟩ = some (.slice A0 xs0.length c0) ∧ w'.cell? ⟨W.heap.size + 1, 0, none⟩ = some (.string kd1) ∧ w'.cell? ⟨W.heap.size + 1, 1, none⟩ = some (.slice A1 xs1.length c1) ∧ w'.cell? ⟨w9.heap.size, 0, none⟩ = some (.string kd0) ∧ w'.cell? ⟨w9.heap.size, 1, none⟩ = some (.slice A_9 xs0.length c_9) ∧ w'.cell? ⟨w10.heap.size, 0, none⟩ = some (.string kd1) ∧ w'.cell? ⟨w10.heap.size, 1, none⟩ = some (.slice A_10 xs1.length c_10)) (((refine (fun hB => ⟨hB, old_cell hB b0_0, old_cell hB b0_1, old_cell hB b1_0, old_cell hB b1_1, old_cell hB b2_0, old_cell hB b2_1, old_cell hB b3_0, old_cell hB b3_1⟩ : Below w13.heap.size w13 _ → _) ?_); (repeat (first | exact bel_refl _ | exact bel_drew (bel_refl _) | exact bel_trans (And.left (by assumption)) (by assumption) | assumption))))
      ((first | (go_at_call 33; (with_reducible refine (toFact_any kd1 A1 _ c1 xs1 _ _ (hr1.kept (And.left (by assumption))) (by omega)).mono ?_); rintro e w14 ⟨v_14, rfl, ho_14, hb⟩; obtain ⟨A_14, c_14, rfl, hc_14, hr_14⟩ := ho_14.rd) | (go_at_call 35; (with_reducible refine (eqFact_any kd1 kd1 A_10 A_14 _ c_10 _ c_14 xs1 xs1 _ _ _ (hr_10.kept (And.left (by assumption))) hr_14 (by omega)).mono ?_); rw [decide_eq_true rfl]; rintro e w15 ⟨rfl, hb⟩; (try replace hr_14 := hr_14.kept hb))))
    rename_i hHeld
    obtain ⟨hB, _⟩ := hHeld
    replace b0_0 := old_cell hB b0_0
    replace b0_1 := old_cell hB b0_1
    replace b1_0 := old_cell hB b1_0
    replace b1_1 := old_cell hB b1_1
    replace b2_0 := old_cell hB b2_0
    replace b2_1 := old_cell hB b2_1
    replace b3_0 := old_cell hB b3_0
    replace b3_1 := old_cell hB b3_1
    replace hr0 := hr0.kept hB
    replace hr1 := hr1.kept hB
    replace hr_9 := hr_9.kept hB
    replace hr_10 := hr_10.kept hB
    replace gW := bel_trans gW hB
    clear hB
    have z_b0_0 : W.heap.size < w15.heap.size := cell_lt b0_0
    have z_b1_0 : W.heap.size + 1 < w15.heap.size := cell_lt b1_0
    have z_b2_0 : w9.heap.size < w15.heap.size := cell_lt b2_0
    have z_b3_0 : w10.heap.size < w15.heap.size := cell_lt b3_0
    go_wp2
    go_ret
    exact ⟨rfl, gW⟩

theorem own : ownKnob Try.prog.godebug = none := by kernel_rfl
theorem laidOut : laidOutB Try.prog = true := by kernel_rfl
theorem lifted (os : Os) (started : os.Started) (H : Type) (enc : TypeId × Value → H) :
    ReturnsInHanded {} Try.checked os 9 .any (Rows.fnExactLessFactSpec.pre6 enc Try.prog Try.f9 Rows.fnExactLessFactRow.domain false) (Rows.fnExactLessFactSpec.post enc Try.prog Try.f9 false true false false) := by
  refine returnsInHanded_of_change (C := Try.checked) own started (by kernel_rfl) Try.func9
    (ChangeSpec.witness6 (enc := enc) (C := Try.checked) false ⟨#[], #[.agg #[.string ByteArray.empty, .slice none 0 0], .agg #[.string ByteArray.empty, .slice none 0 0]], []⟩ 8 (by kernel_rfl) (by kernel_rfl) (by kernel_rfl) (by kernel_rfl)) ?_
  intro W base args ds gs before hval0 hW hcnd _
  have hval : ∀ (j : Nat) t v, Try.f9.params[j]? = some t → args[j]? = some v → Value.okWide Try.prog W .any base t v := hval0
  have hW' := hW
  obtain ⟨p, q, hA0, hV, rfl, hfz, hnd⟩ := hW
  have hA : DataW.TrodAll enc Try.prog W 0 (fun _ => true) true Try.f9.params.toList args.toList ds p := hA0
  rw [Try.params9] at hA hval
  obtain ⟨v0, vs0, d0, ds0, p0, q0, hargs, rfl, rfl, h0, r0⟩ := trodAll_cons hA
  obtain ⟨v1, vs1, d1, ds1, p1, q1, rfl, rfl, rfl, h1, r1⟩ := trodAll_cons r0
  obtain ⟨rfl, rfl, rfl⟩ := trodAll_nil r1
  obtain rfl : args = #[v0, v1] := by cases args; simp_all
  obtain ⟨rfl, rfl⟩ := trodVars_none hV
  have lt0 : ∀ x ∈ p0, x.block < W.heap.size := by obtain ⟨m, hm⟩ := h0; exact DataW.trod_lt m _ _ _ hm
  obtain ⟨kd0, A0, n0, c0, xs0, hv0, hs0⟩ := open_fact (hval 0 45 v0 rfl rfl) h0
  subst hv0
  have lt1 : ∀ x ∈ p1, x.block < W.heap.size := by obtain ⟨m, hm⟩ := h1; exact DataW.trod_lt m _ _ _ hm
  obtain ⟨kd1, A1, n1, c1, xs1, hv1, hs1⟩ := open_fact (hval 1 45 v1 rfl rfl) h1
  subst hv1
  clear hA0 hval0
  refine (walk kd0 A0 n0 c0 xs0 kd1 A1 n1 c1 xs1 W hs0 hs1).mono fun e W' ⟨he, bel⟩ => ?_
  subst he
  exact ⟨_, rfl, _, _, _, [], _, [], hW', trodAll_mk1 (shut_bool Try.underlying4 _), (trodAll_cons_mk (Below.trod laidOut (by kernel_rfl) (of_decide_eq_true (by kernel_rfl)) h0 bel lt0) (trodAll_cons_mk (Below.trod laidOut (by kernel_rfl) (of_decide_eq_true (by kernel_rfl)) h1 bel lt1) trodAll_mk0)), rfl, bel.frame _, fun h => by cases h⟩
theorem over : Rows.fnExactLessFactRow.holds Try.pinned (OpenSpec.ofChange Rows.fnExactLessFactSpec) :=
  OpenClaim.holds_of_wide 9 Try.f9 rfl rfl rfl rfl rfl rfl rfl ⟨rfl, rfl, rfl, rfl, rfl⟩ rfl rfl rfl rfl rfl (by kernel_rfl) Try.func9 (by kernel_rfl)
    (of_decide_eq_true (by kernel_rfl)) (by unfold Func.isWrapper; first | (rw [if_pos (by decide +kernel)]; kernel_rfl) | (rw [if_neg (by decide +kernel)]; exact ⟨rfl, rfl⟩))
    (fun os started H enc _ => lifted os started H enc)
theorem proved : Rows.FnExactLessFactSaid := over
end Go.Proofs.Ytdcfkohgijahcaa.fnExactLessFact
