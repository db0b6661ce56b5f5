/- The law FnExactRetract returns true at every input, and leaves what it was given as it was. No condition. -/
import Derived.Test.YtndhjijcicebkaaReadS
import Derived.Test.YtndhjijcicebkaaStoreB
import Derived.Test.YtndhjijcicebkaaItemM
import Derived.Test.YtndhjijcicebkaaFactM
import Derived.Test.YtndhjijcicebkaaStoreX
import Derived.Test.YtndhjijcicebkaaStep
import Derived.Test.YtndhjijcicebkaaRows
import Derived.Test.YtndhjijcicebkaaRead
namespace Go.Proofs.Ytndhjijcicebkaa.fnExactRetract
open Go.ChangeShapes Go.WideShapes Go.ChangeAt Go.RowKit
open Go.ChangeMaps (open_string shut_string)
set_option linter.unusedVariables false
set_option maxRecDepth 100000
set_option maxHeartbeats 20000000

theorem walk (A0 : Option Addr) (n0 c0 : Nat) (xs0 : List IR) (nx0 : Int) (x1 : Int) (W : World) (hs0 : n0 ≤ c0 ∧ c0 ≤ 9223372036854775807 ∧ RdI W W.heap.size A0 n0 xs0 ∧ ∀ a ∈ xs0, goodI a) (hs1 : -9223372036854775808 ≤ x1 ∧ x1 ≤ 9223372036854775807) :
    Calls Try.prog 4 #[.agg #[.slice A0 n0 c0, .int .i64 nx0], .int .i64 x1] W fun e w' => e = .returned (.bool true) ∧ Below W.heap.size W w' := by
  obtain ⟨hnc0, hc0, hr0, hz0⟩ := hs0
  obtain rfl : n0 = xs0.length := hr0.len.symm
  have HZ0 := Lib.hid hz0; clear hz0
  by_cases bz0 : (1048576 : Int) < ((totSt xs0) : Int)
  · have HB := Lib.hid (szR_big bz0)
    go_enter Try.func4, Try.ntmps4
    go_wp2_with fail
    refine (szStore_any A0 _ c0 _ xs0 nx0 _ _ (hr0.alloc _) (by omega) HZ0.out (by omega) (by omega)).mono ?_
    rw [HB.out]
    rintro e w1 ⟨rfl, hb⟩
    have g_w1 : Below W.heap.size W w1 := (by repeat (first | with_reducible exact bel_refl _ | with_reducible assumption | with_reducible refine bel_set ?_ (by first | (simp; done) | (simp; omega) | omega) _ | with_reducible refine bel_alloc ?_ _ | with_reducible refine bel_drew ?_ | with_reducible refine bel_drewN ?_ _ | with_reducible refine bel_trans ?_ (by assumption)))
    have b0_0 := old_cell hb (b := W.heap.size) (o := 0) (v := .slice A0 xs0.length c0) (by go_simp)
    have b0_1 := old_cell hb (b := W.heap.size) (o := 1) (v := .int .i64 nx0) (by go_simp)
    replace hr0 := hr0.kept g_w1
    have zs_w1 := g_w1.size
    have gW := g_w1
    clear hb g_w1
    have z_b0_0 : W.heap.size < w1.heap.size := cell_lt b0_0
    go_wp2
    go_ret
    exact ⟨rfl, gW⟩
  have HF0 := Lib.hid (szR_fit (Int.not_lt.1 bz0))
  have hl0 : xs0.length ≤ 1048576 := by unfold totSt totI at bz0; omega
  have HSL0 := Lib.hid (totSt_fs (Int.not_lt.1 bz0))
  have HTB0 := Lib.hid (Int.not_lt.1 bz0)
  obtain ⟨⟨rl, rok⟩, hr⟩ : ∃ r, retractF (xs0.map itOf) nx0 x1 = r := ⟨_, rfl⟩
  have HBG := Lib.hid (retractF_big hr HTB0.out)
  have HR := Lib.hid hr; clear hr
  go_enter Try.func4, Try.ntmps4
  go_wp2_with fail
  refine (szStore_any A0 _ c0 _ xs0 nx0 _ _ (hr0.alloc _) (by omega) HZ0.out (by omega) (by omega)).mono ?_
  rw [HF0.out]
  rintro e w2 ⟨rfl, hb⟩
  have g_w2 : Below W.heap.size W w2 := (by repeat (first | with_reducible exact bel_refl _ | with_reducible assumption | with_reducible refine bel_set ?_ (by first | (simp; done) | (simp; omega) | omega) _ | with_reducible refine bel_alloc ?_ _ | with_reducible refine bel_drew ?_ | with_reducible refine bel_drewN ?_ _ | with_reducible refine bel_trans ?_ (by assumption)))
  have b0_0 := old_cell hb (b := W.heap.size) (o := 0) (v := .slice A0 xs0.length c0) (by go_simp)
  have b0_1 := old_cell hb (b := W.heap.size) (o := 1) (v := .int .i64 nx0) (by go_simp)
  replace hr0 := hr0.kept g_w2
  have zs_w2 := g_w2.size
  have gW := g_w2
  clear hb g_w2
  have z_b0_0 : W.heap.size < w2.heap.size := cell_lt b0_0
  go_wp2_with fail
  refine (toStore_any A0 _ c0 xs0 nx0 _ _ hr0 (by omega) HSL0.out).mono ?_
  rintro e w3 ⟨A_3, c_3, rs_3, rfl, hc_3, hm_3, ho_3, hb⟩
  have HM_3 := Lib.hid hm_3
  clear hm_3
  have HLEN_3 := Lib.hid (map_len HM_3.out)
  have g_w3 : Below w2.heap.size w2 w3 := (by repeat (first | with_reducible exact bel_refl _ | with_reducible assumption | with_reducible refine bel_set ?_ (by first | (simp; done) | (simp; omega) | omega) _ | with_reducible refine bel_alloc ?_ _ | with_reducible refine bel_drew ?_ | with_reducible refine bel_drewN ?_ _ | with_reducible refine bel_trans ?_ (by assumption)))
  replace b0_0 := old_cell g_w3 b0_0
  replace b0_1 := old_cell g_w3 b0_1
  replace hr0 := hr0.kept g_w3
  have zs_w3 := g_w3.size
  have gW : Below W.heap.size W w3 := bel_trans gW g_w3
  clear hb g_w3
  have z_b0_0 : W.heap.size < w3.heap.size := cell_lt b0_0
  have in_3 : InI _ _ w2.heap.size w3.heap.size := ho_3.inL (by first | exact Nat.le_refl _ | (simp; done) | (simp; omega) | omega)
  go_wp2_with fail
  refine (specRetract_any A_3 _ c_3 rs_3 nx0 x1 _ _ (ho_3.rdO) (by have := HLEN_3.out; omega) (fs_map HM_3.out HSL0.out) (good_of HM_3.out HZ0.out (fs_map HM_3.out HSL0.out)) rl rok (by rw [HM_3.out]; exact HR.out)).mono ?_
  dsimp only [tupRt]
  rintro e w4 ⟨A_4, c_4, rs_4, rfl, hc_4, hm_4, ho_4, hb⟩
  have HM_4 := Lib.hid hm_4
  clear hm_4
  have g_w4 : Below w3.heap.size w3 w4 := (by repeat (first | with_reducible exact bel_refl _ | with_reducible assumption | with_reducible refine bel_set ?_ (by first | (simp; done) | (simp; omega) | omega) _ | with_reducible refine bel_alloc ?_ _ | with_reducible refine bel_drew ?_ | with_reducible refine bel_drewN ?_ _ | with_reducible refine bel_trans ?_ (by assumption)))
  replace b0_0 := old_cell g_w4 b0_0
  replace b0_1 := old_cell g_w4 b0_1
  replace hr0 := hr0.kept g_w4
  replace ho_3 := ho_3.kept g_w4
  have zs_w4 := g_w4.size
  have gW : Below W.heap.size W w4 := bel_trans gW g_w4
  clear hb g_w4
  have z_b0_0 : W.heap.size < w4.heap.size := cell_lt b0_0
  have in_4 : InI _ _ w3.heap.size w4.heap.size := ho_4.inL (by first | exact Nat.le_refl _ | (simp; done) | (simp; omega) | omega)
  go_wp2_with fail
  refine (toStore_any A0 _ c0 xs0 nx0 _ _ (hr0.alloc _) (by omega) HSL0.out).mono ?_
  rintro e w5 ⟨A_5, c_5, rs_5, rfl, hc_5, hm_5, ho_5, hb⟩
  have HM_5 := Lib.hid hm_5
  clear hm_5
  have HLEN_5 := Lib.hid (map_len HM_5.out)
  have g_w5 : Below w4.heap.size w4 w5 := (by repeat (first | with_reducible exact bel_refl _ | with_reducible assumption | with_reducible refine bel_set ?_ (by first | (simp; done) | (simp; omega) | omega) _ | with_reducible refine bel_alloc ?_ _ | with_reducible refine bel_drew ?_ | with_reducible refine bel_drewN ?_ _ | with_reducible refine bel_trans ?_ (by assumption)))
  have b1_0 := old_cell hb (b := w4.heap.size) (o := 0) (v := .slice A_4 rs_4.length c_4) (by go_simp)
  have b1_1 := old_cell hb (b := w4.heap.size) (o := 1) (v := .int .i64 nx0) (by go_simp)
  replace b0_0 := old_cell g_w5 b0_0
  replace b0_1 := old_cell g_w5 b0_1
  replace hr0 := hr0.kept g_w5
  replace ho_3 := ho_3.kept g_w5
  replace ho_4 := ho_4.kept g_w5
  have zs_w5 := g_w5.size
  have gW : Below W.heap.size W w5 := bel_trans gW g_w5
  clear hb g_w5
  have z_b0_0 : W.heap.size < w5.heap.size := cell_lt b0_0
  have z_b1_0 : w4.heap.size < w5.heap.size := cell_lt b1_0
  have in_5 : InI _ _ (w4.heap.size + 1) w5.heap.size := ho_5.inL (by first | exact Nat.le_refl _ | (simp; done) | (simp; omega) | omega)
  go_wp2_with fail
  refine (implRetract_any A_5 _ c_5 rs_5 nx0 x1 _ _ ((ho_5.rdO).alloc _) (by have := HLEN_5.out; omega) hc_5 (fs_map HM_5.out HSL0.out) (good_of HM_5.out HZ0.out (fs_map HM_5.out HSL0.out)) rl rok (by rw [HM_5.out]; exact HR.out)).mono ?_
  dsimp only [tupRt]
  rintro e w6 ⟨A_6, c_6, rs_6, rfl, hc_6, hm_6, ho_6, hb⟩
  have HM_6 := Lib.hid hm_6
  clear hm_6
  have g_w6 : Below w5.heap.size w5 w6 := (by repeat (first | with_reducible exact bel_refl _ | with_reducible assumption | with_reducible refine bel_set ?_ (by first | (simp; done) | (simp; omega) | omega) _ | with_reducible refine bel_alloc ?_ _ | with_reducible refine bel_drew ?_ | with_reducible refine bel_drewN ?_ _ | with_reducible refine bel_trans ?_ (by assumption)))
  have b2_0 := old_cell hb (b := w5.heap.size) (o := 0) (v := .slice A_5 rs_5.length c_5) (by go_simp)
  have b2_1 := old_cell hb (b := w5.heap.size) (o := 1) (v := .int .i64 nx0) (by go_simp)
  replace b0_0 := old_cell g_w6 b0_0
  replace b0_1 := old_cell g_w6 b0_1
  replace b1_0 := old_cell g_w6 b1_0
  replace b1_1 := old_cell g_w6 b1_1
  replace hr0 := hr0.kept g_w6
  replace ho_3 := ho_3.kept g_w6
  replace ho_4 := ho_4.kept g_w6
  replace ho_5 := ho_5.kept g_w6
  have zs_w6 := g_w6.size
  have gW : Below W.heap.size W w6 := bel_trans gW g_w6
  clear hb g_w6
  have z_b0_0 : W.heap.size < w6.heap.size := cell_lt b0_0
  have z_b1_0 : w4.heap.size < w6.heap.size := cell_lt b1_0
  have z_b2_0 : w5.heap.size < w6.heap.size := cell_lt b2_0
  have in_6 : InI _ _ (w5.heap.size + 1) w6.heap.size := ho_6.inL (by first | exact Nat.le_refl _ | (simp; done) | (simp; omega) | omega)
  go_wp2_with fail
  refine (eqStore_any A_6 A_4 _ c_6 _ c_4 rs_6 rs_4 nx0 nx0 _ _ _ ((ho_6.rdO).alloc _) ((ho_4.rdO).alloc _) (by have := len_of HM_6.out HBG.out; omega) (fs_le (fs_of HM_6.out HBG.out) (by omega))).mono ?_
  rw [decide_eq_true (st_eq HM_6.out HM_4.out)]
  rintro e w7 ⟨rfl, hb⟩
  have g_w7 : Below w6.heap.size w6 w7 := (by repeat (first | with_reducible exact bel_refl _ | with_reducible assumption | with_reducible refine bel_set ?_ (by first | (simp; done) | (simp; omega) | omega) _ | with_reducible refine bel_alloc ?_ _ | with_reducible refine bel_drew ?_ | with_reducible refine bel_drewN ?_ _ | with_reducible refine bel_trans ?_ (by assumption)))
  have b3_0 := old_cell hb (b := w6.heap.size) (o := 0) (v := .slice A_6 rs_6.length c_6) (by go_simp)
  have b3_1 := old_cell hb (b := w6.heap.size) (o := 1) (v := .int .i64 nx0) (by go_simp)
  replace b0_0 := old_cell g_w7 b0_0
  replace b0_1 := old_cell g_w7 b0_1
  replace b1_0 := old_cell g_w7 b1_0
  replace b1_1 := old_cell g_w7 b1_1
  replace b2_0 := old_cell g_w7 b2_0
  replace b2_1 := old_cell g_w7 b2_1
  replace hr0 := hr0.kept g_w7
  replace ho_3 := ho_3.kept g_w7
  replace ho_4 := ho_4.kept g_w7
  replace ho_5 := ho_5.kept g_w7
  replace ho_6 := ho_6.kept g_w7
  have zs_w7 := g_w7.size
  have gW : Below W.heap.size W w7 := bel_trans gW g_w7
  clear hb g_w7
  have z_b0_0 : W.heap.size < w7.heap.size := cell_lt b0_0
  have z_b1_0 : w4.heap.size < w7.heap.size := cell_lt b1_0
  have z_b2_0 : w5.heap.size < w7.heap.size := cell_lt b2_0
  have z_b3_0 : w6.heap.size < w7.heap.size := cell_lt b3_0
  go_wp2_with fail
  go_region_held3 (fun w' => Below w7.heap.size w7 w' ∧ w'.cell? ⟨W.heap.size, 0, none⟩ = some (.slice A0 xs0.length c0) ∧ w'.cell? ⟨W.heap.size, 1, none⟩ = some (.int .i64 nx0) ∧ w'.cell? ⟨w4.heap.size, 0, none⟩ = some (.slice A_4 rs_4.length c_4) ∧ w'.cell? ⟨w4.heap.size, 1, none⟩ = some (.int .i64 nx0) ∧ w'.cell? ⟨w5.heap.size, 0, none⟩ = some (.slice A_5 rs_5.length c_5) ∧ w'.cell? ⟨w5.heap.size, 1, none⟩ = some (.int .i64 nx0) ∧ w'.cell? ⟨w6.heap.size, 0, none⟩ = some (.slice A_6 rs_6.length c_6) ∧ w'.cell? ⟨w6.heap.size, 1, none⟩ = some (.int .i64 nx0)) (((refine (fun hB => ⟨hB, old_cell hB b0_0, old_cell hB b0_1, old_cell hB b1_0, old_cell hB b1_1, old_cell hB b2_0, old_cell hB b2_1, old_cell hB b3_0, old_cell hB b3_1⟩ : Below w7.heap.size w7 _ → _) ?_); (repeat (first | exact bel_refl _ | exact bel_drew (bel_refl _) | exact bel_trans (And.left (by assumption)) (by assumption) | assumption))))
    ((first | (go_at_call 11; (with_reducible refine (toStore_any A0 _ c0 xs0 nx0 _ _ (hr0.kept (And.left (by assumption))) (by omega) HSL0.out).mono ?_); rintro e w8 ⟨A_8, c_8, rs_8, rfl, hc_8, hm_8, ho_8, hb⟩; have HM_8 := Lib.hid hm_8; clear hm_8; have HLEN_8 := Lib.hid (map_len HM_8.out)) | (go_at_call 14; (with_reducible refine (eqStore_any A_5 A_8 _ c_5 _ c_8 rs_5 rs_8 nx0 nx0 _ _ _ ((ho_5.rdO).kept (And.left (by assumption))) (ho_8.rdO) (by have := HLEN_5.out; omega) (fs_le (fs_map HM_5.out HSL0.out) (by omega))).mono ?_); rw [decide_eq_true (st_eq HM_5.out HM_8.out)]; rintro e w9 ⟨rfl, hb⟩; (try replace ho_8 := ho_8.kept hb))))
  rename_i hHeld
  obtain ⟨hB, _⟩ := hHeld
  replace b0_0 := old_cell hB b0_0
  replace b0_1 := old_cell hB b0_1
  replace b1_0 := old_cell hB b1_0
  replace b1_1 := old_cell hB b1_1
  replace b2_0 := old_cell hB b2_0
  replace b2_1 := old_cell hB b2_1
  replace b3_0 := old_cell hB b3_0
  replace b3_1 := old_cell hB b3_1
  replace hr0 := hr0.kept hB
  replace ho_3 := ho_3.kept hB
  replace ho_4 := ho_4.kept hB
  replace ho_5 := ho_5.kept hB
  replace ho_6 := ho_6.kept hB
  have zs_10 := hB.size
  replace gW := bel_trans gW hB
  clear hB
  have z_b0_0 : W.heap.size < w9.heap.size := cell_lt b0_0
  have z_b1_0 : w4.heap.size < w9.heap.size := cell_lt b1_0
  have z_b2_0 : w5.heap.size < w9.heap.size := cell_lt b2_0
  have z_b3_0 : w6.heap.size < w9.heap.size := cell_lt b3_0
  obtain ⟨m_11, hm_11, hmb_11⟩ : ∃ m, markEnd rs_5 1 = m ∧ m ≤ 1 + 3145728 := ⟨_, rfl, mark_bound HM_5.out HTB0.out _⟩
  have HME_11 := Lib.hid hm_11; clear hm_11
  go_wp2_with fail
  refine (markStore_any A_5 _ c_5 rs_5 nx0 _ 1 _ _ _ _ ho_5 in_5 (by first | rfl | omega | simp) rfl (fs_map HM_5.out HSL0.out) (by have := HLEN_5.out; omega) (by rw [HME_11.out]; omega)).mono ?_
  rw [HME_11.out]
  rintro e w11 ⟨rfl, hm, hg⟩
  have gg : Below W.heap.size w9 w11 := hg.bel (by omega) (by omega)
  have zs_w11 := hg.size
  replace b0_0 := hg.cell b0_0 (by omega)
  replace b0_1 := hg.cell b0_1 (by omega)
  replace b1_0 := hg.cell b1_0 (by omega)
  replace b1_1 := hg.cell b1_1 (by omega)
  replace b2_0 := hg.cell b2_0 (by omega)
  replace b2_1 := hg.cell b2_1 (by omega)
  replace b3_0 := hg.cell b3_0 (by omega)
  replace b3_1 := hg.cell b3_1 (by omega)
  replace hr0 := hr0.belowB gg
  replace ho_3 := ho_3.inn hg in_3 (by omega)
  replace ho_4 := ho_4.inn hg in_4 (by omega)
  replace ho_6 := ho_6.inn hg in_6 (by omega)
  have gW : Below W.heap.size W w11 := gW.trans gg
  clear ho_5
  have ho_5 := hm
  replace in_5 := inI_mk 1 in_5
  clear hm hg gg
  have z_b0_0 : W.heap.size < w11.heap.size := cell_lt b0_0
  have z_b1_0 : w4.heap.size < w11.heap.size := cell_lt b1_0
  have z_b2_0 : w5.heap.size < w11.heap.size := cell_lt b2_0
  have z_b3_0 : w6.heap.size < w11.heap.size := cell_lt b3_0
  go_wp2_with fail
  refine (eqStore_any A_6 A_4 _ c_6 _ c_4 rs_6 rs_4 nx0 nx0 _ _ _ (ho_6.rdO) (ho_4.rdO) (by have := len_of HM_6.out HBG.out; omega) (fs_le (fs_of HM_6.out HBG.out) (by omega))).mono ?_
  rw [decide_eq_true (st_eq HM_6.out HM_4.out)]
  rintro e w12 ⟨rfl, hb⟩
  have g_w12 : Below w11.heap.size w11 w12 := (by repeat (first | with_reducible exact bel_refl _ | with_reducible assumption | with_reducible refine bel_set ?_ (by first | (simp; done) | (simp; omega) | omega) _ | with_reducible refine bel_alloc ?_ _ | with_reducible refine bel_drew ?_ | with_reducible refine bel_drewN ?_ _ | with_reducible refine bel_trans ?_ (by assumption)))
  replace b0_0 := old_cell g_w12 b0_0
  replace b0_1 := old_cell g_w12 b0_1
  replace b1_0 := old_cell g_w12 b1_0
  replace b1_1 := old_cell g_w12 b1_1
  replace b2_0 := old_cell g_w12 b2_0
  replace b2_1 := old_cell g_w12 b2_1
  replace b3_0 := old_cell g_w12 b3_0
  replace b3_1 := old_cell g_w12 b3_1
  replace hr0 := hr0.kept g_w12
  replace ho_3 := ho_3.kept g_w12
  replace ho_4 := ho_4.kept g_w12
  replace ho_5 := ho_5.kept g_w12
  replace ho_6 := ho_6.kept g_w12
  have zs_w12 := g_w12.size
  have gW : Below W.heap.size W w12 := bel_trans gW g_w12
  clear hb g_w12
  have z_b0_0 : W.heap.size < w12.heap.size := cell_lt b0_0
  have z_b1_0 : w4.heap.size < w12.heap.size := cell_lt b1_0
  have z_b2_0 : w5.heap.size < w12.heap.size := cell_lt b2_0
  have z_b3_0 : w6.heap.size < w12.heap.size := cell_lt b3_0
  obtain ⟨m_13, hm_13, hmb_13⟩ : ∃ m, markEnd rs_6 1 = m ∧ m ≤ 1 + 3145728 := ⟨_, rfl, mark_of HM_6.out HBG.out _⟩
  have HME_13 := Lib.hid hm_13; clear hm_13
  go_wp2_with fail
  refine (markStore_any A_6 _ c_6 rs_6 nx0 _ 1 _ _ _ _ ho_6 in_6 (by first | rfl | omega | simp) rfl (fs_of HM_6.out HBG.out) (by have := len_of HM_6.out HBG.out; omega) (by rw [HME_13.out]; omega)).mono ?_
  rw [HME_13.out]
  rintro e w13 ⟨rfl, hm, hg⟩
  have gg : Below W.heap.size w12 w13 := hg.bel (by omega) (by omega)
  have zs_w13 := hg.size
  replace b0_0 := hg.cell b0_0 (by omega)
  replace b0_1 := hg.cell b0_1 (by omega)
  replace b1_0 := hg.cell b1_0 (by omega)
  replace b1_1 := hg.cell b1_1 (by omega)
  replace b2_0 := hg.cell b2_0 (by omega)
  replace b2_1 := hg.cell b2_1 (by omega)
  replace b3_0 := hg.cell b3_0 (by omega)
  replace b3_1 := hg.cell b3_1 (by omega)
  replace hr0 := hr0.belowB gg
  replace ho_3 := ho_3.inn hg in_3 (by omega)
  replace ho_4 := ho_4.inn hg in_4 (by omega)
  replace ho_5 := ho_5.inn hg in_5 (by omega)
  have gW : Below W.heap.size W w13 := gW.trans gg
  clear ho_6
  have ho_6 := hm
  replace in_6 := inI_mk 1 in_6
  clear hm hg gg
  have z_b0_0 : W.heap.size < w13.heap.size := cell_lt b0_0
  have z_b1_0 : w4.heap.size < w13.heap.size := cell_lt b1_0
  have z_b2_0 : w5.heap.size < w13.heap.size := cell_lt b2_0
  have z_b3_0 : w6.heap.size < w13.heap.size := cell_lt b3_0
  go_wp2_with fail
  refine (heldStore_any A_6 _ c_6 rs_6 nx0 _ 1 _ _ (ho_6.rdM (mkItems_len _ _)) rfl (by first | rfl | omega | simp) (fs_of HM_6.out HBG.out) (by have := len_of HM_6.out HBG.out; omega) (by rw [HME_13.out]; omega)).mono ?_
  rw [HME_13.out]
  rintro e w14 ⟨rfl, hb⟩
  have g_w14 : Below w13.heap.size w13 w14 := (by repeat (first | with_reducible exact bel_refl _ | with_reducible assumption | with_reducible refine bel_set ?_ (by first | (simp; done) | (simp; omega) | omega) _ | with_reducible refine bel_alloc ?_ _ | with_reducible refine bel_drew ?_ | with_reducible refine bel_drewN ?_ _ | with_reducible refine bel_trans ?_ (by assumption)))
  replace b0_0 := old_cell g_w14 b0_0
  replace b0_1 := old_cell g_w14 b0_1
  replace b1_0 := old_cell g_w14 b1_0
  replace b1_1 := old_cell g_w14 b1_1
  replace b2_0 := old_cell g_w14 b2_0
  replace b2_1 := old_cell g_w14 b2_1
  replace b3_0 := old_cell g_w14 b3_0
  replace b3_1 := old_cell g_w14 b3_1
  replace hr0 := hr0.kept g_w14
  replace ho_3 := ho_3.kept g_w14
  replace ho_4 := ho_4.kept g_w14
  replace ho_5 := ho_5.kept g_w14
  replace ho_6 := ho_6.kept g_w14
  have zs_w14 := g_w14.size
  have gW : Below W.heap.size W w14 := bel_trans gW g_w14
  clear hb g_w14
  have z_b0_0 : W.heap.size < w14.heap.size := cell_lt b0_0
  have z_b1_0 : w4.heap.size < w14.heap.size := cell_lt b1_0
  have z_b2_0 : w5.heap.size < w14.heap.size := cell_lt b2_0
  have z_b3_0 : w6.heap.size < w14.heap.size := cell_lt b3_0
  go_wp2_with fail
  refine (toStore_any A0 _ c0 xs0 nx0 _ _ hr0 (by omega) HSL0.out).mono ?_
  rintro e w15 ⟨A_15, c_15, rs_15, rfl, hc_15, hm_15, ho_15, hb⟩
  have HM_15 := Lib.hid hm_15
  clear hm_15
  have HLEN_15 := Lib.hid (map_len HM_15.out)
  have g_w15 : Below w14.heap.size w14 w15 := (by repeat (first | with_reducible exact bel_refl _ | with_reducible assumption | with_reducible refine bel_set ?_ (by first | (simp; done) | (simp; omega) | omega) _ | with_reducible refine bel_alloc ?_ _ | with_reducible refine bel_drew ?_ | with_reducible refine bel_drewN ?_ _ | with_reducible refine bel_trans ?_ (by assumption)))
  replace b0_0 := old_cell g_w15 b0_0
  replace b0_1 := old_cell g_w15 b0_1
  replace b1_0 := old_cell g_w15 b1_0
  replace b1_1 := old_cell g_w15 b1_1
  replace b2_0 := old_cell g_w15 b2_0
  replace b2_1 := old_cell g_w15 b2_1
  replace b3_0 := old_cell g_w15 b3_0
  replace b3_1 := old_cell g_w15 b3_1
  replace hr0 := hr0.kept g_w15
  replace ho_3 := ho_3.kept g_w15
  replace ho_4 := ho_4.kept g_w15
  replace ho_5 := ho_5.kept g_w15
  replace ho_6 := ho_6.kept g_w15
  have zs_w15 := g_w15.size
  have gW : Below W.heap.size W w15 := bel_trans gW g_w15
  clear hb g_w15
  have z_b0_0 : W.heap.size < w15.heap.size := cell_lt b0_0
  have z_b1_0 : w4.heap.size < w15.heap.size := cell_lt b1_0
  have z_b2_0 : w5.heap.size < w15.heap.size := cell_lt b2_0
  have z_b3_0 : w6.heap.size < w15.heap.size := cell_lt b3_0
  have in_15 : InI _ _ w14.heap.size w15.heap.size := ho_15.inL (by first | exact Nat.le_refl _ | (simp; done) | (simp; omega) | omega)
  go_wp2_with fail
  refine (implRetract_any A_15 _ c_15 rs_15 nx0 x1 _ _ (ho_15.rdO) (by have := HLEN_15.out; omega) hc_15 (fs_map HM_15.out HSL0.out) (good_of HM_15.out HZ0.out (fs_map HM_15.out HSL0.out)) rl rok (by rw [HM_15.out]; exact HR.out)).mono ?_
  dsimp only [tupRt]
  rintro e w16 ⟨A_16, c_16, rs_16, rfl, hc_16, hm_16, ho_16, hb⟩
  have HM_16 := Lib.hid hm_16
  clear hm_16
  have g_w16 : Below w15.heap.size w15 w16 := (by repeat (first | with_reducible exact bel_refl _ | with_reducible assumption | with_reducible refine bel_set ?_ (by first | (simp; done) | (simp; omega) | omega) _ | with_reducible refine bel_alloc ?_ _ | with_reducible refine bel_drew ?_ | with_reducible refine bel_drewN ?_ _ | with_reducible refine bel_trans ?_ (by assumption)))
  replace b0_0 := old_cell g_w16 b0_0
  replace b0_1 := old_cell g_w16 b0_1
  replace b1_0 := old_cell g_w16 b1_0
  replace b1_1 := old_cell g_w16 b1_1
  replace b2_0 := old_cell g_w16 b2_0
  replace b2_1 := old_cell g_w16 b2_1
  replace b3_0 := old_cell g_w16 b3_0
  replace b3_1 := old_cell g_w16 b3_1
  replace hr0 := hr0.kept g_w16
  replace ho_3 := ho_3.kept g_w16
  replace ho_4 := ho_4.kept g_w16
  replace ho_5 := ho_5.kept g_w16
  replace ho_6 := ho_6.kept g_w16
  replace ho_15 := ho_15.kept g_w16
  have zs_w16 := g_w16.size
  have gW : Below W.heap.size W w16 := bel_trans gW g_w16
  clear hb g_w16
  have z_b0_0 : W.heap.size < w16.heap.size := cell_lt b0_0
  have z_b1_0 : w4.heap.size < w16.heap.size := cell_lt b1_0
  have z_b2_0 : w5.heap.size < w16.heap.size := cell_lt b2_0
  have z_b3_0 : w6.heap.size < w16.heap.size := cell_lt b3_0
  have in_16 : InI _ _ w15.heap.size w16.heap.size := ho_16.inL (by first | exact Nat.le_refl _ | (simp; done) | (simp; omega) | omega)
  go_wp2_with fail
  refine (eqStore_any A_16 A_4 _ c_16 _ c_4 rs_16 rs_4 nx0 nx0 _ _ _ ((ho_16.rdO).alloc _) ((ho_4.rdO).alloc _) (by have := len_of HM_16.out HBG.out; omega) (fs_le (fs_of HM_16.out HBG.out) (by omega))).mono ?_
  rw [decide_eq_true (st_eq HM_16.out HM_4.out)]
  rintro e w17 ⟨rfl, hb⟩
  have g_w17 : Below w16.heap.size w16 w17 := (by repeat (first | with_reducible exact bel_refl _ | with_reducible assumption | with_reducible refine bel_set ?_ (by first | (simp; done) | (simp; omega) | omega) _ | with_reducible refine bel_alloc ?_ _ | with_reducible refine bel_drew ?_ | with_reducible refine bel_drewN ?_ _ | with_reducible refine bel_trans ?_ (by assumption)))
  have b4_0 := old_cell hb (b := w16.heap.size) (o := 0) (v := .slice A_16 rs_16.length c_16) (by go_simp)
  have b4_1 := old_cell hb (b := w16.heap.size) (o := 1) (v := .int .i64 nx0) (by go_simp)
  replace b0_0 := old_cell g_w17 b0_0
  replace b0_1 := old_cell g_w17 b0_1
  replace b1_0 := old_cell g_w17 b1_0
  replace b1_1 := old_cell g_w17 b1_1
  replace b2_0 := old_cell g_w17 b2_0
  replace b2_1 := old_cell g_w17 b2_1
  replace b3_0 := old_cell g_w17 b3_0
  replace b3_1 := old_cell g_w17 b3_1
  replace hr0 := hr0.kept g_w17
  replace ho_3 := ho_3.kept g_w17
  replace ho_4 := ho_4.kept g_w17
  replace ho_5 := ho_5.kept g_w17
  replace ho_6 := ho_6.kept g_w17
  replace ho_15 := ho_15.kept g_w17
  replace ho_16 := ho_16.kept g_w17
  have zs_w17 := g_w17.size
  have gW : Below W.heap.size W w17 := bel_trans gW g_w17
  clear hb g_w17
  have z_b0_0 : W.heap.size < w17.heap.size := cell_lt b0_0
  have z_b1_0 : w4.heap.size < w17.heap.size := cell_lt b1_0
  have z_b2_0 : w5.heap.size < w17.heap.size := cell_lt b2_0
  have z_b3_0 : w6.heap.size < w17.heap.size := cell_lt b3_0
  have z_b4_0 : w16.heap.size < w17.heap.size := cell_lt b4_0
  go_wp2_with fail
  refine (heldStore_any A_6 _ c_6 rs_6 nx0 _ 1 _ _ (ho_6.rdM (mkItems_len _ _)) rfl (by first | rfl | omega | simp) (fs_of HM_6.out HBG.out) (by have := len_of HM_6.out HBG.out; omega) (by rw [HME_13.out]; omega)).mono ?_
  rw [HME_13.out]
  rintro e w18 ⟨rfl, hb⟩
  have g_w18 : Below w17.heap.size w17 w18 := (by repeat (first | with_reducible exact bel_refl _ | with_reducible assumption | with_reducible refine bel_set ?_ (by first | (simp; done) | (simp; omega) | omega) _ | with_reducible refine bel_alloc ?_ _ | with_reducible refine bel_drew ?_ | with_reducible refine bel_drewN ?_ _ | with_reducible refine bel_trans ?_ (by assumption)))
  replace b0_0 := old_cell g_w18 b0_0
  replace b0_1 := old_cell g_w18 b0_1
  replace b1_0 := old_cell g_w18 b1_0
  replace b1_1 := old_cell g_w18 b1_1
  replace b2_0 := old_cell g_w18 b2_0
  replace b2_1 := old_cell g_w18 b2_1
  replace b3_0 := old_cell g_w18 b3_0
  replace b3_1 := old_cell g_w18 b3_1
  replace b4_0 := old_cell g_w18 b4_0
  replace b4_1 := old_cell g_w18 b4_1
  replace hr0 := hr0.kept g_w18
  replace ho_3 := ho_3.kept g_w18
  replace ho_4 := ho_4.kept g_w18
  replace ho_5 := ho_5.kept g_w18
  replace ho_6 := ho_6.kept g_w18
  replace ho_15 := ho_15.kept g_w18
  replace ho_16 := ho_16.kept g_w18
  have zs_w18 := g_w18.size
  have gW : Below W.heap.size W w18 := bel_trans gW g_w18
  clear hb g_w18
  have z_b0_0 : W.heap.size < w18.heap.size := cell_lt b0_0
  have z_b1_0 : w4.heap.size < w18.heap.size := cell_lt b1_0
  have z_b2_0 : w5.heap.size < w18.heap.size := cell_lt b2_0
  have z_b3_0 : w6.heap.size < w18.heap.size := cell_lt b3_0
  have z_b4_0 : w16.heap.size < w18.heap.size := cell_lt b4_0
  go_wp2
  go_ret
  exact ⟨rfl, gW⟩

theorem own : ownKnob Try.prog.godebug = none := by kernel_rfl
theorem laidOut : laidOutB Try.prog = true := by kernel_rfl
theorem lifted (os : Os) (started : os.Started) (H : Type) (enc : TypeId × Value → H) :
    ReturnsInHanded {} Try.checked os 4 .any (Rows.fnExactRetractSpec.pre6 enc Try.prog Try.f4 Rows.fnExactRetractRow.domain false) (Rows.fnExactRetractSpec.post enc Try.prog Try.f4 false true false false) := by
  refine returnsInHanded_of_change (C := Try.checked) own started (by kernel_rfl) Try.func4
    (ChangeSpec.witness6 (enc := enc) (C := Try.checked) false ⟨#[], #[.agg #[.slice none 0 0, .int .i64 0], .int .i64 0], []⟩ 8 (by kernel_rfl) (by kernel_rfl) (by kernel_rfl) (by kernel_rfl)) ?_
  intro W base args ds gs before hval0 hW hcnd _
  have hval : ∀ (j : Nat) t v, Try.f4.params[j]? = some t → args[j]? = some v → Value.okWide Try.prog W .any base t v := hval0
  have hW' := hW
  obtain ⟨p, q, hA0, hV, rfl, hfz, hnd⟩ := hW
  have hA : DataW.TrodAll enc Try.prog W 0 (fun _ => true) true Try.f4.params.toList args.toList ds p := hA0
  rw [Try.params4] at hA hval
  obtain ⟨v0, vs0, d0, ds0, p0, q0, hargs, rfl, rfl, h0, r0⟩ := trodAll_cons hA
  obtain ⟨v1, vs1, d1, ds1, p1, q1, rfl, rfl, rfl, h1, r1⟩ := trodAll_cons r0
  obtain ⟨rfl, rfl, rfl⟩ := trodAll_nil r1
  obtain rfl : args = #[v0, v1] := by cases args; simp_all
  obtain ⟨rfl, rfl⟩ := trodVars_none hV
  have lt0 : ∀ x ∈ p0, x.block < W.heap.size := by obtain ⟨m, hm⟩ := h0; exact DataW.trod_lt m _ _ _ hm
  obtain ⟨A0, n0, c0, xs0, nx0, hv0, hs0⟩ := open_store (hval 0 24 v0 rfl rfl) h0
  subst hv0
  have lt1 : ∀ x ∈ p1, x.block < W.heap.size := by obtain ⟨m, hm⟩ := h1; exact DataW.trod_lt m _ _ _ hm
  obtain ⟨x1, hv1, hs1⟩ := open_i64 Try.underlying3 (hval 1 3 v1 rfl rfl) h1
  subst hv1
  clear hA0 hval0
  refine (walk A0 n0 c0 xs0 nx0 x1 W hs0 hs1).mono fun e W' ⟨he, bel⟩ => ?_
  subst he
  exact ⟨_, rfl, _, _, _, [], _, [], hW', trodAll_mk1 (shut_bool Try.underlying4 _), (trodAll_cons_mk (Below.trod laidOut (by kernel_rfl) (of_decide_eq_true (by kernel_rfl)) h0 bel lt0) (trodAll_cons_mk (Below.trod laidOut (by kernel_rfl) (of_decide_eq_true (by kernel_rfl)) h1 bel lt1) trodAll_mk0)), rfl, bel.frame _, fun h => by cases h⟩
theorem over : Rows.fnExactRetractRow.holds Try.pinned (OpenSpec.ofChange Rows.fnExactRetractSpec) :=
  OpenClaim.holds_of_wide 4 Try.f4 rfl rfl rfl rfl rfl rfl rfl ⟨rfl, rfl, rfl, rfl, rfl⟩ rfl rfl rfl rfl rfl (by kernel_rfl) Try.func4 (by kernel_rfl)
    (of_decide_eq_true (by kernel_rfl)) (by unfold Func.isWrapper; first | (rw [if_pos (by decide +kernel)]; kernel_rfl) | (rw [if_neg (by decide +kernel)]; exact ⟨rfl, rfl⟩))
    (fun os started H enc _ => lifted os started H enc)
theorem proved : Rows.FnExactRetractSaid := over
end Go.Proofs.Ytndhjijcicebkaa.fnExactRetract
