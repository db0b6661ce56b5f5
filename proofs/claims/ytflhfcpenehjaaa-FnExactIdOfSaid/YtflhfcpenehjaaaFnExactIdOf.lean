/- The law FnExactIdOf returns true at every input, and leaves what it was given as it was. No condition. -/
import Derived.Test.YtflhfcpenehjaaaReadS
import Derived.Test.YtflhfcpenehjaaaStore
import Derived.Test.YtflhfcpenehjaaaItemM
import Derived.Test.YtflhfcpenehjaaaStoreX
import Derived.Test.YtflhfcpenehjaaaStep
import Derived.Test.YtflhfcpenehjaaaRows
import Derived.Test.YtflhfcpenehjaaaRead
namespace Go.Proofs.Ytflhfcpenehjaaa.fnExactIdOf
open Go.ChangeShapes Go.WideShapes Go.ChangeAt Go.RowKit
open Go.ChangeMaps (open_string shut_string)
set_option linter.unusedVariables false
set_option maxRecDepth 100000
set_option maxHeartbeats 20000000

theorem walk (A0 : Option Addr) (n0 c0 : Nat) (xs0 : List IR) (nx0 : Int) (kd1 : ByteArray) (A1 : Option Addr) (n1 c1 : Nat) (xs1 : List Vl) (W : World) (hs0 : n0 ≤ c0 ∧ c0 ≤ 9223372036854775807 ∧ RdI W W.heap.size A0 n0 xs0 ∧ ∀ a ∈ xs0, goodI a) (hs1 : n1 ≤ c1 ∧ c1 ≤ 9223372036854775807 ∧ kd1.size ≤ 9223372036854775807 ∧ RdS vC 3 W W.heap.size A1 n1 xs1 ∧ ∀ a ∈ xs1, a.s.size ≤ 9223372036854775807) :
    Calls Try.prog 4 #[.agg #[.slice A0 n0 c0, .int .i64 nx0], .agg #[.string kd1, .slice A1 n1 c1]] W fun e w' => e = .returned (.bool true) ∧ Below W.heap.size W w' := by
  obtain ⟨hnc0, hc0, hr0, hz0⟩ := hs0
  obtain rfl : n0 = xs0.length := hr0.len.symm
  have HZ0 := Lib.hid hz0; clear hz0
  obtain ⟨hnc1, hc1, hk1, hr1, hz1⟩ := hs1
  obtain rfl : n1 = xs1.length := hr1.len.symm
  have HZ1 := Lib.hid hz1; clear hz1
  by_cases bz0 : (1048576 : Int) < ((totSt xs0) : Int)
  · have HB := Lib.hid (szR_big bz0)
    go_enter Try.func4, Try.ntmps4
    go_wp2_with fail
    refine (szStore_any A0 _ c0 _ xs0 nx0 _ _ ((hr0.alloc _).alloc _) (by omega) HZ0.out (by omega) (by omega)).mono ?_
    rw [HB.out]
    rintro e w1 ⟨rfl, hb⟩
    have g_w1 : Below W.heap.size W w1 := (by repeat (first | with_reducible exact bel_refl _ | with_reducible assumption | with_reducible refine bel_set ?_ (by first | (simp; done) | (simp; omega) | omega) _ | with_reducible refine bel_alloc ?_ _ | with_reducible refine bel_drew ?_ | with_reducible refine bel_drewN ?_ _ | with_reducible refine bel_trans ?_ (by assumption)))
    have b0_0 := old_cell hb (b := W.heap.size) (o := 0) (v := .slice A0 xs0.length c0) (by go_simp)
    have b0_1 := old_cell hb (b := W.heap.size) (o := 1) (v := .int .i64 nx0) (by go_simp)
    have b1_0 := old_cell hb (b := W.heap.size + 1) (o := 0) (v := .string kd1) (by go_simp)
    have b1_1 := old_cell hb (b := W.heap.size + 1) (o := 1) (v := .slice A1 xs1.length c1) (by go_simp)
    replace hr0 := hr0.kept g_w1
    replace hr1 := hr1.kept g_w1
    have zs_w1 := g_w1.size
    have gW := g_w1
    clear hb g_w1
    have z_b0_0 : W.heap.size < w1.heap.size := cell_lt b0_0
    have z_b1_0 : W.heap.size + 1 < w1.heap.size := cell_lt b1_0
    go_wp2
    go_ret
    exact ⟨rfl, gW⟩
  have HF0 := Lib.hid (szR_fit (Int.not_lt.1 bz0))
  by_cases bz1 : (1048576 : Int) - ((totSt xs0) : Nat) < ((totF ⟨kd1, xs1⟩) : Int)
  · have HB := Lib.hid (szR_big bz1)
    go_enter Try.func4, Try.ntmps4
    go_wp2_with fail
    refine (szStore_any A0 _ c0 _ xs0 nx0 _ _ ((hr0.alloc _).alloc _) (by omega) HZ0.out (by omega) (by omega)).mono ?_
    rw [HF0.out]
    rintro e w2 ⟨rfl, hb⟩
    have g_w2 : Below W.heap.size W w2 := (by repeat (first | with_reducible exact bel_refl _ | with_reducible assumption | with_reducible refine bel_set ?_ (by first | (simp; done) | (simp; omega) | omega) _ | with_reducible refine bel_alloc ?_ _ | with_reducible refine bel_drew ?_ | with_reducible refine bel_drewN ?_ _ | with_reducible refine bel_trans ?_ (by assumption)))
    have b0_0 := old_cell hb (b := W.heap.size) (o := 0) (v := .slice A0 xs0.length c0) (by go_simp)
    have b0_1 := old_cell hb (b := W.heap.size) (o := 1) (v := .int .i64 nx0) (by go_simp)
    have b1_0 := old_cell hb (b := W.heap.size + 1) (o := 0) (v := .string kd1) (by go_simp)
    have b1_1 := old_cell hb (b := W.heap.size + 1) (o := 1) (v := .slice A1 xs1.length c1) (by go_simp)
    replace hr0 := hr0.kept g_w2
    replace hr1 := hr1.kept g_w2
    have zs_w2 := g_w2.size
    have gW := g_w2
    clear hb g_w2
    have z_b0_0 : W.heap.size < w2.heap.size := cell_lt b0_0
    have z_b1_0 : W.heap.size + 1 < w2.heap.size := cell_lt b1_0
    go_wp2_with fail
    refine (szFact_any kd1 A1 _ c1 _ xs1 _ _ hr1 (by omega) hk1 HZ1.out (by omega) (by omega)).mono ?_
    rw [HB.out]
    rintro e w3 ⟨rfl, hb⟩
    have g_w3 : Below w2.heap.size w2 w3 := (by repeat (first | with_reducible exact bel_refl _ | with_reducible assumption | with_reducible refine bel_set ?_ (by first | (simp; done) | (simp; omega) | omega) _ | with_reducible refine bel_alloc ?_ _ | with_reducible refine bel_drew ?_ | with_reducible refine bel_drewN ?_ _ | with_reducible refine bel_trans ?_ (by assumption)))
    replace b0_0 := old_cell g_w3 b0_0
    replace b0_1 := old_cell g_w3 b0_1
    replace b1_0 := old_cell g_w3 b1_0
    replace b1_1 := old_cell g_w3 b1_1
    replace hr0 := hr0.kept g_w3
    replace hr1 := hr1.kept g_w3
    have zs_w3 := g_w3.size
    have gW : Below W.heap.size W w3 := bel_trans gW g_w3
    clear hb g_w3
    have z_b0_0 : W.heap.size < w3.heap.size := cell_lt b0_0
    have z_b1_0 : W.heap.size + 1 < w3.heap.size := cell_lt b1_0
    go_wp2
    go_ret
    exact ⟨rfl, gW⟩
  have HF1 := Lib.hid (szR_fit (Int.not_lt.1 bz1))
  have hl0 : xs0.length ≤ 1048576 := by unfold totSt totI at bz0; omega
  have HSL0 := Lib.hid (totSt_fs (Int.not_lt.1 bz0))
  have HTB0 := Lib.hid (Int.not_lt.1 bz0)
  have hl1 : xs1.length ≤ 1048576 := by unfold totF totV at bz1; simp only at bz1; omega
  obtain ⟨rx, hr⟩ : ∃ r, idOf (xs0.map itOf) ⟨kd1, xs1⟩ = r := ⟨_, rfl⟩
  have HR := Lib.hid hr; clear hr
  go_enter Try.func4, Try.ntmps4
  go_wp2_with fail
  refine (szStore_any A0 _ c0 _ xs0 nx0 _ _ ((hr0.alloc _).alloc _) (by omega) HZ0.out (by omega) (by omega)).mono ?_
  rw [HF0.out]
  rintro e w4 ⟨rfl, hb⟩
  have g_w4 : Below W.heap.size W w4 := (by repeat (first | with_reducible exact bel_refl _ | with_reducible assumption | with_reducible refine bel_set ?_ (by first | (simp; done) | (simp; omega) | omega) _ | with_reducible refine bel_alloc ?_ _ | with_reducible refine bel_drew ?_ | with_reducible refine bel_drewN ?_ _ | with_reducible refine bel_trans ?_ (by assumption)))
  have b0_0 := old_cell hb (b := W.heap.size) (o := 0) (v := .slice A0 xs0.length c0) (by go_simp)
  have b0_1 := old_cell hb (b := W.heap.size) (o := 1) (v := .int .i64 nx0) (by go_simp)
  have b1_0 := old_cell hb (b := W.heap.size + 1) (o := 0) (v := .string kd1) (by go_simp)
  have b1_1 := old_cell hb (b := W.heap.size + 1) (o := 1) (v := .slice A1 xs1.length c1) (by go_simp)
  replace hr0 := hr0.kept g_w4
  replace hr1 := hr1.kept g_w4
  have zs_w4 := g_w4.size
  have gW := g_w4
  clear hb g_w4
  have z_b0_0 : W.heap.size < w4.heap.size := cell_lt b0_0
  have z_b1_0 : W.heap.size + 1 < w4.heap.size := cell_lt b1_0
  go_wp2_with fail
  refine (szFact_any kd1 A1 _ c1 _ xs1 _ _ hr1 (by omega) hk1 HZ1.out (by omega) (by omega)).mono ?_
  rw [HF1.out]
  rintro e w5 ⟨rfl, hb⟩
  have g_w5 : Below w4.heap.size w4 w5 := (by repeat (first | with_reducible exact bel_refl _ | with_reducible assumption | with_reducible refine bel_set ?_ (by first | (simp; done) | (simp; omega) | omega) _ | with_reducible refine bel_alloc ?_ _ | with_reducible refine bel_drew ?_ | with_reducible refine bel_drewN ?_ _ | with_reducible refine bel_trans ?_ (by assumption)))
  replace b0_0 := old_cell g_w5 b0_0
  replace b0_1 := old_cell g_w5 b0_1
  replace b1_0 := old_cell g_w5 b1_0
  replace b1_1 := old_cell g_w5 b1_1
  replace hr0 := hr0.kept g_w5
  replace hr1 := hr1.kept g_w5
  have zs_w5 := g_w5.size
  have gW : Below W.heap.size W w5 := bel_trans gW g_w5
  clear hb g_w5
  have z_b0_0 : W.heap.size < w5.heap.size := cell_lt b0_0
  have z_b1_0 : W.heap.size + 1 < w5.heap.size := cell_lt b1_0
  go_upto_region 8 with fail
  go_cut [6] (fun s6 wx => s6 = .int .i64 rx ∧ Below w5.heap.size w5 wx)
  case first =>
    go_region_held3 (fun w' => Below w5.heap.size w5 w' ∧ w'.cell? ⟨W.heap.size, 0, none⟩ = some (.slice A0 xs0.length c0) ∧ w'.cell? ⟨W.heap.size, 1, none⟩ = some (.int .i64 nx0) ∧ w'.cell? ⟨W.heap.size + 1, 0, none⟩ = some (.string kd1) ∧ w'.cell? ⟨W.heap.size + 1, 1, none⟩ = some (.slice A1 xs1.length c1)) (((refine (fun hB => ⟨hB, old_cell hB b0_0, old_cell hB b0_1, old_cell hB b1_0, old_cell hB b1_1⟩ : Below w5.heap.size w5 _ → _) ?_); (repeat (first | exact bel_refl _ | exact bel_drew (bel_refl _) | exact bel_trans (And.left (by assumption)) (by assumption) | assumption))))
      ((first | (go_at_call 14; (with_reducible refine (toStore_any A0 _ c0 xs0 nx0 _ _ (hr0.kept (And.left (by assumption))) (by omega) HSL0.out).mono ?_); rintro e w6 ⟨A_6, c_6, rs_6, rfl, hc_6, hm_6, ho_6, hb⟩; have HM_6 := Lib.hid hm_6; clear hm_6; have HLEN_6 := Lib.hid (map_len HM_6.out); (try replace ho_7 := ho_7.kept hb)) | (go_at_call 19; (with_reducible refine (toFact_any kd1 A1 _ c1 xs1 _ _ (hr1.kept (And.left (by assumption))) (by omega)).mono ?_); rintro e w7 ⟨v_7, rfl, ho_7, hb⟩; obtain ⟨A_7, c_7, rfl, hc_7, _⟩ := ho_7.rd; (try replace ho_6 := ho_6.kept hb)) | (go_at_call 18; (with_reducible refine (specIdOf_any A_6 _ c_6 rs_6 nx0 kd1 A_7 _ c_7 xs1 _ _ _ (ho_6.rdO) (ho_7.rdO) (by have := HLEN_6.out; omega) (fs_le (fs_map HM_6.out HSL0.out) (by omega))).mono ?_); rw [HM_6.out, HR.out]; rintro e w8 ⟨rfl, hb⟩; (try replace ho_6 := ho_6.kept hb); (try replace ho_7 := ho_7.kept hb))))
    all_goals
      rename_i hHeld
      go_wp2_with fail
      go_meet
      case rel => exact ⟨rfl, hHeld.1⟩
  case rest =>
    obtain ⟨rfl, hB⟩ := hcut
    replace b0_0 := old_cell hB b0_0
    replace b0_1 := old_cell hB b0_1
    replace b1_0 := old_cell hB b1_0
    replace b1_1 := old_cell hB b1_1
    replace hr0 := hr0.kept hB
    replace hr1 := hr1.kept hB
    have zs_9 := hB.size
    replace gW := bel_trans gW hB
    clear hB
    have z_b0_0 : W.heap.size < wc.heap.size := cell_lt b0_0
    have z_b1_0 : W.heap.size + 1 < wc.heap.size := cell_lt b1_0
    go_wp2_with fail
    refine (toStore_any A0 _ c0 xs0 nx0 _ _ hr0 (by omega) HSL0.out).mono ?_
    rintro e w10 ⟨A_10, c_10, rs_10, rfl, hc_10, hm_10, ho_10, hb⟩
    have HM_10 := Lib.hid hm_10
    clear hm_10
    have HLEN_10 := Lib.hid (map_len HM_10.out)
    have g_w10 : Below wc.heap.size wc w10 := (by repeat (first | with_reducible exact bel_refl _ | with_reducible assumption | with_reducible refine bel_set ?_ (by first | (simp; done) | (simp; omega) | omega) _ | with_reducible refine bel_alloc ?_ _ | with_reducible refine bel_drew ?_ | with_reducible refine bel_drewN ?_ _ | with_reducible refine bel_trans ?_ (by assumption)))
    replace b0_0 := old_cell g_w10 b0_0
    replace b0_1 := old_cell g_w10 b0_1
    replace b1_0 := old_cell g_w10 b1_0
    replace b1_1 := old_cell g_w10 b1_1
    replace hr0 := hr0.kept g_w10
    replace hr1 := hr1.kept g_w10
    have zs_w10 := g_w10.size
    have gW : Below W.heap.size W w10 := bel_trans gW g_w10
    clear hb g_w10
    have z_b0_0 : W.heap.size < w10.heap.size := cell_lt b0_0
    have z_b1_0 : W.heap.size + 1 < w10.heap.size := cell_lt b1_0
    have in_10 : InI _ _ wc.heap.size w10.heap.size := ho_10.inL (by first | exact Nat.le_refl _ | (simp; done) | (simp; omega) | omega)
    go_wp2_with fail
    refine (toFact_any kd1 A1 _ c1 xs1 _ _ (hr1.alloc _) (by omega)).mono ?_
    rintro e w11 ⟨v_11, rfl, ho_11, hb⟩
    obtain ⟨A_11, c_11, rfl, hc_11, _⟩ := ho_11.rd
    have g_w11 : Below w10.heap.size w10 w11 := (by repeat (first | with_reducible exact bel_refl _ | with_reducible assumption | with_reducible refine bel_set ?_ (by first | (simp; done) | (simp; omega) | omega) _ | with_reducible refine bel_alloc ?_ _ | with_reducible refine bel_drew ?_ | with_reducible refine bel_drewN ?_ _ | with_reducible refine bel_trans ?_ (by assumption)))
    have b2_0 := old_cell hb (b := w10.heap.size) (o := 0) (v := .slice A_10 rs_10.length c_10) (by go_simp)
    have b2_1 := old_cell hb (b := w10.heap.size) (o := 1) (v := .int .i64 nx0) (by go_simp)
    replace b0_0 := old_cell g_w11 b0_0
    replace b0_1 := old_cell g_w11 b0_1
    replace b1_0 := old_cell g_w11 b1_0
    replace b1_1 := old_cell g_w11 b1_1
    replace hr0 := hr0.kept g_w11
    replace hr1 := hr1.kept g_w11
    replace ho_10 := ho_10.kept g_w11
    have zs_w11 := g_w11.size
    have gW : Below W.heap.size W w11 := bel_trans gW g_w11
    clear hb g_w11
    have z_b0_0 : W.heap.size < w11.heap.size := cell_lt b0_0
    have z_b1_0 : W.heap.size + 1 < w11.heap.size := cell_lt b1_0
    have z_b2_0 : w10.heap.size < w11.heap.size := cell_lt b2_0
    have in_11 : InB _ (w10.heap.size + 1) w11.heap.size := ho_11.inL (by first | exact Nat.le_refl _ | (simp; done) | (simp; omega) | omega)
    go_wp2_with fail
    refine (implIdOf_any A_10 _ c_10 rs_10 nx0 kd1 A_11 _ c_11 xs1 _ _ _ ((ho_10.rdO).alloc _) ((ho_11.rdO).alloc _) (by have := HLEN_10.out; omega) (fs_le (fs_map HM_10.out HSL0.out) (by omega))).mono ?_
    rw [HM_10.out, HR.out]
    rintro e w12 ⟨rfl, hb⟩
    have g_w12 : Below w11.heap.size w11 w12 := (by repeat (first | with_reducible exact bel_refl _ | with_reducible assumption | with_reducible refine bel_set ?_ (by first | (simp; done) | (simp; omega) | omega) _ | with_reducible refine bel_alloc ?_ _ | with_reducible refine bel_drew ?_ | with_reducible refine bel_drewN ?_ _ | with_reducible refine bel_trans ?_ (by assumption)))
    have b3_0 := old_cell hb (b := w11.heap.size) (o := 0) (v := .string kd1) (by go_simp)
    have b3_1 := old_cell hb (b := w11.heap.size) (o := 1) (v := .slice A_11 xs1.length c_11) (by go_simp)
    replace b0_0 := old_cell g_w12 b0_0
    replace b0_1 := old_cell g_w12 b0_1
    replace b1_0 := old_cell g_w12 b1_0
    replace b1_1 := old_cell g_w12 b1_1
    replace b2_0 := old_cell g_w12 b2_0
    replace b2_1 := old_cell g_w12 b2_1
    replace hr0 := hr0.kept g_w12
    replace hr1 := hr1.kept g_w12
    replace ho_10 := ho_10.kept g_w12
    replace ho_11 := ho_11.kept g_w12
    have zs_w12 := g_w12.size
    have gW : Below W.heap.size W w12 := bel_trans gW g_w12
    clear hb g_w12
    have z_b0_0 : W.heap.size < w12.heap.size := cell_lt b0_0
    have z_b1_0 : W.heap.size + 1 < w12.heap.size := cell_lt b1_0
    have z_b2_0 : w10.heap.size < w12.heap.size := cell_lt b2_0
    have z_b3_0 : w11.heap.size < w12.heap.size := cell_lt b3_0
    go_wp2_with fail
    go_region_held3 (fun w' => Below w12.heap.size w12 w' ∧ w'.cell? ⟨W.heap.size, 0, none⟩ = some (.slice A0 xs0.length c0) ∧ w'.cell? ⟨W.heap.size, 1, none⟩ = some (.int .i64 nx0) ∧ w'.cell? ⟨W.heap.size + 1, 0, none⟩ = some (.string kd1) ∧ w'.cell? ⟨W.heap.size + 1, 1, none⟩ = some (.slice A1 xs1.length c1) ∧ w'.cell? ⟨w10.heap.size, 0, none⟩ = some (.slice A_10 rs_10.length c_10) ∧ w'.cell? ⟨w10.heap.size, 1, none⟩ = some (.int .i64 nx0) ∧ w'.cell? ⟨w11.heap.size, 0, none⟩ = some (.string kd1) ∧ w'.cell? ⟨w11.heap.size, 1, none⟩ = some (.slice A_11 xs1.length c_11)) (((refine (fun hB => ⟨hB, old_cell hB b0_0, old_cell hB b0_1, old_cell hB b1_0, old_cell hB b1_1, old_cell hB b2_0, old_cell hB b2_1, old_cell hB b3_0, old_cell hB b3_1⟩ : Below w12.heap.size w12 _ → _) ?_); (repeat (first | exact bel_refl _ | exact bel_drew (bel_refl _) | exact bel_trans (And.left (by assumption)) (by assumption) | assumption))))
      ((first | (go_at_call 14; (with_reducible refine (toStore_any A0 _ c0 xs0 nx0 _ _ (hr0.kept (And.left (by assumption))) (by omega) HSL0.out).mono ?_); rintro e w13 ⟨A_13, c_13, rs_13, rfl, hc_13, hm_13, ho_13, hb⟩; have HM_13 := Lib.hid hm_13; clear hm_13; have HLEN_13 := Lib.hid (map_len HM_13.out)) | (go_at_call 16; (with_reducible refine (eqStore_any A_10 A_13 _ c_10 _ c_13 rs_10 rs_13 nx0 nx0 _ _ _ ((ho_10.rdO).kept (And.left (by assumption))) (ho_13.rdO) (by have := HLEN_10.out; omega) (fs_le (fs_map HM_10.out HSL0.out) (by omega))).mono ?_); rw [decide_eq_true (st_eq HM_10.out HM_13.out)]; rintro e w14 ⟨rfl, hb⟩; (try replace ho_13 := ho_13.kept hb))))
    rename_i hHeld
    obtain ⟨hB, _⟩ := hHeld
    replace b0_0 := old_cell hB b0_0
    replace b0_1 := old_cell hB b0_1
    replace b1_0 := old_cell hB b1_0
    replace b1_1 := old_cell hB b1_1
    replace b2_0 := old_cell hB b2_0
    replace b2_1 := old_cell hB b2_1
    replace b3_0 := old_cell hB b3_0
    replace b3_1 := old_cell hB b3_1
    replace hr0 := hr0.kept hB
    replace hr1 := hr1.kept hB
    replace ho_10 := ho_10.kept hB
    replace ho_11 := ho_11.kept hB
    have zs_15 := hB.size
    replace gW := bel_trans gW hB
    clear hB
    have z_b0_0 : W.heap.size < w14.heap.size := cell_lt b0_0
    have z_b1_0 : W.heap.size + 1 < w14.heap.size := cell_lt b1_0
    have z_b2_0 : w10.heap.size < w14.heap.size := cell_lt b2_0
    have z_b3_0 : w11.heap.size < w14.heap.size := cell_lt b3_0
    go_wp2_with fail
    go_region_held3 (fun w' => Below w14.heap.size w14 w' ∧ w'.cell? ⟨W.heap.size, 0, none⟩ = some (.slice A0 xs0.length c0) ∧ w'.cell? ⟨W.heap.size, 1, none⟩ = some (.int .i64 nx0) ∧ w'.cell? ⟨W.heap.size + 1, 0, none⟩ = some (.string kd1) ∧ w'.cell? ⟨W.heap.size + 1, 1, none⟩ = some (.slice A1 xs1.length c1) ∧ w'.cell? ⟨w10.heap.size, 0, none⟩ = some (.slice A_10 rs_10.length c_10) ∧ w'.cell? ⟨w10.heap.size, 1, none⟩ = some (.int .i64 nx0) ∧ w'.cell? ⟨w11.heap.size, 0, none⟩ = some (.string kd1) ∧ w'.cell? ⟨w11.heap.size, 1, none⟩ = some (.slice A_11 xs1.length c_11)) (((refine (fun hB => ⟨hB, old_cell hB b0_0, old_cell hB b0_1, old_cell hB b1_0, old_cell hB b1_1, old_cell hB b2_0, old_cell hB b2_1, old_cell hB b3_0, old_cell hB b3_1⟩ : Below w14.heap.size w14 _ → _) ?_); (repeat (first | exact bel_refl _ | exact bel_drew (bel_refl _) | exact bel_trans (And.left (by assumption)) (by assumption) | assumption))))
      ((first | (go_at_call 19; (with_reducible refine (toFact_any kd1 A1 _ c1 xs1 _ _ (hr1.kept (And.left (by assumption))) (by omega)).mono ?_); rintro e w16 ⟨v_16, rfl, ho_16, hb⟩; obtain ⟨A_16, c_16, rfl, hc_16, _⟩ := ho_16.rd) | (go_at_call 21; (with_reducible refine (eqFact_any kd1 kd1 A_11 A_16 _ c_11 _ c_16 xs1 xs1 _ _ _ ((ho_11.rdO).kept (And.left (by assumption))) (ho_16.rdO) (by omega)).mono ?_); rw [decide_eq_true rfl]; rintro e w17 ⟨rfl, hb⟩; (try replace ho_16 := ho_16.kept hb))))
    rename_i hHeld
    obtain ⟨hB, _⟩ := hHeld
    replace b0_0 := old_cell hB b0_0
    replace b0_1 := old_cell hB b0_1
    replace b1_0 := old_cell hB b1_0
    replace b1_1 := old_cell hB b1_1
    replace b2_0 := old_cell hB b2_0
    replace b2_1 := old_cell hB b2_1
    replace b3_0 := old_cell hB b3_0
    replace b3_1 := old_cell hB b3_1
    replace hr0 := hr0.kept hB
    replace hr1 := hr1.kept hB
    replace ho_10 := ho_10.kept hB
    replace ho_11 := ho_11.kept hB
    have zs_18 := hB.size
    replace gW := bel_trans gW hB
    clear hB
    have z_b0_0 : W.heap.size < w17.heap.size := cell_lt b0_0
    have z_b1_0 : W.heap.size + 1 < w17.heap.size := cell_lt b1_0
    have z_b2_0 : w10.heap.size < w17.heap.size := cell_lt b2_0
    have z_b3_0 : w11.heap.size < w17.heap.size := cell_lt b3_0
    go_wp2
    go_ret
    exact ⟨rfl, gW⟩

theorem own : ownKnob Try.prog.godebug = none := by kernel_rfl
theorem laidOut : laidOutB Try.prog = true := by kernel_rfl
theorem lifted (os : Os) (started : os.Started) (H : Type) (enc : TypeId × Value → H) :
    ReturnsInHanded {} Try.checked os 4 .any (Rows.fnExactIdOfSpec.pre6 enc Try.prog Try.f4 Rows.fnExactIdOfRow.domain false) (Rows.fnExactIdOfSpec.post enc Try.prog Try.f4 false true false false) := by
  refine returnsInHanded_of_change (C := Try.checked) own started (by kernel_rfl) Try.func4
    (ChangeSpec.witness6 (enc := enc) (C := Try.checked) false ⟨#[], #[.agg #[.slice none 0 0, .int .i64 0], .agg #[.string ByteArray.empty, .slice none 0 0]], []⟩ 8 (by kernel_rfl) (by kernel_rfl) (by kernel_rfl) (by kernel_rfl)) ?_
  intro W base args ds gs before hval0 hW hcnd _
  have hval : ∀ (j : Nat) t v, Try.f4.params[j]? = some t → args[j]? = some v → Value.okWide Try.prog W .any base t v := hval0
  have hW' := hW
  obtain ⟨p, q, hA0, hV, rfl, hfz, hnd⟩ := hW
  have hA : DataW.TrodAll enc Try.prog W 0 (fun _ => true) true Try.f4.params.toList args.toList ds p := hA0
  rw [Try.params4] at hA hval
  obtain ⟨v0, vs0, d0, ds0, p0, q0, hargs, rfl, rfl, h0, r0⟩ := trodAll_cons hA
  obtain ⟨v1, vs1, d1, ds1, p1, q1, rfl, rfl, rfl, h1, r1⟩ := trodAll_cons r0
  obtain ⟨rfl, rfl, rfl⟩ := trodAll_nil r1
  obtain rfl : args = #[v0, v1] := by cases args; simp_all
  obtain ⟨rfl, rfl⟩ := trodVars_none hV
  have lt0 : ∀ x ∈ p0, x.block < W.heap.size := by obtain ⟨m, hm⟩ := h0; exact DataW.trod_lt m _ _ _ hm
  obtain ⟨A0, n0, c0, xs0, nx0, hv0, hs0⟩ := open_store (hval 0 24 v0 rfl rfl) h0
  subst hv0
  have lt1 : ∀ x ∈ p1, x.block < W.heap.size := by obtain ⟨m, hm⟩ := h1; exact DataW.trod_lt m _ _ _ hm
  obtain ⟨kd1, A1, n1, c1, xs1, hv1, hs1⟩ := open_fact (hval 1 35 v1 rfl rfl) h1
  subst hv1
  clear hA0 hval0
  refine (walk A0 n0 c0 xs0 nx0 kd1 A1 n1 c1 xs1 W hs0 hs1).mono fun e W' ⟨he, bel⟩ => ?_
  subst he
  exact ⟨_, rfl, _, _, _, [], _, [], hW', trodAll_mk1 (shut_bool Try.underlying4 _), (trodAll_cons_mk (Below.trod laidOut (by kernel_rfl) (of_decide_eq_true (by kernel_rfl)) h0 bel lt0) (trodAll_cons_mk (Below.trod laidOut (by kernel_rfl) (of_decide_eq_true (by kernel_rfl)) h1 bel lt1) trodAll_mk0)), rfl, bel.frame _, fun h => by cases h⟩
theorem over : Rows.fnExactIdOfRow.holds Try.pinned (OpenSpec.ofChange Rows.fnExactIdOfSpec) :=
  OpenClaim.holds_of_wide 4 Try.f4 rfl rfl rfl rfl rfl rfl rfl ⟨rfl, rfl, rfl, rfl, rfl⟩ rfl rfl rfl rfl rfl (by kernel_rfl) Try.func4 (by kernel_rfl)
    (of_decide_eq_true (by kernel_rfl)) (by unfold Func.isWrapper; first | (rw [if_pos (by decide +kernel)]; kernel_rfl) | (rw [if_neg (by decide +kernel)]; exact ⟨rfl, rfl⟩))
    (fun os started H enc _ => lifted os started H enc)
theorem proved : Rows.FnExactIdOfSaid := over
end Go.Proofs.Ytflhfcpenehjaaa.fnExactIdOf
