/- The law FnExactPutVal returns true at every input, and leaves what it was given as it was. No condition. -/
import Derived.Test.YtdcfkohgijahcaaPutVal
import Derived.Test.YtdcfkohgijahcaaBy2
import Derived.Test.YtdcfkohgijahcaaVal2
import Derived.Test.YtdcfkohgijahcaaRows
import Derived.Test.YtdcfkohgijahcaaRead
namespace Go.Proofs.Ytdcfkohgijahcaa.fnExactPutVal
open Go.ChangeShapes Go.WideShapes Go.ChangeAt Go.RowKit
open Go.ChangeMaps (open_string shut_string)
set_option linter.unusedVariables false
set_option maxRecDepth 100000
set_option maxHeartbeats 20000000

theorem walk (A0 : Option Addr) (n0 c0 : Nat) (xs0 : List UInt8) (k1 : Int) (n1 : Int) (s1 : ByteArray) (W : World) (hs0 : n0 ≤ c0 ∧ c0 ≤ maxLen ∧ RdB W W.heap.size A0 n0 xs0) (hs1 : s1.size ≤ 9223372036854775807) :
    Calls Try.prog 4 #[.slice A0 n0 c0, .agg #[.int .i64 k1, .int .i64 n1, .string s1]] W fun e w' => e = .returned (.bool true) ∧ Below W.heap.size W w' := by
  obtain ⟨hnc0, hc0, hrb0⟩ := hs0
  obtain rfl : n0 = xs0.length := hrb0.len.symm
  have hr0 : RdY W W.heap.size A0 xs0.length xs0 := ⟨Nat.le_refl _, hrb0⟩
  by_cases bl0 : (1048576 : Int) < (xs0.length : Int)
  · go_enter Try.func4, Try.ntmps4
    go_wp2
    go_ret
    exact ⟨rfl, (by repeat (first | exact bel_refl _ | assumption | refine bel_alloc ?_ _ | refine bel_drew ?_ | refine bel_drewN ?_ _ | refine bel_trans ?_ (by assumption) | refine bel_set ?_ (by first | (simp; done) | (simp; omega) | omega) _))⟩
  by_cases bz0 : (1048576 : Int) < (s1.size : Int)
  · have HB := Lib.hid (szR_big bz0)
    go_enter Try.func4, Try.ntmps4
    go_wp2_with fail
    refine (szVal_any k1 n1 s1 _ _ hs1 (by omega) (by omega)).mono ?_
    rw [HB.out]
    rintro e w1 ⟨rfl, hb⟩
    have g_w1 : Below W.heap.size W w1 := (by repeat (first | exact bel_refl _ | assumption | refine bel_alloc ?_ _ | refine bel_drew ?_ | refine bel_drewN ?_ _ | refine bel_trans ?_ (by assumption) | refine bel_set ?_ (by first | (simp; done) | (simp; omega) | omega) _))
    have b0_0 := old_cell hb (b := W.heap.size) (o := 0) (v := .int .i64 k1) (by go_simp)
    have b0_1 := old_cell hb (b := W.heap.size) (o := 1) (v := .int .i64 n1) (by go_simp)
    have b0_2 := old_cell hb (b := W.heap.size) (o := 2) (v := .string s1) (by go_simp)
    replace hr0 := hr0.kept g_w1
    have zs_w1 := g_w1.size
    have gW := g_w1
    clear hb g_w1
    have z_b0_0 : W.heap.size < w1.heap.size := cell_lt b0_0
    go_wp2
    go_ret
    exact ⟨rfl, gW⟩
  have HF0 := Lib.hid (szR_fit (Int.not_lt.1 bz0))
  obtain ⟨rs, hrs, hrl⟩ : ∃ rs, xs0 ++ putV ⟨k1, n1, s1⟩ = rs ∧ rs.length ≤ 4194304 := ⟨_, rfl, by have := putV_len ⟨k1, n1, s1⟩; simp only [List.length_append] at this ⊢; omega⟩
  have HR := Lib.hid hrs; clear hrs
  go_enter Try.func4, Try.ntmps4
  go_wp2_with fail
  refine (szVal_any k1 n1 s1 _ _ hs1 (by omega) (by omega)).mono ?_
  rw [HF0.out]
  rintro e w2 ⟨rfl, hb⟩
  have g_w2 : Below W.heap.size W w2 := (by repeat (first | exact bel_refl _ | assumption | refine bel_alloc ?_ _ | refine bel_drew ?_ | refine bel_drewN ?_ _ | refine bel_trans ?_ (by assumption) | refine bel_set ?_ (by first | (simp; done) | (simp; omega) | omega) _))
  have b0_0 := old_cell hb (b := W.heap.size) (o := 0) (v := .int .i64 k1) (by go_simp)
  have b0_1 := old_cell hb (b := W.heap.size) (o := 1) (v := .int .i64 n1) (by go_simp)
  have b0_2 := old_cell hb (b := W.heap.size) (o := 2) (v := .string s1) (by go_simp)
  replace hr0 := hr0.kept g_w2
  have zs_w2 := g_w2.size
  have gW := g_w2
  clear hb g_w2
  have z_b0_0 : W.heap.size < w2.heap.size := cell_lt b0_0
  go_upto_region 7 with fail
  go_cut [6] (fun s6 wx => ∃ A c, s6 = .slice A rs.length c ∧ OwnB wx w2.heap.size 5 (.slice A rs.length c) rs ∧ Below w2.heap.size w2 wx)
  case first =>
    go_region_held3 (fun w' => Below w2.heap.size w2 w' ∧ w'.cell? ⟨W.heap.size, 0, none⟩ = some (.int .i64 k1) ∧ w'.cell? ⟨W.heap.size, 1, none⟩ = some (.int .i64 n1) ∧ w'.cell? ⟨W.heap.size, 2, none⟩ = some (.string s1)) (((refine (fun hB => ⟨hB, old_cell hB b0_0, old_cell hB b0_1, old_cell hB b0_2⟩ : Below w2.heap.size w2 _ → _) ?_); (repeat (first | exact bel_refl _ | exact bel_drew (bel_refl _) | exact bel_trans (And.left (by assumption)) (by assumption) | assumption))))
      ((first | (go_at_call 17; (with_reducible refine (toByteS_b A0 _ c0 xs0 _ _ (hr0.kept (And.left (by assumption))) (by omega)).mono ?_); rintro e w3 ⟨v_3, rfl, ho_3, hb⟩; obtain ⟨A_3, c_3, rfl, hc_3, _⟩ := ho_3.form; (try replace ho_5 := ho_5.kept hb)) | (go_at_call 13; (with_reducible refine (toVal_any k1 n1 s1 _).mono ?_); rintro e w4 ⟨rfl, hb⟩; (try replace ho_3 := ho_3.kept hb); (try replace ho_5 := ho_5.kept hb)) | (go_at_call 16; (with_reducible refine (specPutVal_any A_3 _ c_3 xs0 k1 n1 s1 _ _ (ho_3.rdO).b (ho_3.rdO).le (by omega) (by omega)).mono ?_); rw [HR.out]; rintro e w5 ⟨v_5, rfl, ho_5, hb, _⟩; obtain ⟨A_5, c_5, rfl, hc_5, _⟩ := ho_5.form; (try replace ho_3 := ho_3.kept hb); replace ho_5 := ho_5.lower (And.left (by assumption) : Below w2.heap.size w2 _).size)))
    all_goals
      rename_i hHeld
      go_wp2_with fail
      go_meet
      case rel => exact ⟨_, _, rfl, ho_5, hHeld.1⟩
  case rest =>
    obtain ⟨A_5, c_5, rfl, ho_5, hB⟩ := hcut
    replace b0_0 := old_cell hB b0_0
    replace b0_1 := old_cell hB b0_1
    replace b0_2 := old_cell hB b0_2
    replace hr0 := hr0.kept hB
    have zs_6 := hB.size
    replace gW := bel_trans gW hB
    clear hB
    have z_b0_0 : W.heap.size < wc.heap.size := cell_lt b0_0
    have in_5 : InB _ w2.heap.size wc.heap.size := ho_5.inL (by first | exact Nat.le_refl _ | (simp; done) | (simp; omega) | omega)
    go_wp2_with fail
    refine (toByteS_b A0 _ c0 xs0 _ _ hr0 (by omega)).mono ?_
    rintro e w7 ⟨v_7, rfl, ho_7, hb⟩
    obtain ⟨A_7, c_7, rfl, hc_7, _⟩ := ho_7.form
    have g_w7 : Below wc.heap.size wc w7 := (by repeat (first | exact bel_refl _ | assumption | refine bel_alloc ?_ _ | refine bel_drew ?_ | refine bel_drewN ?_ _ | refine bel_trans ?_ (by assumption) | refine bel_set ?_ (by first | (simp; done) | (simp; omega) | omega) _))
    replace b0_0 := old_cell g_w7 b0_0
    replace b0_1 := old_cell g_w7 b0_1
    replace b0_2 := old_cell g_w7 b0_2
    replace hr0 := hr0.kept g_w7
    replace ho_5 := ho_5.kept g_w7
    have zs_w7 := g_w7.size
    have gW : Below W.heap.size W w7 := bel_trans gW g_w7
    clear hb g_w7
    have z_b0_0 : W.heap.size < w7.heap.size := cell_lt b0_0
    have in_7 : InB _ wc.heap.size w7.heap.size := ho_7.inL (by first | exact Nat.le_refl _ | (simp; done) | (simp; omega) | omega)
    go_wp2_with fail
    refine (toVal_any k1 n1 s1 _).mono ?_
    rintro e w8 ⟨rfl, hb⟩
    have g_w8 : Below w7.heap.size w7 w8 := (by repeat (first | exact bel_refl _ | assumption | refine bel_alloc ?_ _ | refine bel_drew ?_ | refine bel_drewN ?_ _ | refine bel_trans ?_ (by assumption) | refine bel_set ?_ (by first | (simp; done) | (simp; omega) | omega) _))
    replace b0_0 := old_cell g_w8 b0_0
    replace b0_1 := old_cell g_w8 b0_1
    replace b0_2 := old_cell g_w8 b0_2
    replace hr0 := hr0.kept g_w8
    replace ho_5 := ho_5.kept g_w8
    replace ho_7 := ho_7.kept g_w8
    have zs_w8 := g_w8.size
    have gW : Below W.heap.size W w8 := bel_trans gW g_w8
    clear hb g_w8
    have z_b0_0 : W.heap.size < w8.heap.size := cell_lt b0_0
    go_wp2_with fail
    refine (implPutVal_any A_7 _ c_7 xs0 k1 n1 s1 _ _ (ho_7.rdO).b (ho_7.rdO).le (by omega) (by omega)).mono ?_
    rw [HR.out]
    rintro e w9 ⟨v_9, rfl, ho_9, hb, _⟩
    obtain ⟨A_9, c_9, rfl, hc_9, _⟩ := ho_9.form
    have g_w9 : Below w8.heap.size w8 w9 := (by repeat (first | exact bel_refl _ | assumption | refine bel_alloc ?_ _ | refine bel_drew ?_ | refine bel_drewN ?_ _ | refine bel_trans ?_ (by assumption) | refine bel_set ?_ (by first | (simp; done) | (simp; omega) | omega) _))
    replace b0_0 := old_cell g_w9 b0_0
    replace b0_1 := old_cell g_w9 b0_1
    replace b0_2 := old_cell g_w9 b0_2
    replace hr0 := hr0.kept g_w9
    replace ho_5 := ho_5.kept g_w9
    replace ho_7 := ho_7.kept g_w9
    have zs_w9 := g_w9.size
    have gW : Below W.heap.size W w9 := bel_trans gW g_w9
    clear hb g_w9
    have z_b0_0 : W.heap.size < w9.heap.size := cell_lt b0_0
    have in_9 : InB _ w8.heap.size w9.heap.size := ho_9.inL (by first | exact Nat.le_refl _ | (simp; done) | (simp; omega) | omega)
    go_wp2_with fail
    refine (eqByteS_b A_9 A_5 _ c_9 _ c_5 rs rs _ _ _ (ho_9.rdO) (ho_5.rdO) (by omega)).mono ?_
    rw [decide_eq_true rfl]
    rintro e w10 ⟨rfl, hb⟩
    have g_w10 : Below w9.heap.size w9 w10 := (by repeat (first | exact bel_refl _ | assumption | refine bel_alloc ?_ _ | refine bel_drew ?_ | refine bel_drewN ?_ _ | refine bel_trans ?_ (by assumption) | refine bel_set ?_ (by first | (simp; done) | (simp; omega) | omega) _))
    replace b0_0 := old_cell g_w10 b0_0
    replace b0_1 := old_cell g_w10 b0_1
    replace b0_2 := old_cell g_w10 b0_2
    replace hr0 := hr0.kept g_w10
    replace ho_5 := ho_5.kept g_w10
    replace ho_7 := ho_7.kept g_w10
    replace ho_9 := ho_9.kept g_w10
    have zs_w10 := g_w10.size
    have gW : Below W.heap.size W w10 := bel_trans gW g_w10
    clear hb g_w10
    have z_b0_0 : W.heap.size < w10.heap.size := cell_lt b0_0
    go_wp2_with fail
    refine (toByteS_b A0 _ c0 xs0 _ _ hr0 (by omega)).mono ?_
    rintro e w11 ⟨v_11, rfl, ho_11, hb⟩
    obtain ⟨A_11, c_11, rfl, hc_11, _⟩ := ho_11.form
    have g_w11 : Below w10.heap.size w10 w11 := (by repeat (first | exact bel_refl _ | assumption | refine bel_alloc ?_ _ | refine bel_drew ?_ | refine bel_drewN ?_ _ | refine bel_trans ?_ (by assumption) | refine bel_set ?_ (by first | (simp; done) | (simp; omega) | omega) _))
    replace b0_0 := old_cell g_w11 b0_0
    replace b0_1 := old_cell g_w11 b0_1
    replace b0_2 := old_cell g_w11 b0_2
    replace hr0 := hr0.kept g_w11
    replace ho_5 := ho_5.kept g_w11
    replace ho_7 := ho_7.kept g_w11
    replace ho_9 := ho_9.kept g_w11
    have zs_w11 := g_w11.size
    have gW : Below W.heap.size W w11 := bel_trans gW g_w11
    clear hb g_w11
    have z_b0_0 : W.heap.size < w11.heap.size := cell_lt b0_0
    have in_11 : InB _ w10.heap.size w11.heap.size := ho_11.inL (by first | exact Nat.le_refl _ | (simp; done) | (simp; omega) | omega)
    go_wp2_with fail
    refine (eqByteS_b A_7 A_11 _ c_7 _ c_11 xs0 xs0 _ _ _ (ho_7.rdO) (ho_11.rdO) (by omega)).mono ?_
    rw [decide_eq_true rfl]
    rintro e w12 ⟨rfl, hb⟩
    have g_w12 : Below w11.heap.size w11 w12 := (by repeat (first | exact bel_refl _ | assumption | refine bel_alloc ?_ _ | refine bel_drew ?_ | refine bel_drewN ?_ _ | refine bel_trans ?_ (by assumption) | refine bel_set ?_ (by first | (simp; done) | (simp; omega) | omega) _))
    replace b0_0 := old_cell g_w12 b0_0
    replace b0_1 := old_cell g_w12 b0_1
    replace b0_2 := old_cell g_w12 b0_2
    replace hr0 := hr0.kept g_w12
    replace ho_5 := ho_5.kept g_w12
    replace ho_7 := ho_7.kept g_w12
    replace ho_9 := ho_9.kept g_w12
    replace ho_11 := ho_11.kept g_w12
    have zs_w12 := g_w12.size
    have gW : Below W.heap.size W w12 := bel_trans gW g_w12
    clear hb g_w12
    have z_b0_0 : W.heap.size < w12.heap.size := cell_lt b0_0
    go_wp2_with fail
    refine (markByteS_b A_7 c_7 xs0 _ 1 _ _ ho_7 (by first | rfl | omega | simp) (by omega) (by omega)).mono ?_
    rintro e w13 ⟨rfl, hm, hg⟩
    have gg : Below W.heap.size w12 w13 := below_of_grown hg in_7 (by omega) (by omega)
    have zs_w13 := hg.size
    replace b0_0 := cell_far b0_0 hg in_7 (by omega)
    replace b0_1 := cell_far b0_1 hg in_7 (by omega)
    replace b0_2 := cell_far b0_2 hg in_7 (by omega)
    replace hr0 := hr0.belowB gg
    replace ho_5 := ho_5.far hg in_5 in_7 (by omega)
    replace ho_9 := ho_9.far hg in_9 in_7 (by omega)
    replace ho_11 := ho_11.far hg in_11 in_7 (by omega)
    have gW : Below W.heap.size W w13 := gW.trans gg
    clear ho_7
    have ho_7 := hm
    clear hm hg gg
    have z_b0_0 : W.heap.size < w13.heap.size := cell_lt b0_0
    go_wp2_with fail
    refine (eqByteS_b A_9 A_5 _ c_9 _ c_5 rs rs _ _ _ (ho_9.rdO) (ho_5.rdO) (by omega)).mono ?_
    rw [decide_eq_true rfl]
    rintro e w14 ⟨rfl, hb⟩
    have g_w14 : Below w13.heap.size w13 w14 := (by repeat (first | exact bel_refl _ | assumption | refine bel_alloc ?_ _ | refine bel_drew ?_ | refine bel_drewN ?_ _ | refine bel_trans ?_ (by assumption) | refine bel_set ?_ (by first | (simp; done) | (simp; omega) | omega) _))
    replace b0_0 := old_cell g_w14 b0_0
    replace b0_1 := old_cell g_w14 b0_1
    replace b0_2 := old_cell g_w14 b0_2
    replace hr0 := hr0.kept g_w14
    replace ho_5 := ho_5.kept g_w14
    replace ho_7 := ho_7.kept g_w14
    replace ho_9 := ho_9.kept g_w14
    replace ho_11 := ho_11.kept g_w14
    have zs_w14 := g_w14.size
    have gW : Below W.heap.size W w14 := bel_trans gW g_w14
    clear hb g_w14
    have z_b0_0 : W.heap.size < w14.heap.size := cell_lt b0_0
    go_wp2_with fail
    refine (markByteS_b A_9 c_9 rs _ 1 _ _ ho_9 (by first | rfl | omega | simp) (by omega) (by omega)).mono ?_
    rintro e w15 ⟨rfl, hm, hg⟩
    have gg : Below W.heap.size w14 w15 := below_of_grown hg in_9 (by omega) (by omega)
    have zs_w15 := hg.size
    replace b0_0 := cell_far b0_0 hg in_9 (by omega)
    replace b0_1 := cell_far b0_1 hg in_9 (by omega)
    replace b0_2 := cell_far b0_2 hg in_9 (by omega)
    replace hr0 := hr0.belowB gg
    replace ho_5 := ho_5.far hg in_5 in_9 (by omega)
    replace ho_7 := ho_7.far hg in_7 in_9 (by omega)
    replace ho_11 := ho_11.far hg in_11 in_9 (by omega)
    have gW : Below W.heap.size W w15 := gW.trans gg
    clear ho_9
    have ho_9 := hm
    clear hm hg gg
    have z_b0_0 : W.heap.size < w15.heap.size := cell_lt b0_0
    go_wp2_with fail
    refine (heldByteS_b A_9 c_9 rs.length _ 1 _ _ (ho_9.rdM (marksB_len _ _)) (by first | rfl | omega | simp) (by omega) (by omega)).mono ?_
    rintro e w16 ⟨rfl, hb⟩
    have g_w16 : Below w15.heap.size w15 w16 := (by repeat (first | exact bel_refl _ | assumption | refine bel_alloc ?_ _ | refine bel_drew ?_ | refine bel_drewN ?_ _ | refine bel_trans ?_ (by assumption) | refine bel_set ?_ (by first | (simp; done) | (simp; omega) | omega) _))
    replace b0_0 := old_cell g_w16 b0_0
    replace b0_1 := old_cell g_w16 b0_1
    replace b0_2 := old_cell g_w16 b0_2
    replace hr0 := hr0.kept g_w16
    replace ho_5 := ho_5.kept g_w16
    replace ho_7 := ho_7.kept g_w16
    replace ho_9 := ho_9.kept g_w16
    replace ho_11 := ho_11.kept g_w16
    have zs_w16 := g_w16.size
    have gW : Below W.heap.size W w16 := bel_trans gW g_w16
    clear hb g_w16
    have z_b0_0 : W.heap.size < w16.heap.size := cell_lt b0_0
    go_upto_region 26 with fail
    go_cut [12] (fun s12 wx => ∃ A c, s12 = .slice A rs.length c ∧ OwnB wx w16.heap.size 5 (.slice A rs.length c) rs ∧ Below w16.heap.size w16 wx)
    case first =>
      go_region_held3 (fun w' => Below w16.heap.size w16 w' ∧ w'.cell? ⟨W.heap.size, 0, none⟩ = some (.int .i64 k1) ∧ w'.cell? ⟨W.heap.size, 1, none⟩ = some (.int .i64 n1) ∧ w'.cell? ⟨W.heap.size, 2, none⟩ = some (.string s1)) (((refine (fun hB => ⟨hB, old_cell hB b0_0, old_cell hB b0_1, old_cell hB b0_2⟩ : Below w16.heap.size w16 _ → _) ?_); (repeat (first | exact bel_refl _ | exact bel_drew (bel_refl _) | exact bel_trans (And.left (by assumption)) (by assumption) | assumption))))
        ((first | (go_at_call 17; (with_reducible refine (toByteS_b A0 _ c0 xs0 _ _ (hr0.kept (And.left (by assumption))) (by omega)).mono ?_); rintro e w17 ⟨v_17, rfl, ho_17, hb⟩; obtain ⟨A_17, c_17, rfl, hc_17, _⟩ := ho_17.form; (try replace ho_19 := ho_19.kept hb)) | (go_at_call 13; (with_reducible refine (toVal_any k1 n1 s1 _).mono ?_); rintro e w18 ⟨rfl, hb⟩; (try replace ho_17 := ho_17.kept hb); (try replace ho_19 := ho_19.kept hb)) | (go_at_call 18; (with_reducible refine (implPutVal_any A_17 _ c_17 xs0 k1 n1 s1 _ _ (ho_17.rdO).b (ho_17.rdO).le (by omega) (by omega)).mono ?_); rw [HR.out]; rintro e w19 ⟨v_19, rfl, ho_19, hb, _⟩; obtain ⟨A_19, c_19, rfl, hc_19, _⟩ := ho_19.form; (try replace ho_17 := ho_17.kept hb); replace ho_19 := ho_19.lower (And.left (by assumption) : Below w16.heap.size w16 _).size)))
      all_goals
        rename_i hHeld
        go_wp2_with fail
        go_meet
        case rel => exact ⟨_, _, rfl, ho_19, hHeld.1⟩
    case rest =>
      obtain ⟨A_19, c_19, rfl, ho_19, hB⟩ := hcut
      replace b0_0 := old_cell hB b0_0
      replace b0_1 := old_cell hB b0_1
      replace b0_2 := old_cell hB b0_2
      replace hr0 := hr0.kept hB
      replace ho_5 := ho_5.kept hB
      replace ho_7 := ho_7.kept hB
      replace ho_9 := ho_9.kept hB
      replace ho_11 := ho_11.kept hB
      have zs_20 := hB.size
      replace gW := bel_trans gW hB
      clear hB
      have z_b0_0 : W.heap.size < wc.heap.size := cell_lt b0_0
      have in_19 : InB _ w16.heap.size wc.heap.size := ho_19.inL (by first | exact Nat.le_refl _ | (simp; done) | (simp; omega) | omega)
      go_wp2_with fail
      refine (eqByteS_b A_19 A_5 _ c_19 _ c_5 rs rs _ _ _ (ho_19.rdO) (ho_5.rdO) (by omega)).mono ?_
      rw [decide_eq_true rfl]
      rintro e w21 ⟨rfl, hb⟩
      have g_w21 : Below wc.heap.size wc w21 := (by repeat (first | exact bel_refl _ | assumption | refine bel_alloc ?_ _ | refine bel_drew ?_ | refine bel_drewN ?_ _ | refine bel_trans ?_ (by assumption) | refine bel_set ?_ (by first | (simp; done) | (simp; omega) | omega) _))
      replace b0_0 := old_cell g_w21 b0_0
      replace b0_1 := old_cell g_w21 b0_1
      replace b0_2 := old_cell g_w21 b0_2
      replace hr0 := hr0.kept g_w21
      replace ho_5 := ho_5.kept g_w21
      replace ho_7 := ho_7.kept g_w21
      replace ho_9 := ho_9.kept g_w21
      replace ho_11 := ho_11.kept g_w21
      replace ho_19 := ho_19.kept g_w21
      have zs_w21 := g_w21.size
      have gW : Below W.heap.size W w21 := bel_trans gW g_w21
      clear hb g_w21
      have z_b0_0 : W.heap.size < w21.heap.size := cell_lt b0_0
      go_wp2_with fail
      refine (heldByteS_b A_9 c_9 rs.length _ 1 _ _ (ho_9.rdM (marksB_len _ _)) (by first | rfl | omega | simp) (by omega) (by omega)).mono ?_
      rintro e w22 ⟨rfl, hb⟩
      have g_w22 : Below w21.heap.size w21 w22 := (by repeat (first | exact bel_refl _ | assumption | refine bel_alloc ?_ _ | refine bel_drew ?_ | refine bel_drewN ?_ _ | refine bel_trans ?_ (by assumption) | refine bel_set ?_ (by first | (simp; done) | (simp; omega) | omega) _))
      replace b0_0 := old_cell g_w22 b0_0
      replace b0_1 := old_cell g_w22 b0_1
      replace b0_2 := old_cell g_w22 b0_2
      replace hr0 := hr0.kept g_w22
      replace ho_5 := ho_5.kept g_w22
      replace ho_7 := ho_7.kept g_w22
      replace ho_9 := ho_9.kept g_w22
      replace ho_11 := ho_11.kept g_w22
      replace ho_19 := ho_19.kept g_w22
      have zs_w22 := g_w22.size
      have gW : Below W.heap.size W w22 := bel_trans gW g_w22
      clear hb g_w22
      have z_b0_0 : W.heap.size < w22.heap.size := cell_lt b0_0
      go_wp2
      go_ret
      exact ⟨rfl, gW⟩

theorem own : ownKnob Try.prog.godebug = none := by kernel_rfl
theorem laidOut : laidOutB Try.prog = true := by kernel_rfl
theorem lifted (os : Os) (started : os.Started) (H : Type) (enc : TypeId × Value → H) :
    ReturnsInHanded {} Try.checked os 4 .any (Rows.fnExactPutValSpec.pre6 enc Try.prog Try.f4 Rows.fnExactPutValRow.domain false) (Rows.fnExactPutValSpec.post enc Try.prog Try.f4 false true false false) := by
  refine returnsInHanded_of_change (C := Try.checked) own started (by kernel_rfl) Try.func4
    (ChangeSpec.witness6 (enc := enc) (C := Try.checked) false ⟨#[], #[.slice none 0 0, .agg #[.int .i64 0, .int .i64 0, .string ByteArray.empty]], []⟩ 8 (by kernel_rfl) (by kernel_rfl) (by kernel_rfl) (by kernel_rfl)) ?_
  intro W base args ds gs before hval0 hW hcnd _
  have hval : ∀ (j : Nat) t v, Try.f4.params[j]? = some t → args[j]? = some v → Value.okWide Try.prog W .any base t v := hval0
  have hW' := hW
  obtain ⟨p, q, hA0, hV, rfl, hfz, hnd⟩ := hW
  have hA : DataW.TrodAll enc Try.prog W 0 (fun _ => true) true Try.f4.params.toList args.toList ds p := hA0
  rw [Try.params4] at hA hval
  obtain ⟨v0, vs0, d0, ds0, p0, q0, hargs, rfl, rfl, h0, r0⟩ := trodAll_cons hA
  obtain ⟨v1, vs1, d1, ds1, p1, q1, rfl, rfl, rfl, h1, r1⟩ := trodAll_cons r0
  obtain ⟨rfl, rfl, rfl⟩ := trodAll_nil r1
  obtain rfl : args = #[v0, v1] := by cases args; simp_all
  obtain ⟨rfl, rfl⟩ := trodVars_none hV
  have lt0 : ∀ x ∈ p0, x.block < W.heap.size := by obtain ⟨m, hm⟩ := h0; exact DataW.trod_lt m _ _ _ hm
  obtain ⟨A0, n0, c0, b0, hv0, hs0⟩ := open_bytes Try.underlying31 Try.underlying5 (by kernel_rfl) (hval 0 31 v0 rfl rfl) h0
  subst hv0
  have lt1 : ∀ x ∈ p1, x.block < W.heap.size := by obtain ⟨m, hm⟩ := h1; exact DataW.trod_lt m _ _ _ hm
  obtain ⟨k1, m1, s1, hv1, hs1⟩ := open_val Try.underlying23 Try.underlying3 Try.underlying3 Try.underlying9 (by kernel_rfl) (by kernel_rfl) (hval 1 23 v1 rfl rfl) h1
  subst hv1
  clear hA0 hval0
  refine (walk A0 n0 c0 b0 k1 m1 s1 W hs0 hs1).mono fun e W' ⟨he, bel⟩ => ?_
  subst he
  exact ⟨_, rfl, _, _, _, [], _, [], hW', trodAll_mk1 (shut_bool Try.underlying4 _), (trodAll_cons_mk (Below.trod laidOut (by kernel_rfl) (of_decide_eq_true (by kernel_rfl)) h0 bel lt0) (trodAll_cons_mk (Below.trod laidOut (by kernel_rfl) (of_decide_eq_true (by kernel_rfl)) h1 bel lt1) trodAll_mk0)), rfl, bel.frame _, fun h => by cases h⟩
theorem over : Rows.fnExactPutValRow.holds Try.pinned (OpenSpec.ofChange Rows.fnExactPutValSpec) :=
  OpenClaim.holds_of_wide 4 Try.f4 rfl rfl rfl rfl rfl rfl rfl ⟨rfl, rfl, rfl, rfl, rfl⟩ rfl rfl rfl rfl rfl (by kernel_rfl) Try.func4 (by kernel_rfl)
    (of_decide_eq_true (by kernel_rfl)) (by unfold Func.isWrapper; first | (rw [if_pos (by decide +kernel)]; kernel_rfl) | (rw [if_neg (by decide +kernel)]; exact ⟨rfl, rfl⟩))
    (fun os started H enc _ => lifted os started H enc)
theorem proved : Rows.FnExactPutValSaid := over
end Go.Proofs.Ytdcfkohgijahcaa.fnExactPutVal
