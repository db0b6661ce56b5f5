/- The law FnExactVarsOf returns true at every input, and leaves what it was given as it was. No condition. -/
import Derived.Test.YtjlfllnjbdddaaaReadP
import Derived.Test.YtjlfllnjbdddaaaVarsOf
import Derived.Test.YtjlfllnjbdddaaaPatM
import Derived.Test.YtjlfllnjbdddaaaStringM
import Derived.Test.YtjlfllnjbdddaaaStep
import Derived.Test.YtjlfllnjbdddaaaRows
import Derived.Test.YtjlfllnjbdddaaaRead
namespace Go.Proofs.Ytjlfllnjbdddaaa.fnExactVarsOf
open Go.ChangeShapes Go.WideShapes Go.ChangeAt Go.RowKit
open Go.ChangeMaps (open_string shut_string)
set_option linter.unusedVariables false
set_option maxRecDepth 100000
set_option maxHeartbeats 20000000

theorem walk (kd0 : ByteArray) (A0 : Option Addr) (n0 c0 : Nat) (xs0 : List Ag) (no0 : Bool) (W : World) (hs0 : n0 ≤ c0 ∧ c0 ≤ 9223372036854775807 ∧ kd0.size ≤ 9223372036854775807 ∧ RdS aC 5 W W.heap.size A0 n0 xs0 ∧ ∀ a ∈ xs0, goodA a) :
    Calls Try.prog 6 #[.agg #[.string kd0, .slice A0 n0 c0, .bool no0]] W fun e w' => e = .returned (.bool true) ∧ Below W.heap.size W w' := by
  obtain ⟨hnc0, hc0, hk0, hr0, hz0⟩ := hs0
  obtain rfl : n0 = xs0.length := hr0.len.symm
  have HZ0 := Lib.hid hz0; clear hz0
  by_cases bz0 : (1048576 : Int) < ((totP ⟨kd0, xs0, no0⟩) : Int)
  · have HB := Lib.hid (szR_big bz0)
    go_enter Try.func6, Try.ntmps6
    go_wp2_with fail
    refine (szPat_any kd0 A0 _ c0 _ xs0 no0 _ _ (hr0.alloc _) (by omega) hk0 HZ0.out (by omega) (by omega)).mono ?_
    rw [HB.out]
    rintro e w1 ⟨rfl, hb⟩
    have g_w1 : Below W.heap.size W w1 := (by repeat (first | with_reducible exact bel_refl _ | with_reducible assumption | with_reducible refine bel_set ?_ (by first | (simp; done) | (simp; omega) | omega) _ | with_reducible refine bel_alloc ?_ _ | with_reducible refine bel_drew ?_ | with_reducible refine bel_drewN ?_ _ | with_reducible refine bel_trans ?_ (by assumption)))
    have b0_0 := old_cell hb (b := W.heap.size) (o := 0) (v := .string kd0) (by go_simp)
    have b0_1 := old_cell hb (b := W.heap.size) (o := 1) (v := .slice A0 xs0.length c0) (by go_simp)
    have b0_2 := old_cell hb (b := W.heap.size) (o := 2) (v := .bool no0) (by go_simp)
    replace hr0 := hr0.kept g_w1
    have zs_w1 := g_w1.size
    have gW := g_w1
    clear hb g_w1
    have z_b0_0 : W.heap.size < w1.heap.size := cell_lt b0_0
    go_wp2
    go_ret
    exact ⟨rfl, gW⟩
  have HF0 := Lib.hid (szR_fit (Int.not_lt.1 bz0))
  have hl0 : xs0.length ≤ 1048576 := by unfold totP totA at bz0; simp only at bz0; omega
  obtain ⟨rs, hrs, hrl⟩ : ∃ rs, varsOf xs0 = rs ∧ rs.length ≤ 1048576 := ⟨_, rfl, by have := vars_len xs0 xs0.length; rw [List.take_length] at this; omega⟩
  have HR := Lib.hid hrs; clear hrs
  go_enter Try.func6, Try.ntmps6
  go_wp2_with fail
  refine (szPat_any kd0 A0 _ c0 _ xs0 no0 _ _ (hr0.alloc _) (by omega) hk0 HZ0.out (by omega) (by omega)).mono ?_
  rw [HF0.out]
  rintro e w2 ⟨rfl, hb⟩
  have g_w2 : Below W.heap.size W w2 := (by repeat (first | with_reducible exact bel_refl _ | with_reducible assumption | with_reducible refine bel_set ?_ (by first | (simp; done) | (simp; omega) | omega) _ | with_reducible refine bel_alloc ?_ _ | with_reducible refine bel_drew ?_ | with_reducible refine bel_drewN ?_ _ | with_reducible refine bel_trans ?_ (by assumption)))
  have b0_0 := old_cell hb (b := W.heap.size) (o := 0) (v := .string kd0) (by go_simp)
  have b0_1 := old_cell hb (b := W.heap.size) (o := 1) (v := .slice A0 xs0.length c0) (by go_simp)
  have b0_2 := old_cell hb (b := W.heap.size) (o := 2) (v := .bool no0) (by go_simp)
  replace hr0 := hr0.kept g_w2
  have zs_w2 := g_w2.size
  have gW := g_w2
  clear hb g_w2
  have z_b0_0 : W.heap.size < w2.heap.size := cell_lt b0_0
  go_wp2_with fail
  refine (toPat_any kd0 A0 _ c0 xs0 no0 _ _ hr0 (by omega)).mono ?_
  rintro e w3 ⟨v_3, rfl, ho_3, hb⟩
  obtain ⟨A_3, c_3, rfl, hc_3, _⟩ := ho_3.rd
  have g_w3 : Below w2.heap.size w2 w3 := (by repeat (first | with_reducible exact bel_refl _ | with_reducible assumption | with_reducible refine bel_set ?_ (by first | (simp; done) | (simp; omega) | omega) _ | with_reducible refine bel_alloc ?_ _ | with_reducible refine bel_drew ?_ | with_reducible refine bel_drewN ?_ _ | with_reducible refine bel_trans ?_ (by assumption)))
  replace b0_0 := old_cell g_w3 b0_0
  replace b0_1 := old_cell g_w3 b0_1
  replace b0_2 := old_cell g_w3 b0_2
  replace hr0 := hr0.kept g_w3
  have zs_w3 := g_w3.size
  have gW : Below W.heap.size W w3 := bel_trans gW g_w3
  clear hb g_w3
  have z_b0_0 : W.heap.size < w3.heap.size := cell_lt b0_0
  have in_3 : InB _ w2.heap.size w3.heap.size := ho_3.inL (by first | exact Nat.le_refl _ | (simp; done) | (simp; omega) | omega)
  go_wp2_with fail
  refine (specVarsOf_any kd0 A_3 _ c_3 xs0 no0 _ _ (ho_3.rdO) (by omega)).mono ?_
  rw [HR.out]
  rintro e w4 ⟨v_4, rfl, ho_4, hb, _⟩
  obtain ⟨A_4, c_4, rfl, hc_4, _⟩ := ho_4.rd
  have g_w4 : Below w3.heap.size w3 w4 := (by repeat (first | with_reducible exact bel_refl _ | with_reducible assumption | with_reducible refine bel_set ?_ (by first | (simp; done) | (simp; omega) | omega) _ | with_reducible refine bel_alloc ?_ _ | with_reducible refine bel_drew ?_ | with_reducible refine bel_drewN ?_ _ | with_reducible refine bel_trans ?_ (by assumption)))
  replace b0_0 := old_cell g_w4 b0_0
  replace b0_1 := old_cell g_w4 b0_1
  replace b0_2 := old_cell g_w4 b0_2
  replace hr0 := hr0.kept g_w4
  replace ho_3 := ho_3.kept g_w4
  have zs_w4 := g_w4.size
  have gW : Below W.heap.size W w4 := bel_trans gW g_w4
  clear hb g_w4
  have z_b0_0 : W.heap.size < w4.heap.size := cell_lt b0_0
  have in_4 : InB _ w3.heap.size w4.heap.size := ho_4.inL (by first | exact Nat.le_refl _ | (simp; done) | (simp; omega) | omega)
  go_wp2_with fail
  refine (toPat_any kd0 A0 _ c0 xs0 no0 _ _ hr0 (by omega)).mono ?_
  rintro e w5 ⟨v_5, rfl, ho_5, hb⟩
  obtain ⟨A_5, c_5, rfl, hc_5, _⟩ := ho_5.rd
  have g_w5 : Below w4.heap.size w4 w5 := (by repeat (first | with_reducible exact bel_refl _ | with_reducible assumption | with_reducible refine bel_set ?_ (by first | (simp; done) | (simp; omega) | omega) _ | with_reducible refine bel_alloc ?_ _ | with_reducible refine bel_drew ?_ | with_reducible refine bel_drewN ?_ _ | with_reducible refine bel_trans ?_ (by assumption)))
  replace b0_0 := old_cell g_w5 b0_0
  replace b0_1 := old_cell g_w5 b0_1
  replace b0_2 := old_cell g_w5 b0_2
  replace hr0 := hr0.kept g_w5
  replace ho_3 := ho_3.kept g_w5
  replace ho_4 := ho_4.kept g_w5
  have zs_w5 := g_w5.size
  have gW : Below W.heap.size W w5 := bel_trans gW g_w5
  clear hb g_w5
  have z_b0_0 : W.heap.size < w5.heap.size := cell_lt b0_0
  have in_5 : InB _ w4.heap.size w5.heap.size := ho_5.inL (by first | exact Nat.le_refl _ | (simp; done) | (simp; omega) | omega)
  go_wp2_with fail
  refine (implVarsOf_any kd0 A_5 _ c_5 xs0 no0 _ _ ((ho_5.rdO).alloc _) (by omega)).mono ?_
  rw [HR.out]
  rintro e w6 ⟨v_6, rfl, ho_6, hb, _⟩
  obtain ⟨A_6, c_6, rfl, hc_6, _⟩ := ho_6.rd
  have g_w6 : Below w5.heap.size w5 w6 := (by repeat (first | with_reducible exact bel_refl _ | with_reducible assumption | with_reducible refine bel_set ?_ (by first | (simp; done) | (simp; omega) | omega) _ | with_reducible refine bel_alloc ?_ _ | with_reducible refine bel_drew ?_ | with_reducible refine bel_drewN ?_ _ | with_reducible refine bel_trans ?_ (by assumption)))
  have b1_0 := old_cell hb (b := w5.heap.size) (o := 0) (v := .string kd0) (by go_simp)
  have b1_1 := old_cell hb (b := w5.heap.size) (o := 1) (v := .slice A_5 xs0.length c_5) (by go_simp)
  have b1_2 := old_cell hb (b := w5.heap.size) (o := 2) (v := .bool no0) (by go_simp)
  replace b0_0 := old_cell g_w6 b0_0
  replace b0_1 := old_cell g_w6 b0_1
  replace b0_2 := old_cell g_w6 b0_2
  replace hr0 := hr0.kept g_w6
  replace ho_3 := ho_3.kept g_w6
  replace ho_4 := ho_4.kept g_w6
  replace ho_5 := ho_5.kept g_w6
  have zs_w6 := g_w6.size
  have gW : Below W.heap.size W w6 := bel_trans gW g_w6
  clear hb g_w6
  have z_b0_0 : W.heap.size < w6.heap.size := cell_lt b0_0
  have z_b1_0 : w5.heap.size < w6.heap.size := cell_lt b1_0
  have in_6 : InB _ (w5.heap.size + 1) w6.heap.size := ho_6.inL (by first | exact Nat.le_refl _ | (simp; done) | (simp; omega) | omega)
  go_wp2_with fail
  refine (eqStringS_any A_6 A_4 _ c_6 _ c_4 rs rs _ _ _ (ho_6.rdO) (ho_4.rdO) (by omega)).mono ?_
  rw [decide_eq_true rfl]
  rintro e w7 ⟨rfl, hb⟩
  have g_w7 : Below w6.heap.size w6 w7 := (by repeat (first | with_reducible exact bel_refl _ | with_reducible assumption | with_reducible refine bel_set ?_ (by first | (simp; done) | (simp; omega) | omega) _ | with_reducible refine bel_alloc ?_ _ | with_reducible refine bel_drew ?_ | with_reducible refine bel_drewN ?_ _ | with_reducible refine bel_trans ?_ (by assumption)))
  replace b0_0 := old_cell g_w7 b0_0
  replace b0_1 := old_cell g_w7 b0_1
  replace b0_2 := old_cell g_w7 b0_2
  replace b1_0 := old_cell g_w7 b1_0
  replace b1_1 := old_cell g_w7 b1_1
  replace b1_2 := old_cell g_w7 b1_2
  replace hr0 := hr0.kept g_w7
  replace ho_3 := ho_3.kept g_w7
  replace ho_4 := ho_4.kept g_w7
  replace ho_5 := ho_5.kept g_w7
  replace ho_6 := ho_6.kept g_w7
  have zs_w7 := g_w7.size
  have gW : Below W.heap.size W w7 := bel_trans gW g_w7
  clear hb g_w7
  have z_b0_0 : W.heap.size < w7.heap.size := cell_lt b0_0
  have z_b1_0 : w5.heap.size < w7.heap.size := cell_lt b1_0
  go_wp2_with fail
  go_region_held3 (fun w' => Below w7.heap.size w7 w' ∧ w'.cell? ⟨W.heap.size, 0, none⟩ = some (.string kd0) ∧ w'.cell? ⟨W.heap.size, 1, none⟩ = some (.slice A0 xs0.length c0) ∧ w'.cell? ⟨W.heap.size, 2, none⟩ = some (.bool no0) ∧ w'.cell? ⟨w5.heap.size, 0, none⟩ = some (.string kd0) ∧ w'.cell? ⟨w5.heap.size, 1, none⟩ = some (.slice A_5 xs0.length c_5) ∧ w'.cell? ⟨w5.heap.size, 2, none⟩ = some (.bool no0)) (((refine (fun hB => ⟨hB, old_cell hB b0_0, old_cell hB b0_1, old_cell hB b0_2, old_cell hB b1_0, old_cell hB b1_1, old_cell hB b1_2⟩ : Below w7.heap.size w7 _ → _) ?_); (repeat (first | exact bel_refl _ | exact bel_drew (bel_refl _) | exact bel_trans (And.left (by assumption)) (by assumption) | assumption))))
    ((first | (go_at_call 21; (with_reducible refine (toPat_any kd0 A0 _ c0 xs0 no0 _ _ (hr0.kept (And.left (by assumption))) (by omega)).mono ?_); rintro e w8 ⟨v_8, rfl, ho_8, hb⟩; obtain ⟨A_8, c_8, rfl, hc_8, _⟩ := ho_8.rd) | (go_at_call 23; (with_reducible refine (eqPat_any kd0 kd0 A_5 A_8 _ c_5 _ c_8 xs0 xs0 no0 no0 _ _ _ ((ho_5.rdO).kept (And.left (by assumption))) (ho_8.rdO) (by omega)).mono ?_); rw [decide_eq_true rfl]; rintro e w9 ⟨rfl, hb⟩; (try replace ho_8 := ho_8.kept hb))))
  rename_i hHeld
  obtain ⟨hB, _⟩ := hHeld
  replace b0_0 := old_cell hB b0_0
  replace b0_1 := old_cell hB b0_1
  replace b0_2 := old_cell hB b0_2
  replace b1_0 := old_cell hB b1_0
  replace b1_1 := old_cell hB b1_1
  replace b1_2 := old_cell hB b1_2
  replace hr0 := hr0.kept hB
  replace ho_3 := ho_3.kept hB
  replace ho_4 := ho_4.kept hB
  replace ho_5 := ho_5.kept hB
  replace ho_6 := ho_6.kept hB
  have zs_10 := hB.size
  replace gW := bel_trans gW hB
  clear hB
  have z_b0_0 : W.heap.size < w9.heap.size := cell_lt b0_0
  have z_b1_0 : w5.heap.size < w9.heap.size := cell_lt b1_0
  go_wp2_with fail
  refine (markPat_any kd0 A_5 _ c_5 xs0 no0 _ 1 _ _ ho_5 rfl (by first | rfl | omega | simp) (by omega) (by omega)).mono ?_
  rintro e w11 ⟨rfl, hm, hg⟩
  have gg : Below W.heap.size w9 w11 := below_of_grown hg in_5 (by omega) (by omega)
  have zs_w11 := hg.size
  replace b0_0 := cell_far b0_0 hg in_5 (by omega)
  replace b0_1 := cell_far b0_1 hg in_5 (by omega)
  replace b0_2 := cell_far b0_2 hg in_5 (by omega)
  replace b1_0 := cell_far b1_0 hg in_5 (by omega)
  replace b1_1 := cell_far b1_1 hg in_5 (by omega)
  replace b1_2 := cell_far b1_2 hg in_5 (by omega)
  replace hr0 := hr0.belowB gg
  replace ho_3 := ho_3.far hg in_3 in_5 (by omega)
  replace ho_4 := ho_4.far hg in_4 in_5 (by omega)
  replace ho_6 := ho_6.far hg in_6 in_5 (by omega)
  have gW : Below W.heap.size W w11 := gW.trans gg
  clear ho_5
  have ho_5 := hm
  clear hm hg gg
  have z_b0_0 : W.heap.size < w11.heap.size := cell_lt b0_0
  have z_b1_0 : w5.heap.size < w11.heap.size := cell_lt b1_0
  go_wp2_with fail
  refine (eqStringS_any A_6 A_4 _ c_6 _ c_4 rs rs _ _ _ (ho_6.rdO) (ho_4.rdO) (by omega)).mono ?_
  rw [decide_eq_true rfl]
  rintro e w12 ⟨rfl, hb⟩
  have g_w12 : Below w11.heap.size w11 w12 := (by repeat (first | with_reducible exact bel_refl _ | with_reducible assumption | with_reducible refine bel_set ?_ (by first | (simp; done) | (simp; omega) | omega) _ | with_reducible refine bel_alloc ?_ _ | with_reducible refine bel_drew ?_ | with_reducible refine bel_drewN ?_ _ | with_reducible refine bel_trans ?_ (by assumption)))
  replace b0_0 := old_cell g_w12 b0_0
  replace b0_1 := old_cell g_w12 b0_1
  replace b0_2 := old_cell g_w12 b0_2
  replace b1_0 := old_cell g_w12 b1_0
  replace b1_1 := old_cell g_w12 b1_1
  replace b1_2 := old_cell g_w12 b1_2
  replace hr0 := hr0.kept g_w12
  replace ho_3 := ho_3.kept g_w12
  replace ho_4 := ho_4.kept g_w12
  replace ho_5 := ho_5.kept g_w12
  replace ho_6 := ho_6.kept g_w12
  have zs_w12 := g_w12.size
  have gW : Below W.heap.size W w12 := bel_trans gW g_w12
  clear hb g_w12
  have z_b0_0 : W.heap.size < w12.heap.size := cell_lt b0_0
  have z_b1_0 : w5.heap.size < w12.heap.size := cell_lt b1_0
  go_wp2_with fail
  refine (markStringS_any A_6 _ c_6 rs _ 1 _ _ ho_6 rfl (by first | rfl | omega | simp) (by omega) (by omega)).mono ?_
  rintro e w13 ⟨rfl, hm, hg⟩
  have gg : Below W.heap.size w12 w13 := below_of_grown hg in_6 (by omega) (by omega)
  have zs_w13 := hg.size
  replace b0_0 := cell_far b0_0 hg in_6 (by omega)
  replace b0_1 := cell_far b0_1 hg in_6 (by omega)
  replace b0_2 := cell_far b0_2 hg in_6 (by omega)
  replace b1_0 := cell_far b1_0 hg in_6 (by omega)
  replace b1_1 := cell_far b1_1 hg in_6 (by omega)
  replace b1_2 := cell_far b1_2 hg in_6 (by omega)
  replace hr0 := hr0.belowB gg
  replace ho_3 := ho_3.far hg in_3 in_6 (by omega)
  replace ho_4 := ho_4.far hg in_4 in_6 (by omega)
  replace ho_5 := ho_5.far hg in_5 in_6 (by omega)
  have gW : Below W.heap.size W w13 := gW.trans gg
  clear ho_6
  have ho_6 := hm
  clear hm hg gg
  have z_b0_0 : W.heap.size < w13.heap.size := cell_lt b0_0
  have z_b1_0 : w5.heap.size < w13.heap.size := cell_lt b1_0
  go_wp2_with fail
  refine (heldStringS_any A_6 c_6 rs.length _ 1 _ _ (ho_6.rdM (marksString_len _ _)) (by first | rfl | omega | simp) (by omega) (by omega)).mono ?_
  rintro e w14 ⟨rfl, hb⟩
  have g_w14 : Below w13.heap.size w13 w14 := (by repeat (first | with_reducible exact bel_refl _ | with_reducible assumption | with_reducible refine bel_set ?_ (by first | (simp; done) | (simp; omega) | omega) _ | with_reducible refine bel_alloc ?_ _ | with_reducible refine bel_drew ?_ | with_reducible refine bel_drewN ?_ _ | with_reducible refine bel_trans ?_ (by assumption)))
  replace b0_0 := old_cell g_w14 b0_0
  replace b0_1 := old_cell g_w14 b0_1
  replace b0_2 := old_cell g_w14 b0_2
  replace b1_0 := old_cell g_w14 b1_0
  replace b1_1 := old_cell g_w14 b1_1
  replace b1_2 := old_cell g_w14 b1_2
  replace hr0 := hr0.kept g_w14
  replace ho_3 := ho_3.kept g_w14
  replace ho_4 := ho_4.kept g_w14
  replace ho_5 := ho_5.kept g_w14
  replace ho_6 := ho_6.kept g_w14
  have zs_w14 := g_w14.size
  have gW : Below W.heap.size W w14 := bel_trans gW g_w14
  clear hb g_w14
  have z_b0_0 : W.heap.size < w14.heap.size := cell_lt b0_0
  have z_b1_0 : w5.heap.size < w14.heap.size := cell_lt b1_0
  go_wp2_with fail
  refine (toPat_any kd0 A0 _ c0 xs0 no0 _ _ hr0 (by omega)).mono ?_
  rintro e w15 ⟨v_15, rfl, ho_15, hb⟩
  obtain ⟨A_15, c_15, rfl, hc_15, _⟩ := ho_15.rd
  have g_w15 : Below w14.heap.size w14 w15 := (by repeat (first | with_reducible exact bel_refl _ | with_reducible assumption | with_reducible refine bel_set ?_ (by first | (simp; done) | (simp; omega) | omega) _ | with_reducible refine bel_alloc ?_ _ | with_reducible refine bel_drew ?_ | with_reducible refine bel_drewN ?_ _ | with_reducible refine bel_trans ?_ (by assumption)))
  replace b0_0 := old_cell g_w15 b0_0
  replace b0_1 := old_cell g_w15 b0_1
  replace b0_2 := old_cell g_w15 b0_2
  replace b1_0 := old_cell g_w15 b1_0
  replace b1_1 := old_cell g_w15 b1_1
  replace b1_2 := old_cell g_w15 b1_2
  replace hr0 := hr0.kept g_w15
  replace ho_3 := ho_3.kept g_w15
  replace ho_4 := ho_4.kept g_w15
  replace ho_5 := ho_5.kept g_w15
  replace ho_6 := ho_6.kept g_w15
  have zs_w15 := g_w15.size
  have gW : Below W.heap.size W w15 := bel_trans gW g_w15
  clear hb g_w15
  have z_b0_0 : W.heap.size < w15.heap.size := cell_lt b0_0
  have z_b1_0 : w5.heap.size < w15.heap.size := cell_lt b1_0
  have in_15 : InB _ w14.heap.size w15.heap.size := ho_15.inL (by first | exact Nat.le_refl _ | (simp; done) | (simp; omega) | omega)
  go_wp2_with fail
  refine (implVarsOf_any kd0 A_15 _ c_15 xs0 no0 _ _ (ho_15.rdO) (by omega)).mono ?_
  rw [HR.out]
  rintro e w16 ⟨v_16, rfl, ho_16, hb, _⟩
  obtain ⟨A_16, c_16, rfl, hc_16, _⟩ := ho_16.rd
  have g_w16 : Below w15.heap.size w15 w16 := (by repeat (first | with_reducible exact bel_refl _ | with_reducible assumption | with_reducible refine bel_set ?_ (by first | (simp; done) | (simp; omega) | omega) _ | with_reducible refine bel_alloc ?_ _ | with_reducible refine bel_drew ?_ | with_reducible refine bel_drewN ?_ _ | with_reducible refine bel_trans ?_ (by assumption)))
  replace b0_0 := old_cell g_w16 b0_0
  replace b0_1 := old_cell g_w16 b0_1
  replace b0_2 := old_cell g_w16 b0_2
  replace b1_0 := old_cell g_w16 b1_0
  replace b1_1 := old_cell g_w16 b1_1
  replace b1_2 := old_cell g_w16 b1_2
  replace hr0 := hr0.kept g_w16
  replace ho_3 := ho_3.kept g_w16
  replace ho_4 := ho_4.kept g_w16
  replace ho_5 := ho_5.kept g_w16
  replace ho_6 := ho_6.kept g_w16
  replace ho_15 := ho_15.kept g_w16
  have zs_w16 := g_w16.size
  have gW : Below W.heap.size W w16 := bel_trans gW g_w16
  clear hb g_w16
  have z_b0_0 : W.heap.size < w16.heap.size := cell_lt b0_0
  have z_b1_0 : w5.heap.size < w16.heap.size := cell_lt b1_0
  have in_16 : InB _ w15.heap.size w16.heap.size := ho_16.inL (by first | exact Nat.le_refl _ | (simp; done) | (simp; omega) | omega)
  go_wp2_with fail
  refine (eqStringS_any A_16 A_4 _ c_16 _ c_4 rs rs _ _ _ (ho_16.rdO) (ho_4.rdO) (by omega)).mono ?_
  rw [decide_eq_true rfl]
  rintro e w17 ⟨rfl, hb⟩
  have g_w17 : Below w16.heap.size w16 w17 := (by repeat (first | with_reducible exact bel_refl _ | with_reducible assumption | with_reducible refine bel_set ?_ (by first | (simp; done) | (simp; omega) | omega) _ | with_reducible refine bel_alloc ?_ _ | with_reducible refine bel_drew ?_ | with_reducible refine bel_drewN ?_ _ | with_reducible refine bel_trans ?_ (by assumption)))
  replace b0_0 := old_cell g_w17 b0_0
  replace b0_1 := old_cell g_w17 b0_1
  replace b0_2 := old_cell g_w17 b0_2
  replace b1_0 := old_cell g_w17 b1_0
  replace b1_1 := old_cell g_w17 b1_1
  replace b1_2 := old_cell g_w17 b1_2
  replace hr0 := hr0.kept g_w17
  replace ho_3 := ho_3.kept g_w17
  replace ho_4 := ho_4.kept g_w17
  replace ho_5 := ho_5.kept g_w17
  replace ho_6 := ho_6.kept g_w17
  replace ho_15 := ho_15.kept g_w17
  replace ho_16 := ho_16.kept g_w17
  have zs_w17 := g_w17.size
  have gW : Below W.heap.size W w17 := bel_trans gW g_w17
  clear hb g_w17
  have z_b0_0 : W.heap.size < w17.heap.size := cell_lt b0_0
  have z_b1_0 : w5.heap.size < w17.heap.size := cell_lt b1_0
  go_wp2_with fail
  refine (heldStringS_any A_6 c_6 rs.length _ 1 _ _ (ho_6.rdM (marksString_len _ _)) (by first | rfl | omega | simp) (by omega) (by omega)).mono ?_
  rintro e w18 ⟨rfl, hb⟩
  have g_w18 : Below w17.heap.size w17 w18 := (by repeat (first | with_reducible exact bel_refl _ | with_reducible assumption | with_reducible refine bel_set ?_ (by first | (simp; done) | (simp; omega) | omega) _ | with_reducible refine bel_alloc ?_ _ | with_reducible refine bel_drew ?_ | with_reducible refine bel_drewN ?_ _ | with_reducible refine bel_trans ?_ (by assumption)))
  replace b0_0 := old_cell g_w18 b0_0
  replace b0_1 := old_cell g_w18 b0_1
  replace b0_2 := old_cell g_w18 b0_2
  replace b1_0 := old_cell g_w18 b1_0
  replace b1_1 := old_cell g_w18 b1_1
  replace b1_2 := old_cell g_w18 b1_2
  replace hr0 := hr0.kept g_w18
  replace ho_3 := ho_3.kept g_w18
  replace ho_4 := ho_4.kept g_w18
  replace ho_5 := ho_5.kept g_w18
  replace ho_6 := ho_6.kept g_w18
  replace ho_15 := ho_15.kept g_w18
  replace ho_16 := ho_16.kept g_w18
  have zs_w18 := g_w18.size
  have gW : Below W.heap.size W w18 := bel_trans gW g_w18
  clear hb g_w18
  have z_b0_0 : W.heap.size < w18.heap.size := cell_lt b0_0
  have z_b1_0 : w5.heap.size < w18.heap.size := cell_lt b1_0
  go_wp2
  go_ret
  exact ⟨rfl, gW⟩

theorem own : ownKnob Try.prog.godebug = none := by kernel_rfl
theorem laidOut : laidOutB Try.prog = true := by kernel_rfl
theorem lifted (os : Os) (started : os.Started) (H : Type) (enc : TypeId × Value → H) :
    ReturnsInHanded {} Try.checked os 6 .any (Rows.fnExactVarsOfSpec.pre6 enc Try.prog Try.f6 Rows.fnExactVarsOfRow.domain false) (Rows.fnExactVarsOfSpec.post enc Try.prog Try.f6 false true false false) := by
  refine returnsInHanded_of_change (C := Try.checked) own started (by kernel_rfl) Try.func6
    (ChangeSpec.witness6 (enc := enc) (C := Try.checked) false ⟨#[], #[.agg #[.string ByteArray.empty, .slice none 0 0, .bool false]], []⟩ 8 (by kernel_rfl) (by kernel_rfl) (by kernel_rfl) (by kernel_rfl)) ?_
  intro W base args ds gs before hval0 hW hcnd _
  have hval : ∀ (j : Nat) t v, Try.f6.params[j]? = some t → args[j]? = some v → Value.okWide Try.prog W .any base t v := hval0
  have hW' := hW
  obtain ⟨p, q, hA0, hV, rfl, hfz, hnd⟩ := hW
  have hA : DataW.TrodAll enc Try.prog W 0 (fun _ => true) true Try.f6.params.toList args.toList ds p := hA0
  rw [Try.params6] at hA hval
  obtain ⟨v0, vs0, d0, ds0, p0, q0, hargs, rfl, rfl, h0, r0⟩ := trodAll_cons hA
  obtain ⟨rfl, rfl, rfl⟩ := trodAll_nil r0
  obtain rfl : args = #[v0] := by cases args; simp_all
  obtain ⟨rfl, rfl⟩ := trodVars_none hV
  have lt0 : ∀ x ∈ p0, x.block < W.heap.size := by obtain ⟨m, hm⟩ := h0; exact DataW.trod_lt m _ _ _ hm
  obtain ⟨kd0, A0, n0, c0, xs0, no0, hv0, hs0⟩ := open_pat (hval 0 35 v0 rfl rfl) h0
  subst hv0
  clear hA0 hval0
  refine (walk kd0 A0 n0 c0 xs0 no0 W hs0).mono fun e W' ⟨he, bel⟩ => ?_
  subst he
  exact ⟨_, rfl, _, _, _, [], _, [], hW', trodAll_mk1 (shut_bool Try.underlying4 _), (trodAll_cons_mk (Below.trod laidOut (by kernel_rfl) (of_decide_eq_true (by kernel_rfl)) h0 bel lt0) trodAll_mk0), rfl, bel.frame _, fun h => by cases h⟩
theorem over : Rows.fnExactVarsOfRow.holds Try.pinned (OpenSpec.ofChange Rows.fnExactVarsOfSpec) :=
  OpenClaim.holds_of_wide 6 Try.f6 rfl rfl rfl rfl rfl rfl rfl ⟨rfl, rfl, rfl, rfl, rfl⟩ rfl rfl rfl rfl rfl (by kernel_rfl) Try.func6 (by kernel_rfl)
    (of_decide_eq_true (by kernel_rfl)) (by unfold Func.isWrapper; first | (rw [if_pos (by decide +kernel)]; kernel_rfl) | (rw [if_neg (by decide +kernel)]; exact ⟨rfl, rfl⟩))
    (fun os started H enc _ => lifted os started H enc)
theorem proved : Rows.FnExactVarsOfSaid := over
end Go.Proofs.Ytjlfllnjbdddaaa.fnExactVarsOf
