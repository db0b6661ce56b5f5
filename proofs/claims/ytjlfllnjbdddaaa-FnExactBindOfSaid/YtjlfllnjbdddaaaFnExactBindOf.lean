/- The law FnExactBindOf returns true at every input, and leaves what it was given as it was. No condition. -/
import Derived.Test.YtjlfllnjbdddaaaReadE
import Derived.Test.YtjlfllnjbdddaaaBindOf
import Derived.Test.YtjlfllnjbdddaaaRows
import Derived.Test.YtjlfllnjbdddaaaRead
namespace Go.Proofs.Ytjlfllnjbdddaaa.fnExactBindOf
open Go.ChangeShapes Go.WideShapes Go.ChangeAt Go.RowKit
open Go.ChangeMaps (open_string shut_string)
set_option linter.unusedVariables false
set_option maxRecDepth 100000
set_option maxHeartbeats 20000000

theorem walk (A0 : Option Addr) (n0 c0 : Nat) (xs0 : List Bd) (s1 : ByteArray) (W : World) (hs0 : n0 ≤ c0 ∧ c0 ≤ 9223372036854775807 ∧ RdS bC 4 W W.heap.size A0 n0 xs0 ∧ ∀ a ∈ xs0, goodB a) (hs1 : s1.size ≤ maxLen) :
    Calls Try.prog 5 #[.slice A0 n0 c0, .string s1] W fun e w' => e = .returned (.bool true) ∧ Below W.heap.size W w' := by
  obtain ⟨hnc0, hc0, hr0, hz0⟩ := hs0
  obtain rfl : n0 = xs0.length := hr0.len.symm
  have HZ0 := Lib.hid hz0; clear hz0
  have hss1 : s1.size ≤ 9223372036854775807 := by simp only [maxLen] at hs1; omega
  clear hs1
  by_cases bl1 : (1048576 : Int) < (s1.size : Int)
  · go_enter Try.func5, Try.ntmps5
    go_wp2
    go_ret
    exact ⟨rfl, (by repeat (first | with_reducible exact bel_refl _ | with_reducible assumption | with_reducible refine bel_set ?_ (by first | (simp; done) | (simp; omega) | omega) _ | with_reducible refine bel_alloc ?_ _ | with_reducible refine bel_drew ?_ | with_reducible refine bel_drewN ?_ _ | with_reducible refine bel_trans ?_ (by assumption)))⟩
  by_cases bz0 : (1048576 : Int) < ((totB xs0) : Int)
  · have HB := Lib.hid (szR_big bz0)
    go_enter Try.func5, Try.ntmps5
    go_wp2_with fail
    refine (szBindS_any A0 _ c0 _ xs0 _ _ hr0 (by omega) HZ0.out (by omega) (by omega)).mono ?_
    rw [HB.out]
    rintro e w1 ⟨rfl, hb⟩
    have g_w1 : Below W.heap.size W w1 := (by repeat (first | with_reducible exact bel_refl _ | with_reducible assumption | with_reducible refine bel_set ?_ (by first | (simp; done) | (simp; omega) | omega) _ | with_reducible refine bel_alloc ?_ _ | with_reducible refine bel_drew ?_ | with_reducible refine bel_drewN ?_ _ | with_reducible refine bel_trans ?_ (by assumption)))
    replace hr0 := hr0.kept g_w1
    have zs_w1 := g_w1.size
    have gW := g_w1
    clear hb g_w1
    go_wp2
    go_ret
    exact ⟨rfl, gW⟩
  have HF0 := Lib.hid (szR_fit (Int.not_lt.1 bz0))
  have hl0 : xs0.length ≤ 1048576 := by unfold totB at bz0; omega
  obtain ⟨⟨rk, rn, rz⟩, rb, hr⟩ : ∃ (a : Vl) (b : Bool), bindOf xs0 s1 = (a, b) := ⟨_, _, rfl⟩
  have HR := Lib.hid hr; clear hr
  go_enter Try.func5, Try.ntmps5
  go_wp2_with fail
  refine (szBindS_any A0 _ c0 _ xs0 _ _ hr0 (by omega) HZ0.out (by omega) (by omega)).mono ?_
  rw [HF0.out]
  rintro e w2 ⟨rfl, hb⟩
  have g_w2 : Below W.heap.size W w2 := (by repeat (first | with_reducible exact bel_refl _ | with_reducible assumption | with_reducible refine bel_set ?_ (by first | (simp; done) | (simp; omega) | omega) _ | with_reducible refine bel_alloc ?_ _ | with_reducible refine bel_drew ?_ | with_reducible refine bel_drewN ?_ _ | with_reducible refine bel_trans ?_ (by assumption)))
  replace hr0 := hr0.kept g_w2
  have zs_w2 := g_w2.size
  have gW := g_w2
  clear hb g_w2
  go_wp2_with fail
  refine (toBindS_any A0 _ c0 xs0 _ _ hr0 (by omega)).mono ?_
  rintro e w3 ⟨v_3, rfl, ho_3, hb⟩
  obtain ⟨A_3, c_3, rfl, hc_3, _⟩ := ho_3.rd
  have g_w3 : Below w2.heap.size w2 w3 := (by repeat (first | with_reducible exact bel_refl _ | with_reducible assumption | with_reducible refine bel_set ?_ (by first | (simp; done) | (simp; omega) | omega) _ | with_reducible refine bel_alloc ?_ _ | with_reducible refine bel_drew ?_ | with_reducible refine bel_drewN ?_ _ | with_reducible refine bel_trans ?_ (by assumption)))
  replace hr0 := hr0.kept g_w3
  have zs_w3 := g_w3.size
  have gW : Below W.heap.size W w3 := bel_trans gW g_w3
  clear hb g_w3
  have in_3 : InB _ w2.heap.size w3.heap.size := ho_3.inL (by first | exact Nat.le_refl _ | (simp; done) | (simp; omega) | omega)
  go_wp2_with fail
  refine (specBindOf_any A_3 _ c_3 xs0 s1 _ _ (ho_3.rdO) (by omega)).mono ?_
  rw [HR.out]
  dsimp only [tupB]
  rintro e w4 ⟨rfl, hb⟩
  have g_w4 : Below w3.heap.size w3 w4 := (by repeat (first | with_reducible exact bel_refl _ | with_reducible assumption | with_reducible refine bel_set ?_ (by first | (simp; done) | (simp; omega) | omega) _ | with_reducible refine bel_alloc ?_ _ | with_reducible refine bel_drew ?_ | with_reducible refine bel_drewN ?_ _ | with_reducible refine bel_trans ?_ (by assumption)))
  replace hr0 := hr0.kept g_w4
  replace ho_3 := ho_3.kept g_w4
  have zs_w4 := g_w4.size
  have gW : Below W.heap.size W w4 := bel_trans gW g_w4
  clear hb g_w4
  go_wp2_with fail
  refine (toBindS_any A0 _ c0 xs0 _ _ (hr0.alloc _) (by omega)).mono ?_
  rintro e w5 ⟨v_5, rfl, ho_5, hb⟩
  obtain ⟨A_5, c_5, rfl, hc_5, _⟩ := ho_5.rd
  have g_w5 : Below w4.heap.size w4 w5 := (by repeat (first | with_reducible exact bel_refl _ | with_reducible assumption | with_reducible refine bel_set ?_ (by first | (simp; done) | (simp; omega) | omega) _ | with_reducible refine bel_alloc ?_ _ | with_reducible refine bel_drew ?_ | with_reducible refine bel_drewN ?_ _ | with_reducible refine bel_trans ?_ (by assumption)))
  have b0_0 := old_cell hb (b := w4.heap.size) (o := 0) (v := .int .i64 rk) (by go_simp)
  have b0_1 := old_cell hb (b := w4.heap.size) (o := 1) (v := .int .i64 rn) (by go_simp)
  have b0_2 := old_cell hb (b := w4.heap.size) (o := 2) (v := .string rz) (by go_simp)
  replace hr0 := hr0.kept g_w5
  replace ho_3 := ho_3.kept g_w5
  have zs_w5 := g_w5.size
  have gW : Below W.heap.size W w5 := bel_trans gW g_w5
  clear hb g_w5
  have z_b0_0 : w4.heap.size < w5.heap.size := cell_lt b0_0
  have in_5 : InB _ w4.heap.size w5.heap.size := ho_5.inL (by first | exact Nat.le_refl _ | (simp; done) | (simp; omega) | omega)
  go_wp2_with fail
  refine (implBindOf_any A_5 _ c_5 xs0 s1 _ _ (ho_5.rdO) (by omega)).mono ?_
  rw [HR.out]
  dsimp only [tupB]
  rintro e w6 ⟨rfl, hb⟩
  have g_w6 : Below w5.heap.size w5 w6 := (by repeat (first | with_reducible exact bel_refl _ | with_reducible assumption | with_reducible refine bel_set ?_ (by first | (simp; done) | (simp; omega) | omega) _ | with_reducible refine bel_alloc ?_ _ | with_reducible refine bel_drew ?_ | with_reducible refine bel_drewN ?_ _ | with_reducible refine bel_trans ?_ (by assumption)))
  replace b0_0 := old_cell g_w6 b0_0
  replace b0_1 := old_cell g_w6 b0_1
  replace b0_2 := old_cell g_w6 b0_2
  replace hr0 := hr0.kept g_w6
  replace ho_3 := ho_3.kept g_w6
  replace ho_5 := ho_5.kept g_w6
  have zs_w6 := g_w6.size
  have gW : Below W.heap.size W w6 := bel_trans gW g_w6
  clear hb g_w6
  have z_b0_0 : w4.heap.size < w6.heap.size := cell_lt b0_0
  go_wp2_with fail
  refine (eqVal_any rk rn rz rk rn rz _).mono ?_
  rw [decide_eq_true rfl]
  rintro e w7 ⟨rfl, hb⟩
  have g_w7 : Below w6.heap.size w6 w7 := (by repeat (first | with_reducible exact bel_refl _ | with_reducible assumption | with_reducible refine bel_set ?_ (by first | (simp; done) | (simp; omega) | omega) _ | with_reducible refine bel_alloc ?_ _ | with_reducible refine bel_drew ?_ | with_reducible refine bel_drewN ?_ _ | with_reducible refine bel_trans ?_ (by assumption)))
  have b1_0 := old_cell hb (b := w6.heap.size) (o := 0) (v := .int .i64 rk) (by go_simp)
  have b1_1 := old_cell hb (b := w6.heap.size) (o := 1) (v := .int .i64 rn) (by go_simp)
  have b1_2 := old_cell hb (b := w6.heap.size) (o := 2) (v := .string rz) (by go_simp)
  replace b0_0 := old_cell g_w7 b0_0
  replace b0_1 := old_cell g_w7 b0_1
  replace b0_2 := old_cell g_w7 b0_2
  replace hr0 := hr0.kept g_w7
  replace ho_3 := ho_3.kept g_w7
  replace ho_5 := ho_5.kept g_w7
  have zs_w7 := g_w7.size
  have gW : Below W.heap.size W w7 := bel_trans gW g_w7
  clear hb g_w7
  have z_b0_0 : w4.heap.size < w7.heap.size := cell_lt b0_0
  have z_b1_0 : w6.heap.size < w7.heap.size := cell_lt b1_0
  go_wp2_with fail
  refine (toBindS_any A0 _ c0 xs0 _ _ hr0 (by omega)).mono ?_
  rintro e w8 ⟨v_8, rfl, ho_8, hb⟩
  obtain ⟨A_8, c_8, rfl, hc_8, _⟩ := ho_8.rd
  have g_w8 : Below w7.heap.size w7 w8 := (by repeat (first | with_reducible exact bel_refl _ | with_reducible assumption | with_reducible refine bel_set ?_ (by first | (simp; done) | (simp; omega) | omega) _ | with_reducible refine bel_alloc ?_ _ | with_reducible refine bel_drew ?_ | with_reducible refine bel_drewN ?_ _ | with_reducible refine bel_trans ?_ (by assumption)))
  replace b0_0 := old_cell g_w8 b0_0
  replace b0_1 := old_cell g_w8 b0_1
  replace b0_2 := old_cell g_w8 b0_2
  replace b1_0 := old_cell g_w8 b1_0
  replace b1_1 := old_cell g_w8 b1_1
  replace b1_2 := old_cell g_w8 b1_2
  replace hr0 := hr0.kept g_w8
  replace ho_3 := ho_3.kept g_w8
  replace ho_5 := ho_5.kept g_w8
  have zs_w8 := g_w8.size
  have gW : Below W.heap.size W w8 := bel_trans gW g_w8
  clear hb g_w8
  have z_b0_0 : w4.heap.size < w8.heap.size := cell_lt b0_0
  have z_b1_0 : w6.heap.size < w8.heap.size := cell_lt b1_0
  have in_8 : InB _ w7.heap.size w8.heap.size := ho_8.inL (by first | exact Nat.le_refl _ | (simp; done) | (simp; omega) | omega)
  go_wp2_with fail
  refine (eqBindS_any A_5 A_8 _ c_5 _ c_8 xs0 xs0 _ _ _ (ho_5.rdO) (ho_8.rdO) (by omega)).mono ?_
  rw [decide_eq_true rfl]
  rintro e w9 ⟨rfl, hb⟩
  have g_w9 : Below w8.heap.size w8 w9 := (by repeat (first | with_reducible exact bel_refl _ | with_reducible assumption | with_reducible refine bel_set ?_ (by first | (simp; done) | (simp; omega) | omega) _ | with_reducible refine bel_alloc ?_ _ | with_reducible refine bel_drew ?_ | with_reducible refine bel_drewN ?_ _ | with_reducible refine bel_trans ?_ (by assumption)))
  replace b0_0 := old_cell g_w9 b0_0
  replace b0_1 := old_cell g_w9 b0_1
  replace b0_2 := old_cell g_w9 b0_2
  replace b1_0 := old_cell g_w9 b1_0
  replace b1_1 := old_cell g_w9 b1_1
  replace b1_2 := old_cell g_w9 b1_2
  replace hr0 := hr0.kept g_w9
  replace ho_3 := ho_3.kept g_w9
  replace ho_5 := ho_5.kept g_w9
  replace ho_8 := ho_8.kept g_w9
  have zs_w9 := g_w9.size
  have gW : Below W.heap.size W w9 := bel_trans gW g_w9
  clear hb g_w9
  have z_b0_0 : w4.heap.size < w9.heap.size := cell_lt b0_0
  have z_b1_0 : w6.heap.size < w9.heap.size := cell_lt b1_0
  go_wp2
  go_ret
  exact ⟨rfl, gW⟩

theorem own : ownKnob Try.prog.godebug = none := by kernel_rfl
theorem laidOut : laidOutB Try.prog = true := by kernel_rfl
theorem lifted (os : Os) (started : os.Started) (H : Type) (enc : TypeId × Value → H) :
    ReturnsInHanded {} Try.checked os 5 .any (Rows.fnExactBindOfSpec.pre6 enc Try.prog Try.f5 Rows.fnExactBindOfRow.domain false) (Rows.fnExactBindOfSpec.post enc Try.prog Try.f5 false true false false) := by
  refine returnsInHanded_of_change (C := Try.checked) own started (by kernel_rfl) Try.func5
    (ChangeSpec.witness6 (enc := enc) (C := Try.checked) false ⟨#[], #[.slice none 0 0, .string ByteArray.empty], []⟩ 8 (by kernel_rfl) (by kernel_rfl) (by kernel_rfl) (by kernel_rfl)) ?_
  intro W base args ds gs before hval0 hW hcnd _
  have hval : ∀ (j : Nat) t v, Try.f5.params[j]? = some t → args[j]? = some v → Value.okWide Try.prog W .any base t v := hval0
  have hW' := hW
  obtain ⟨p, q, hA0, hV, rfl, hfz, hnd⟩ := hW
  have hA : DataW.TrodAll enc Try.prog W 0 (fun _ => true) true Try.f5.params.toList args.toList ds p := hA0
  rw [Try.params5] at hA hval
  obtain ⟨v0, vs0, d0, ds0, p0, q0, hargs, rfl, rfl, h0, r0⟩ := trodAll_cons hA
  obtain ⟨v1, vs1, d1, ds1, p1, q1, rfl, rfl, rfl, h1, r1⟩ := trodAll_cons r0
  obtain ⟨rfl, rfl, rfl⟩ := trodAll_nil r1
  obtain rfl : args = #[v0, v1] := by cases args; simp_all
  obtain ⟨rfl, rfl⟩ := trodVars_none hV
  have lt0 : ∀ x ∈ p0, x.block < W.heap.size := by obtain ⟨m, hm⟩ := h0; exact DataW.trod_lt m _ _ _ hm
  obtain ⟨A0, n0, c0, xs0, hv0, hs0⟩ := open_bindS (hval 0 44 v0 rfl rfl) h0
  subst hv0
  have lt1 : ∀ x ∈ p1, x.block < W.heap.size := by obtain ⟨m, hm⟩ := h1; exact DataW.trod_lt m _ _ _ hm
  obtain ⟨s1, hv1, hs1⟩ := open_str Try.underlying9 (hval 1 9 v1 rfl rfl) h1
  subst hv1
  clear hA0 hval0
  refine (walk A0 n0 c0 xs0 s1 W hs0 hs1).mono fun e W' ⟨he, bel⟩ => ?_
  subst he
  exact ⟨_, rfl, _, _, _, [], _, [], hW', trodAll_mk1 (shut_bool Try.underlying4 _), (trodAll_cons_mk (Below.trod laidOut (by kernel_rfl) (of_decide_eq_true (by kernel_rfl)) h0 bel lt0) (trodAll_cons_mk (Below.trod laidOut (by kernel_rfl) (of_decide_eq_true (by kernel_rfl)) h1 bel lt1) trodAll_mk0)), rfl, bel.frame _, fun h => by cases h⟩
theorem over : Rows.fnExactBindOfRow.holds Try.pinned (OpenSpec.ofChange Rows.fnExactBindOfSpec) :=
  OpenClaim.holds_of_wide 5 Try.f5 rfl rfl rfl rfl rfl rfl rfl ⟨rfl, rfl, rfl, rfl, rfl⟩ rfl rfl rfl rfl rfl (by kernel_rfl) Try.func5 (by kernel_rfl)
    (of_decide_eq_true (by kernel_rfl)) (by unfold Func.isWrapper; first | (rw [if_pos (by decide +kernel)]; kernel_rfl) | (rw [if_neg (by decide +kernel)]; exact ⟨rfl, rfl⟩))
    (fun os started H enc _ => lifted os started H enc)
theorem proved : Rows.FnExactBindOfSaid := over
end Go.Proofs.Ytjlfllnjbdddaaa.fnExactBindOf
