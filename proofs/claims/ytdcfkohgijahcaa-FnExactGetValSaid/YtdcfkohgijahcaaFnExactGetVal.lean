/- The law FnExactGetVal returns true at every input, and leaves what it was given as it was. No condition. -/
import Derived.Test.YtdcfkohgijahcaaGetVal
import Derived.Test.YtdcfkohgijahcaaBy2
import Derived.Test.YtdcfkohgijahcaaRows
import Derived.Test.YtdcfkohgijahcaaRead
namespace Go.Proofs.Ytdcfkohgijahcaa.fnExactGetVal
open Go.ChangeShapes Go.WideShapes Go.ChangeAt Go.RowKit
open Go.ChangeMaps (open_string shut_string)
set_option linter.unusedVariables false
set_option maxRecDepth 100000
set_option maxHeartbeats 20000000

theorem walk (A0 : Option Addr) (n0 c0 : Nat) (xs0 : List UInt8) (x1 : Int) (W : World) (hs0 : n0 ≤ c0 ∧ c0 ≤ maxLen ∧ RdB W W.heap.size A0 n0 xs0) (hs1 : -9223372036854775808 ≤ x1 ∧ x1 ≤ 9223372036854775807) :
    Calls Try.prog 5 #[.slice A0 n0 c0, .int .i64 x1] W fun e w' => e = .returned (.bool true) ∧ Below W.heap.size W w' := by
  obtain ⟨hnc0, hc0, hrb0⟩ := hs0
  obtain rfl : n0 = xs0.length := hrb0.len.symm
  have hr0 : RdY W W.heap.size A0 xs0.length xs0 := ⟨Nat.le_refl _, hrb0⟩
  by_cases bl0 : (1048576 : Int) < (xs0.length : Int)
  · go_enter Try.func5, Try.ntmps5
    go_wp2
    go_ret
    exact ⟨rfl, (by repeat (first | exact bel_refl _ | assumption | refine bel_alloc ?_ _ | refine bel_drew ?_ | refine bel_drewN ?_ _ | refine bel_trans ?_ (by assumption) | refine bel_set ?_ (by first | (simp; done) | (simp; omega) | omega) _))⟩
  obtain ⟨⟨rk, rn, rz⟩, rp, rb, hr⟩ : ∃ (a : Vl) (b : Int) (c : Bool), getVal xs0 x1 = (a, b, c) := ⟨_, _, _, rfl⟩
  have HR := Lib.hid hr; clear hr
  go_enter Try.func5, Try.ntmps5
  go_wp2_with fail
  refine (toByteS_b A0 _ c0 xs0 _ _ hr0 (by omega)).mono ?_
  rintro e w1 ⟨v_1, rfl, ho_1, hb⟩
  obtain ⟨A_1, c_1, rfl, hc_1, _⟩ := ho_1.form
  have g_w1 : Below W.heap.size W w1 := (by repeat (first | exact bel_refl _ | assumption | refine bel_alloc ?_ _ | refine bel_drew ?_ | refine bel_drewN ?_ _ | refine bel_trans ?_ (by assumption) | refine bel_set ?_ (by first | (simp; done) | (simp; omega) | omega) _))
  replace hr0 := hr0.kept g_w1
  have zs_w1 := g_w1.size
  have gW := g_w1
  clear hb g_w1
  have in_1 : InB _ W.heap.size w1.heap.size := ho_1.inL (by first | exact Nat.le_refl _ | (simp; done) | (simp; omega) | omega)
  go_wp2_with fail
  refine (specGetVal_any A_1 _ c_1 x1 xs0 _ _ (ho_1.rdO) (by omega) (by omega)).mono ?_
  rw [HR.out]
  dsimp only [tupG]
  rintro e w2 ⟨rfl, hb⟩
  have g_w2 : Below w1.heap.size w1 w2 := (by repeat (first | exact bel_refl _ | assumption | refine bel_alloc ?_ _ | refine bel_drew ?_ | refine bel_drewN ?_ _ | refine bel_trans ?_ (by assumption) | refine bel_set ?_ (by first | (simp; done) | (simp; omega) | omega) _))
  replace hr0 := hr0.kept g_w2
  replace ho_1 := ho_1.kept g_w2
  have zs_w2 := g_w2.size
  have gW : Below W.heap.size W w2 := bel_trans gW g_w2
  clear hb g_w2
  go_wp2_with fail
  refine (toByteS_b A0 _ c0 xs0 _ _ (hr0.alloc _) (by omega)).mono ?_
  rintro e w3 ⟨v_3, rfl, ho_3, hb⟩
  obtain ⟨A_3, c_3, rfl, hc_3, _⟩ := ho_3.form
  have g_w3 : Below w2.heap.size w2 w3 := (by repeat (first | exact bel_refl _ | assumption | refine bel_alloc ?_ _ | refine bel_drew ?_ | refine bel_drewN ?_ _ | refine bel_trans ?_ (by assumption) | refine bel_set ?_ (by first | (simp; done) | (simp; omega) | omega) _))
  have b0_0 := old_cell hb (b := w2.heap.size) (o := 0) (v := .int .i64 rk) (by go_simp)
  have b0_1 := old_cell hb (b := w2.heap.size) (o := 1) (v := .int .i64 rn) (by go_simp)
  have b0_2 := old_cell hb (b := w2.heap.size) (o := 2) (v := .string rz) (by go_simp)
  replace hr0 := hr0.kept g_w3
  replace ho_1 := ho_1.kept g_w3
  have zs_w3 := g_w3.size
  have gW : Below W.heap.size W w3 := bel_trans gW g_w3
  clear hb g_w3
  have z_b0_0 : w2.heap.size < w3.heap.size := cell_lt b0_0
  have in_3 : InB _ w2.heap.size w3.heap.size := ho_3.inL (by first | exact Nat.le_refl _ | (simp; done) | (simp; omega) | omega)
  go_wp2_with fail
  refine (implGetVal_any A_3 _ c_3 x1 xs0 _ _ (ho_3.rdO) (by omega) (by omega)).mono ?_
  rw [HR.out]
  dsimp only [tupG]
  rintro e w4 ⟨rfl, hb⟩
  have g_w4 : Below w3.heap.size w3 w4 := (by repeat (first | exact bel_refl _ | assumption | refine bel_alloc ?_ _ | refine bel_drew ?_ | refine bel_drewN ?_ _ | refine bel_trans ?_ (by assumption) | refine bel_set ?_ (by first | (simp; done) | (simp; omega) | omega) _))
  replace b0_0 := old_cell g_w4 b0_0
  replace b0_1 := old_cell g_w4 b0_1
  replace b0_2 := old_cell g_w4 b0_2
  replace hr0 := hr0.kept g_w4
  replace ho_1 := ho_1.kept g_w4
  replace ho_3 := ho_3.kept g_w4
  have zs_w4 := g_w4.size
  have gW : Below W.heap.size W w4 := bel_trans gW g_w4
  clear hb g_w4
  have z_b0_0 : w2.heap.size < w4.heap.size := cell_lt b0_0
  go_wp2_with fail
  refine (eqVal_any rk rn rz rk rn rz _).mono ?_
  rw [decide_eq_true rfl]
  rintro e w5 ⟨rfl, hb⟩
  have g_w5 : Below w4.heap.size w4 w5 := (by repeat (first | exact bel_refl _ | assumption | refine bel_alloc ?_ _ | refine bel_drew ?_ | refine bel_drewN ?_ _ | refine bel_trans ?_ (by assumption) | refine bel_set ?_ (by first | (simp; done) | (simp; omega) | omega) _))
  have b1_0 := old_cell hb (b := w4.heap.size) (o := 0) (v := .int .i64 rk) (by go_simp)
  have b1_1 := old_cell hb (b := w4.heap.size) (o := 1) (v := .int .i64 rn) (by go_simp)
  have b1_2 := old_cell hb (b := w4.heap.size) (o := 2) (v := .string rz) (by go_simp)
  replace b0_0 := old_cell g_w5 b0_0
  replace b0_1 := old_cell g_w5 b0_1
  replace b0_2 := old_cell g_w5 b0_2
  replace hr0 := hr0.kept g_w5
  replace ho_1 := ho_1.kept g_w5
  replace ho_3 := ho_3.kept g_w5
  have zs_w5 := g_w5.size
  have gW : Below W.heap.size W w5 := bel_trans gW g_w5
  clear hb g_w5
  have z_b0_0 : w2.heap.size < w5.heap.size := cell_lt b0_0
  have z_b1_0 : w4.heap.size < w5.heap.size := cell_lt b1_0
  go_wp2_with fail
  refine (toByteS_b A0 _ c0 xs0 _ _ hr0 (by omega)).mono ?_
  rintro e w6 ⟨v_6, rfl, ho_6, hb⟩
  obtain ⟨A_6, c_6, rfl, hc_6, _⟩ := ho_6.form
  have g_w6 : Below w5.heap.size w5 w6 := (by repeat (first | exact bel_refl _ | assumption | refine bel_alloc ?_ _ | refine bel_drew ?_ | refine bel_drewN ?_ _ | refine bel_trans ?_ (by assumption) | refine bel_set ?_ (by first | (simp; done) | (simp; omega) | omega) _))
  replace b0_0 := old_cell g_w6 b0_0
  replace b0_1 := old_cell g_w6 b0_1
  replace b0_2 := old_cell g_w6 b0_2
  replace b1_0 := old_cell g_w6 b1_0
  replace b1_1 := old_cell g_w6 b1_1
  replace b1_2 := old_cell g_w6 b1_2
  replace hr0 := hr0.kept g_w6
  replace ho_1 := ho_1.kept g_w6
  replace ho_3 := ho_3.kept g_w6
  have zs_w6 := g_w6.size
  have gW : Below W.heap.size W w6 := bel_trans gW g_w6
  clear hb g_w6
  have z_b0_0 : w2.heap.size < w6.heap.size := cell_lt b0_0
  have z_b1_0 : w4.heap.size < w6.heap.size := cell_lt b1_0
  have in_6 : InB _ w5.heap.size w6.heap.size := ho_6.inL (by first | exact Nat.le_refl _ | (simp; done) | (simp; omega) | omega)
  go_wp2_with fail
  refine (eqByteS_b A_3 A_6 _ c_3 _ c_6 xs0 xs0 _ _ _ (ho_3.rdO) (ho_6.rdO) (by omega)).mono ?_
  rw [decide_eq_true rfl]
  rintro e w7 ⟨rfl, hb⟩
  have g_w7 : Below w6.heap.size w6 w7 := (by repeat (first | exact bel_refl _ | assumption | refine bel_alloc ?_ _ | refine bel_drew ?_ | refine bel_drewN ?_ _ | refine bel_trans ?_ (by assumption) | refine bel_set ?_ (by first | (simp; done) | (simp; omega) | omega) _))
  replace b0_0 := old_cell g_w7 b0_0
  replace b0_1 := old_cell g_w7 b0_1
  replace b0_2 := old_cell g_w7 b0_2
  replace b1_0 := old_cell g_w7 b1_0
  replace b1_1 := old_cell g_w7 b1_1
  replace b1_2 := old_cell g_w7 b1_2
  replace hr0 := hr0.kept g_w7
  replace ho_1 := ho_1.kept g_w7
  replace ho_3 := ho_3.kept g_w7
  replace ho_6 := ho_6.kept g_w7
  have zs_w7 := g_w7.size
  have gW : Below W.heap.size W w7 := bel_trans gW g_w7
  clear hb g_w7
  have z_b0_0 : w2.heap.size < w7.heap.size := cell_lt b0_0
  have z_b1_0 : w4.heap.size < w7.heap.size := cell_lt b1_0
  go_wp2
  go_ret
  exact ⟨rfl, gW⟩

theorem own : ownKnob Try.prog.godebug = none := by kernel_rfl
theorem laidOut : laidOutB Try.prog = true := by kernel_rfl
theorem lifted (os : Os) (started : os.Started) (H : Type) (enc : TypeId × Value → H) :
    ReturnsInHanded {} Try.checked os 5 .any (Rows.fnExactGetValSpec.pre6 enc Try.prog Try.f5 Rows.fnExactGetValRow.domain false) (Rows.fnExactGetValSpec.post enc Try.prog Try.f5 false true false false) := by
  refine returnsInHanded_of_change (C := Try.checked) own started (by kernel_rfl) Try.func5
    (ChangeSpec.witness6 (enc := enc) (C := Try.checked) false ⟨#[], #[.slice none 0 0, .int .i64 0], []⟩ 8 (by kernel_rfl) (by kernel_rfl) (by kernel_rfl) (by kernel_rfl)) ?_
  intro W base args ds gs before hval0 hW hcnd _
  have hval : ∀ (j : Nat) t v, Try.f5.params[j]? = some t → args[j]? = some v → Value.okWide Try.prog W .any base t v := hval0
  have hW' := hW
  obtain ⟨p, q, hA0, hV, rfl, hfz, hnd⟩ := hW
  have hA : DataW.TrodAll enc Try.prog W 0 (fun _ => true) true Try.f5.params.toList args.toList ds p := hA0
  rw [Try.params5] at hA hval
  obtain ⟨v0, vs0, d0, ds0, p0, q0, hargs, rfl, rfl, h0, r0⟩ := trodAll_cons hA
  obtain ⟨v1, vs1, d1, ds1, p1, q1, rfl, rfl, rfl, h1, r1⟩ := trodAll_cons r0
  obtain ⟨rfl, rfl, rfl⟩ := trodAll_nil r1
  obtain rfl : args = #[v0, v1] := by cases args; simp_all
  obtain ⟨rfl, rfl⟩ := trodVars_none hV
  have lt0 : ∀ x ∈ p0, x.block < W.heap.size := by obtain ⟨m, hm⟩ := h0; exact DataW.trod_lt m _ _ _ hm
  obtain ⟨A0, n0, c0, b0, hv0, hs0⟩ := open_bytes Try.underlying31 Try.underlying5 (by kernel_rfl) (hval 0 31 v0 rfl rfl) h0
  subst hv0
  have lt1 : ∀ x ∈ p1, x.block < W.heap.size := by obtain ⟨m, hm⟩ := h1; exact DataW.trod_lt m _ _ _ hm
  obtain ⟨x1, hv1, hs1⟩ := open_i64 Try.underlying3 (hval 1 3 v1 rfl rfl) h1
  subst hv1
  clear hA0 hval0
  refine (walk A0 n0 c0 b0 x1 W hs0 hs1).mono fun e W' ⟨he, bel⟩ => ?_
  subst he
  exact ⟨_, rfl, _, _, _, [], _, [], hW', trodAll_mk1 (shut_bool Try.underlying4 _), (trodAll_cons_mk (Below.trod laidOut (by kernel_rfl) (of_decide_eq_true (by kernel_rfl)) h0 bel lt0) (trodAll_cons_mk (Below.trod laidOut (by kernel_rfl) (of_decide_eq_true (by kernel_rfl)) h1 bel lt1) trodAll_mk0)), rfl, bel.frame _, fun h => by cases h⟩
theorem over : Rows.fnExactGetValRow.holds Try.pinned (OpenSpec.ofChange Rows.fnExactGetValSpec) :=
  OpenClaim.holds_of_wide 5 Try.f5 rfl rfl rfl rfl rfl rfl rfl ⟨rfl, rfl, rfl, rfl, rfl⟩ rfl rfl rfl rfl rfl (by kernel_rfl) Try.func5 (by kernel_rfl)
    (of_decide_eq_true (by kernel_rfl)) (by unfold Func.isWrapper; first | (rw [if_pos (by decide +kernel)]; kernel_rfl) | (rw [if_neg (by decide +kernel)]; exact ⟨rfl, rfl⟩))
    (fun os started H enc _ => lifted os started H enc)
theorem proved : Rows.FnExactGetValSaid := over
end Go.Proofs.Ytdcfkohgijahcaa.fnExactGetVal
