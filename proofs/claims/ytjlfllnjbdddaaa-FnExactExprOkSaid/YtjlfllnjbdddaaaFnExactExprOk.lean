/- The law FnExactExprOk returns true at every input, and leaves what it was given as it was. No condition. -/
import Derived.Test.YtjlfllnjbdddaaaReadE
import Derived.Test.YtjlfllnjbdddaaaExprOk
import Derived.Test.YtjlfllnjbdddaaaRows
import Derived.Test.YtjlfllnjbdddaaaRead
namespace Go.Proofs.Ytjlfllnjbdddaaa.fnExactExprOk
open Go.ChangeShapes Go.WideShapes Go.ChangeAt Go.RowKit
open Go.ChangeMaps (open_string shut_string)
set_option linter.unusedVariables false
set_option maxRecDepth 100000
set_option maxHeartbeats 20000000

theorem walk (op0 : ByteArray) (lk0 : Int) (ls0 : ByteArray) (lvk0 : Int) (lvn0 : Int) (lvs0 : ByteArray) (rk0 : Int) (rs0 : ByteArray) (rvk0 : Int) (rvn0 : Int) (rvs0 : ByteArray) (W : World) (hs0 : op0.size ≤ 9223372036854775807 ∧ ls0.size ≤ 9223372036854775807 ∧ lvs0.size ≤ 9223372036854775807 ∧ rs0.size ≤ 9223372036854775807 ∧ rvs0.size ≤ 9223372036854775807) :
    Calls Try.prog 10 #[.agg #[.string op0, .int .i64 lk0, .string ls0, .int .i64 lvk0, .int .i64 lvn0, .string lvs0, .int .i64 rk0, .string rs0, .int .i64 rvk0, .int .i64 rvn0, .string rvs0]] W fun e w' => e = .returned (.bool true) ∧ Below W.heap.size W w' := by
  obtain ⟨hs0a, hs0b, hs0c, hs0d, hs0e⟩ := hs0
  by_cases bz0 : (1048576 : Int) < ((szE ⟨op0, ⟨lk0, ls0, ⟨lvk0, lvn0, lvs0⟩⟩, ⟨rk0, rs0, ⟨rvk0, rvn0, rvs0⟩⟩⟩) : Int)
  · have HB := Lib.hid (szR_big bz0)
    go_enter Try.func10, Try.ntmps10
    go_wp2_with fail
    refine (szExpr_any op0 lk0 ls0 lvk0 lvn0 lvs0 rk0 rs0 rvk0 rvn0 rvs0 _ _ hs0a hs0b hs0c hs0d hs0e (by omega) (by omega)).mono ?_
    rw [HB.out]
    rintro e w1 ⟨rfl, hb⟩
    have g_w1 : Below W.heap.size W w1 := (by repeat (first | with_reducible exact bel_refl _ | with_reducible assumption | with_reducible refine bel_set ?_ (by first | (simp; done) | (simp; omega) | omega) _ | with_reducible refine bel_alloc ?_ _ | with_reducible refine bel_drew ?_ | with_reducible refine bel_drewN ?_ _ | with_reducible refine bel_trans ?_ (by assumption)))
    have b0_0 := old_cell hb (b := W.heap.size) (o := 0) (v := .string op0) (by go_simp)
    have b0_1 := old_cell hb (b := W.heap.size) (o := 1) (v := .int .i64 lk0) (by go_simp)
    have b0_2 := old_cell hb (b := W.heap.size) (o := 2) (v := .string ls0) (by go_simp)
    have b0_3 := old_cell hb (b := W.heap.size) (o := 3) (v := .int .i64 lvk0) (by go_simp)
    have b0_4 := old_cell hb (b := W.heap.size) (o := 4) (v := .int .i64 lvn0) (by go_simp)
    have b0_5 := old_cell hb (b := W.heap.size) (o := 5) (v := .string lvs0) (by go_simp)
    have b0_6 := old_cell hb (b := W.heap.size) (o := 6) (v := .int .i64 rk0) (by go_simp)
    have b0_7 := old_cell hb (b := W.heap.size) (o := 7) (v := .string rs0) (by go_simp)
    have b0_8 := old_cell hb (b := W.heap.size) (o := 8) (v := .int .i64 rvk0) (by go_simp)
    have b0_9 := old_cell hb (b := W.heap.size) (o := 9) (v := .int .i64 rvn0) (by go_simp)
    have b0_10 := old_cell hb (b := W.heap.size) (o := 10) (v := .string rvs0) (by go_simp)
    have zs_w1 := g_w1.size
    have gW := g_w1
    clear hb g_w1
    have z_b0_0 : W.heap.size < w1.heap.size := cell_lt b0_0
    go_wp2
    go_ret
    exact ⟨rfl, gW⟩
  have HF0 := Lib.hid (szR_fit (Int.not_lt.1 bz0))
  obtain ⟨r, hr⟩ : ∃ r, exprOk ⟨op0, ⟨lk0, ls0, ⟨lvk0, lvn0, lvs0⟩⟩, ⟨rk0, rs0, ⟨rvk0, rvn0, rvs0⟩⟩⟩ = r := ⟨_, rfl⟩
  have HR := Lib.hid hr; clear hr
  go_enter Try.func10, Try.ntmps10
  go_wp2_with fail
  refine (szExpr_any op0 lk0 ls0 lvk0 lvn0 lvs0 rk0 rs0 rvk0 rvn0 rvs0 _ _ hs0a hs0b hs0c hs0d hs0e (by omega) (by omega)).mono ?_
  rw [HF0.out]
  rintro e w2 ⟨rfl, hb⟩
  have g_w2 : Below W.heap.size W w2 := (by repeat (first | with_reducible exact bel_refl _ | with_reducible assumption | with_reducible refine bel_set ?_ (by first | (simp; done) | (simp; omega) | omega) _ | with_reducible refine bel_alloc ?_ _ | with_reducible refine bel_drew ?_ | with_reducible refine bel_drewN ?_ _ | with_reducible refine bel_trans ?_ (by assumption)))
  have b0_0 := old_cell hb (b := W.heap.size) (o := 0) (v := .string op0) (by go_simp)
  have b0_1 := old_cell hb (b := W.heap.size) (o := 1) (v := .int .i64 lk0) (by go_simp)
  have b0_2 := old_cell hb (b := W.heap.size) (o := 2) (v := .string ls0) (by go_simp)
  have b0_3 := old_cell hb (b := W.heap.size) (o := 3) (v := .int .i64 lvk0) (by go_simp)
  have b0_4 := old_cell hb (b := W.heap.size) (o := 4) (v := .int .i64 lvn0) (by go_simp)
  have b0_5 := old_cell hb (b := W.heap.size) (o := 5) (v := .string lvs0) (by go_simp)
  have b0_6 := old_cell hb (b := W.heap.size) (o := 6) (v := .int .i64 rk0) (by go_simp)
  have b0_7 := old_cell hb (b := W.heap.size) (o := 7) (v := .string rs0) (by go_simp)
  have b0_8 := old_cell hb (b := W.heap.size) (o := 8) (v := .int .i64 rvk0) (by go_simp)
  have b0_9 := old_cell hb (b := W.heap.size) (o := 9) (v := .int .i64 rvn0) (by go_simp)
  have b0_10 := old_cell hb (b := W.heap.size) (o := 10) (v := .string rvs0) (by go_simp)
  have zs_w2 := g_w2.size
  have gW := g_w2
  clear hb g_w2
  have z_b0_0 : W.heap.size < w2.heap.size := cell_lt b0_0
  go_wp2_with fail
  refine (toExpr_any op0 lk0 ls0 lvk0 lvn0 lvs0 rk0 rs0 rvk0 rvn0 rvs0 _).mono ?_
  rintro e w3 ⟨rfl, hb⟩
  have g_w3 : Below w2.heap.size w2 w3 := (by repeat (first | with_reducible exact bel_refl _ | with_reducible assumption | with_reducible refine bel_set ?_ (by first | (simp; done) | (simp; omega) | omega) _ | with_reducible refine bel_alloc ?_ _ | with_reducible refine bel_drew ?_ | with_reducible refine bel_drewN ?_ _ | with_reducible refine bel_trans ?_ (by assumption)))
  replace b0_0 := old_cell g_w3 b0_0
  replace b0_1 := old_cell g_w3 b0_1
  replace b0_2 := old_cell g_w3 b0_2
  replace b0_3 := old_cell g_w3 b0_3
  replace b0_4 := old_cell g_w3 b0_4
  replace b0_5 := old_cell g_w3 b0_5
  replace b0_6 := old_cell g_w3 b0_6
  replace b0_7 := old_cell g_w3 b0_7
  replace b0_8 := old_cell g_w3 b0_8
  replace b0_9 := old_cell g_w3 b0_9
  replace b0_10 := old_cell g_w3 b0_10
  have zs_w3 := g_w3.size
  have gW : Below W.heap.size W w3 := bel_trans gW g_w3
  clear hb g_w3
  have z_b0_0 : W.heap.size < w3.heap.size := cell_lt b0_0
  go_wp2_with fail
  refine (specExprOk_any op0 lk0 ls0 lvk0 lvn0 lvs0 rk0 rs0 rvk0 rvn0 rvs0 _ hs0a hs0b hs0c hs0d hs0e).mono ?_
  rw [HR.out]
  rintro e w4 ⟨rfl, hb⟩
  have g_w4 : Below w3.heap.size w3 w4 := (by repeat (first | with_reducible exact bel_refl _ | with_reducible assumption | with_reducible refine bel_set ?_ (by first | (simp; done) | (simp; omega) | omega) _ | with_reducible refine bel_alloc ?_ _ | with_reducible refine bel_drew ?_ | with_reducible refine bel_drewN ?_ _ | with_reducible refine bel_trans ?_ (by assumption)))
  replace b0_0 := old_cell g_w4 b0_0
  replace b0_1 := old_cell g_w4 b0_1
  replace b0_2 := old_cell g_w4 b0_2
  replace b0_3 := old_cell g_w4 b0_3
  replace b0_4 := old_cell g_w4 b0_4
  replace b0_5 := old_cell g_w4 b0_5
  replace b0_6 := old_cell g_w4 b0_6
  replace b0_7 := old_cell g_w4 b0_7
  replace b0_8 := old_cell g_w4 b0_8
  replace b0_9 := old_cell g_w4 b0_9
  replace b0_10 := old_cell g_w4 b0_10
  have zs_w4 := g_w4.size
  have gW : Below W.heap.size W w4 := bel_trans gW g_w4
  clear hb g_w4
  have z_b0_0 : W.heap.size < w4.heap.size := cell_lt b0_0
  go_wp2_with fail
  refine (toExpr_any op0 lk0 ls0 lvk0 lvn0 lvs0 rk0 rs0 rvk0 rvn0 rvs0 _).mono ?_
  rintro e w5 ⟨rfl, hb⟩
  have g_w5 : Below w4.heap.size w4 w5 := (by repeat (first | with_reducible exact bel_refl _ | with_reducible assumption | with_reducible refine bel_set ?_ (by first | (simp; done) | (simp; omega) | omega) _ | with_reducible refine bel_alloc ?_ _ | with_reducible refine bel_drew ?_ | with_reducible refine bel_drewN ?_ _ | with_reducible refine bel_trans ?_ (by assumption)))
  replace b0_0 := old_cell g_w5 b0_0
  replace b0_1 := old_cell g_w5 b0_1
  replace b0_2 := old_cell g_w5 b0_2
  replace b0_3 := old_cell g_w5 b0_3
  replace b0_4 := old_cell g_w5 b0_4
  replace b0_5 := old_cell g_w5 b0_5
  replace b0_6 := old_cell g_w5 b0_6
  replace b0_7 := old_cell g_w5 b0_7
  replace b0_8 := old_cell g_w5 b0_8
  replace b0_9 := old_cell g_w5 b0_9
  replace b0_10 := old_cell g_w5 b0_10
  have zs_w5 := g_w5.size
  have gW : Below W.heap.size W w5 := bel_trans gW g_w5
  clear hb g_w5
  have z_b0_0 : W.heap.size < w5.heap.size := cell_lt b0_0
  go_wp2_with fail
  refine (implExprOk_any op0 lk0 ls0 lvk0 lvn0 lvs0 rk0 rs0 rvk0 rvn0 rvs0 _ hs0a hs0b hs0c hs0d hs0e).mono ?_
  rw [HR.out]
  rintro e w6 ⟨rfl, hb⟩
  have g_w6 : Below w5.heap.size w5 w6 := (by repeat (first | with_reducible exact bel_refl _ | with_reducible assumption | with_reducible refine bel_set ?_ (by first | (simp; done) | (simp; omega) | omega) _ | with_reducible refine bel_alloc ?_ _ | with_reducible refine bel_drew ?_ | with_reducible refine bel_drewN ?_ _ | with_reducible refine bel_trans ?_ (by assumption)))
  replace b0_0 := old_cell g_w6 b0_0
  replace b0_1 := old_cell g_w6 b0_1
  replace b0_2 := old_cell g_w6 b0_2
  replace b0_3 := old_cell g_w6 b0_3
  replace b0_4 := old_cell g_w6 b0_4
  replace b0_5 := old_cell g_w6 b0_5
  replace b0_6 := old_cell g_w6 b0_6
  replace b0_7 := old_cell g_w6 b0_7
  replace b0_8 := old_cell g_w6 b0_8
  replace b0_9 := old_cell g_w6 b0_9
  replace b0_10 := old_cell g_w6 b0_10
  have zs_w6 := g_w6.size
  have gW : Below W.heap.size W w6 := bel_trans gW g_w6
  clear hb g_w6
  have z_b0_0 : W.heap.size < w6.heap.size := cell_lt b0_0
  go_wp2
  go_ret
  exact ⟨rfl, gW⟩

theorem own : ownKnob Try.prog.godebug = none := by kernel_rfl
theorem laidOut : laidOutB Try.prog = true := by kernel_rfl
theorem lifted (os : Os) (started : os.Started) (H : Type) (enc : TypeId × Value → H) :
    ReturnsInHanded {} Try.checked os 10 .any (Rows.fnExactExprOkSpec.pre6 enc Try.prog Try.f10 Rows.fnExactExprOkRow.domain false) (Rows.fnExactExprOkSpec.post enc Try.prog Try.f10 false true false false) := by
  refine returnsInHanded_of_change (C := Try.checked) own started (by kernel_rfl) Try.func10
    (ChangeSpec.witness6 (enc := enc) (C := Try.checked) false ⟨#[], #[.agg #[.string ByteArray.empty, .int .i64 0, .string ByteArray.empty, .int .i64 0, .int .i64 0, .string ByteArray.empty, .int .i64 0, .string ByteArray.empty, .int .i64 0, .int .i64 0, .string ByteArray.empty]], []⟩ 8 (by kernel_rfl) (by kernel_rfl) (by kernel_rfl) (by kernel_rfl)) ?_
  intro W base args ds gs before hval0 hW hcnd _
  have hval : ∀ (j : Nat) t v, Try.f10.params[j]? = some t → args[j]? = some v → Value.okWide Try.prog W .any base t v := hval0
  have hW' := hW
  obtain ⟨p, q, hA0, hV, rfl, hfz, hnd⟩ := hW
  have hA : DataW.TrodAll enc Try.prog W 0 (fun _ => true) true Try.f10.params.toList args.toList ds p := hA0
  rw [Try.params10] at hA hval
  obtain ⟨v0, vs0, d0, ds0, p0, q0, hargs, rfl, rfl, h0, r0⟩ := trodAll_cons hA
  obtain ⟨rfl, rfl, rfl⟩ := trodAll_nil r0
  obtain rfl : args = #[v0] := by cases args; simp_all
  obtain ⟨rfl, rfl⟩ := trodVars_none hV
  have lt0 : ∀ x ∈ p0, x.block < W.heap.size := by obtain ⟨m, hm⟩ := h0; exact DataW.trod_lt m _ _ _ hm
  obtain ⟨op0, lk0, ls0, lvk0, lvn0, lvs0, rk0, rs0, rvk0, rvn0, rvs0, hv0, hs0⟩ := open_expr (hval 0 83 v0 rfl rfl) h0
  subst hv0
  clear hA0 hval0
  refine (walk op0 lk0 ls0 lvk0 lvn0 lvs0 rk0 rs0 rvk0 rvn0 rvs0 W hs0).mono fun e W' ⟨he, bel⟩ => ?_
  subst he
  exact ⟨_, rfl, _, _, _, [], _, [], hW', trodAll_mk1 (shut_bool Try.underlying4 _), (trodAll_cons_mk (Below.trod laidOut (by kernel_rfl) (of_decide_eq_true (by kernel_rfl)) h0 bel lt0) trodAll_mk0), rfl, bel.frame _, fun h => by cases h⟩
theorem over : Rows.fnExactExprOkRow.holds Try.pinned (OpenSpec.ofChange Rows.fnExactExprOkSpec) :=
  OpenClaim.holds_of_wide 10 Try.f10 rfl rfl rfl rfl rfl rfl rfl ⟨rfl, rfl, rfl, rfl, rfl⟩ rfl rfl rfl rfl rfl (by kernel_rfl) Try.func10 (by kernel_rfl)
    (of_decide_eq_true (by kernel_rfl)) (by unfold Func.isWrapper; first | (rw [if_pos (by decide +kernel)]; kernel_rfl) | (rw [if_neg (by decide +kernel)]; exact ⟨rfl, rfl⟩))
    (fun os started H enc _ => lifted os started H enc)
theorem proved : Rows.FnExactExprOkSaid := over
end Go.Proofs.Ytjlfllnjbdddaaa.fnExactExprOk
