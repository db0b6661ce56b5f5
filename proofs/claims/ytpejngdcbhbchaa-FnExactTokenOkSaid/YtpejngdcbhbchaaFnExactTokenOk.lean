/- The law FnExactTokenOk returns true at every input, and leaves what it was given as it was. No condition. -/
import Derived.Test.YtpejngdcbhbchaaRead
import Derived.Test.YtpejngdcbhbchaaTokenOk
import Derived.Test.YtpejngdcbhbchaaToken
import Derived.Test.YtpejngdcbhbchaaStep
import Derived.Test.YtpejngdcbhbchaaRows
import Derived.Test.YtpejngdcbhbchaaRead
namespace Go.Proofs.Ytpejngdcbhbchaa.fnExactTokenOk
open Go.ChangeShapes Go.WideShapes Go.ChangeAt Go.RowKit
open Go.ChangeMaps (open_string shut_string)
set_option linter.unusedVariables false
set_option maxRecDepth 100000
set_option maxHeartbeats 20000000

theorem walk (k0 : Int) (n0 : Int) (s0 : ByteArray) (W : World) (hs0 : s0.size ≤ 9223372036854775807) :
    Calls Try.prog 6 #[.agg #[.int .i64 k0, .int .i64 n0, .string s0]] W fun e w' => e = .returned (.bool true) ∧ Below W.heap.size W w' := by
  by_cases bz0 : (1048576 : Int) < (s0.size : Int)
  · have HB := Lib.hid (szR_big bz0)
    go_enter Try.func6, Try.ntmps6
    go_wp2_with fail
    refine (szToken_any k0 n0 s0 _ _ hs0 (by omega) (by omega)).mono ?_
    rw [HB.out]
    rintro e w1 ⟨rfl, hb⟩
    have g_w1 : Below W.heap.size W w1 := (by repeat (first | with_reducible exact bel_refl _ | with_reducible assumption | with_reducible refine bel_set ?_ (by first | (simp; done) | (simp; omega) | omega) _ | with_reducible refine bel_alloc ?_ _ | with_reducible refine bel_drew ?_ | with_reducible refine bel_drewN ?_ _ | with_reducible refine bel_trans ?_ (by assumption)))
    have b0_0 := old_cell hb (b := W.heap.size) (o := 0) (v := .int .i64 k0) (by go_simp)
    have b0_1 := old_cell hb (b := W.heap.size) (o := 1) (v := .int .i64 n0) (by go_simp)
    have b0_2 := old_cell hb (b := W.heap.size) (o := 2) (v := .string s0) (by go_simp)
    have zs_w1 := g_w1.size
    have gW := g_w1
    clear hb g_w1
    have z_b0_0 : W.heap.size < w1.heap.size := cell_lt b0_0
    go_wp2
    go_ret
    exact ⟨rfl, gW⟩
  have HF0 := Lib.hid (szR_fit (Int.not_lt.1 bz0))
  obtain ⟨r, hr⟩ : ∃ r, tokenOk ⟨k0, n0, s0⟩ = r := ⟨_, rfl⟩
  have HR := Lib.hid hr; clear hr
  go_enter Try.func6, Try.ntmps6
  go_wp2_with fail
  refine (szToken_any k0 n0 s0 _ _ hs0 (by omega) (by omega)).mono ?_
  rw [HF0.out]
  rintro e w2 ⟨rfl, hb⟩
  have g_w2 : Below W.heap.size W w2 := (by repeat (first | with_reducible exact bel_refl _ | with_reducible assumption | with_reducible refine bel_set ?_ (by first | (simp; done) | (simp; omega) | omega) _ | with_reducible refine bel_alloc ?_ _ | with_reducible refine bel_drew ?_ | with_reducible refine bel_drewN ?_ _ | with_reducible refine bel_trans ?_ (by assumption)))
  have b0_0 := old_cell hb (b := W.heap.size) (o := 0) (v := .int .i64 k0) (by go_simp)
  have b0_1 := old_cell hb (b := W.heap.size) (o := 1) (v := .int .i64 n0) (by go_simp)
  have b0_2 := old_cell hb (b := W.heap.size) (o := 2) (v := .string s0) (by go_simp)
  have zs_w2 := g_w2.size
  have gW := g_w2
  clear hb g_w2
  have z_b0_0 : W.heap.size < w2.heap.size := cell_lt b0_0
  go_wp2_with fail
  refine (toToken_any k0 n0 s0 _).mono ?_
  rintro e w3 ⟨rfl, hb⟩
  have g_w3 : Below w2.heap.size w2 w3 := (by repeat (first | with_reducible exact bel_refl _ | with_reducible assumption | with_reducible refine bel_set ?_ (by first | (simp; done) | (simp; omega) | omega) _ | with_reducible refine bel_alloc ?_ _ | with_reducible refine bel_drew ?_ | with_reducible refine bel_drewN ?_ _ | with_reducible refine bel_trans ?_ (by assumption)))
  replace b0_0 := old_cell g_w3 b0_0
  replace b0_1 := old_cell g_w3 b0_1
  replace b0_2 := old_cell g_w3 b0_2
  have zs_w3 := g_w3.size
  have gW : Below W.heap.size W w3 := bel_trans gW g_w3
  clear hb g_w3
  have z_b0_0 : W.heap.size < w3.heap.size := cell_lt b0_0
  go_wp2_with fail
  refine (specTokenOk_any k0 n0 s0 _ hs0).mono ?_
  rw [HR.out]
  rintro e w4 ⟨rfl, hb⟩
  have g_w4 : Below w3.heap.size w3 w4 := (by repeat (first | with_reducible exact bel_refl _ | with_reducible assumption | with_reducible refine bel_set ?_ (by first | (simp; done) | (simp; omega) | omega) _ | with_reducible refine bel_alloc ?_ _ | with_reducible refine bel_drew ?_ | with_reducible refine bel_drewN ?_ _ | with_reducible refine bel_trans ?_ (by assumption)))
  replace b0_0 := old_cell g_w4 b0_0
  replace b0_1 := old_cell g_w4 b0_1
  replace b0_2 := old_cell g_w4 b0_2
  have zs_w4 := g_w4.size
  have gW : Below W.heap.size W w4 := bel_trans gW g_w4
  clear hb g_w4
  have z_b0_0 : W.heap.size < w4.heap.size := cell_lt b0_0
  go_wp2_with fail
  refine (toToken_any k0 n0 s0 _).mono ?_
  rintro e w5 ⟨rfl, hb⟩
  have g_w5 : Below w4.heap.size w4 w5 := (by repeat (first | with_reducible exact bel_refl _ | with_reducible assumption | with_reducible refine bel_set ?_ (by first | (simp; done) | (simp; omega) | omega) _ | with_reducible refine bel_alloc ?_ _ | with_reducible refine bel_drew ?_ | with_reducible refine bel_drewN ?_ _ | with_reducible refine bel_trans ?_ (by assumption)))
  replace b0_0 := old_cell g_w5 b0_0
  replace b0_1 := old_cell g_w5 b0_1
  replace b0_2 := old_cell g_w5 b0_2
  have zs_w5 := g_w5.size
  have gW : Below W.heap.size W w5 := bel_trans gW g_w5
  clear hb g_w5
  have z_b0_0 : W.heap.size < w5.heap.size := cell_lt b0_0
  go_wp2_with fail
  refine (implTokenOk_any k0 n0 s0 _ hs0).mono ?_
  rw [HR.out]
  rintro e w6 ⟨rfl, hb⟩
  have g_w6 : Below w5.heap.size w5 w6 := (by repeat (first | with_reducible exact bel_refl _ | with_reducible assumption | with_reducible refine bel_set ?_ (by first | (simp; done) | (simp; omega) | omega) _ | with_reducible refine bel_alloc ?_ _ | with_reducible refine bel_drew ?_ | with_reducible refine bel_drewN ?_ _ | with_reducible refine bel_trans ?_ (by assumption)))
  replace b0_0 := old_cell g_w6 b0_0
  replace b0_1 := old_cell g_w6 b0_1
  replace b0_2 := old_cell g_w6 b0_2
  have zs_w6 := g_w6.size
  have gW : Below W.heap.size W w6 := bel_trans gW g_w6
  clear hb g_w6
  have z_b0_0 : W.heap.size < w6.heap.size := cell_lt b0_0
  go_wp2
  go_ret
  exact ⟨rfl, gW⟩

theorem own : ownKnob Try.prog.godebug = none := by kernel_rfl
theorem laidOut : laidOutB Try.prog = true := by kernel_rfl
theorem lifted (os : Os) (started : os.Started) (H : Type) (enc : TypeId × Value → H) :
    ReturnsInHanded {} Try.checked os 6 .any (Rows.fnExactTokenOkSpec.pre6 enc Try.prog Try.f6 Rows.fnExactTokenOkRow.domain false) (Rows.fnExactTokenOkSpec.post enc Try.prog Try.f6 false true false false) := by
  refine returnsInHanded_of_change (C := Try.checked) own started (by kernel_rfl) Try.func6
    (ChangeSpec.witness6 (enc := enc) (C := Try.checked) false ⟨#[], #[.agg #[.int .i64 0, .int .i64 0, .string ByteArray.empty]], []⟩ 8 (by kernel_rfl) (by kernel_rfl) (by kernel_rfl) (by kernel_rfl)) ?_
  intro W base args ds gs before hval0 hW hcnd _
  have hval : ∀ (j : Nat) t v, Try.f6.params[j]? = some t → args[j]? = some v → Value.okWide Try.prog W .any base t v := hval0
  have hW' := hW
  obtain ⟨p, q, hA0, hV, rfl, hfz, hnd⟩ := hW
  have hA : DataW.TrodAll enc Try.prog W 0 (fun _ => true) true Try.f6.params.toList args.toList ds p := hA0
  rw [Try.params6] at hA hval
  obtain ⟨v0, vs0, d0, ds0, p0, q0, hargs, rfl, rfl, h0, r0⟩ := trodAll_cons hA
  obtain ⟨rfl, rfl, rfl⟩ := trodAll_nil r0
  obtain rfl : args = #[v0] := by cases args; simp_all
  obtain ⟨rfl, rfl⟩ := trodVars_none hV
  have lt0 : ∀ x ∈ p0, x.block < W.heap.size := by obtain ⟨m, hm⟩ := h0; exact DataW.trod_lt m _ _ _ hm
  obtain ⟨k0, m0, s0, hv0, hs0⟩ := open_val Try.underlying45 Try.underlying3 Try.underlying3 Try.underlying9 (by kernel_rfl) (by kernel_rfl) (hval 0 45 v0 rfl rfl) h0
  subst hv0
  clear hA0 hval0
  refine (walk k0 m0 s0 W hs0).mono fun e W' ⟨he, bel⟩ => ?_
  subst he
  exact ⟨_, rfl, _, _, _, [], _, [], hW', trodAll_mk1 (shut_bool Try.underlying4 _), (trodAll_cons_mk (Below.trod laidOut (by kernel_rfl) (of_decide_eq_true (by kernel_rfl)) h0 bel lt0) trodAll_mk0), rfl, bel.frame _, fun h => by cases h⟩
theorem over : Rows.fnExactTokenOkRow.holds Try.pinned (OpenSpec.ofChange Rows.fnExactTokenOkSpec) :=
  OpenClaim.holds_of_wide 6 Try.f6 rfl rfl rfl rfl rfl rfl rfl ⟨rfl, rfl, rfl, rfl, rfl⟩ rfl rfl rfl rfl rfl (by kernel_rfl) Try.func6 (by kernel_rfl)
    (of_decide_eq_true (by kernel_rfl)) (by unfold Func.isWrapper; first | (rw [if_pos (by decide +kernel)]; kernel_rfl) | (rw [if_neg (by decide +kernel)]; exact ⟨rfl, rfl⟩))
    (fun os started H enc _ => lifted os started H enc)
theorem proved : Rows.FnExactTokenOkSaid := over
end Go.Proofs.Ytpejngdcbhbchaa.fnExactTokenOk
