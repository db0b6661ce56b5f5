/- The law FnExactFactOk returns true at every input, and leaves what it was given as it was. No condition. -/
import Derived.Test.YtdcfkohgijahcaaRead2
import Derived.Test.YtdcfkohgijahcaaFact3
import Derived.Test.YtdcfkohgijahcaaRows
import Derived.Test.YtdcfkohgijahcaaRead
namespace Go.Proofs.Ytdcfkohgijahcaa.fnExactFactOk
open Go.ChangeShapes Go.WideShapes Go.ChangeAt Go.RowKit
open Go.ChangeMaps (open_string shut_string)
set_option linter.unusedVariables false
set_option maxRecDepth 100000
set_option maxHeartbeats 20000000

theorem walk (kd0 : ByteArray) (A0 : Option Addr) (n0 c0 : Nat) (xs0 : List Vl) (W : World) (hs0 : n0 ≤ c0 ∧ c0 ≤ 9223372036854775807 ∧ kd0.size ≤ 9223372036854775807 ∧ RdS vC 3 W W.heap.size A0 n0 xs0 ∧ ∀ a ∈ xs0, a.s.size ≤ 9223372036854775807) :
    Calls Try.prog 10 #[.agg #[.string kd0, .slice A0 n0 c0]] W fun e w' => e = .returned (.bool true) ∧ Below W.heap.size W w' := by
  obtain ⟨hnc0, hc0, hk0, hr0, hz0⟩ := hs0
  obtain rfl : n0 = xs0.length := hr0.len.symm
  have HZ0 := Lib.hid hz0; clear hz0
  by_cases bz0 : (1048576 : Int) < ((totF ⟨kd0, xs0⟩) : Int)
  · have HB := Lib.hid (szR_big bz0)
    go_enter Try.func10, Try.ntmps10
    go_wp2_with fail
    refine (szFact_any kd0 A0 _ c0 _ xs0 _ _ (hr0.alloc _) (by omega) hk0 HZ0.out (by omega) (by omega)).mono ?_
    rw [HB.out]
    rintro e w1 ⟨rfl, hb⟩
    have g_w1 : Below W.heap.size W w1 := (by repeat (first | exact bel_refl _ | assumption | refine bel_alloc ?_ _ | refine bel_drew ?_ | refine bel_drewN ?_ _ | refine bel_trans ?_ (by assumption) | refine bel_set ?_ (by first | (simp; done) | (simp; omega) | omega) _))
    have b0_0 := old_cell hb (b := W.heap.size) (o := 0) (v := .string kd0) (by go_simp)
    have b0_1 := old_cell hb (b := W.heap.size) (o := 1) (v := .slice A0 xs0.length c0) (by go_simp)
    replace hr0 := hr0.kept g_w1
    have gW := g_w1
    clear hb g_w1
    go_wp2
    go_ret
    exact ⟨rfl, gW⟩
  have HF0 := Lib.hid (szR_fit (Int.not_lt.1 bz0))
  have hl0 : xs0.length ≤ 1048576 := by unfold totF totV at bz0; simp only at bz0; omega
  obtain ⟨r, hr⟩ : ∃ r, factOk ⟨kd0, xs0⟩ = r := ⟨_, rfl⟩
  have HR := Lib.hid hr; clear hr
  go_enter Try.func10, Try.ntmps10
  go_wp2_with fail
  refine (szFact_any kd0 A0 _ c0 _ xs0 _ _ (hr0.alloc _) (by omega) hk0 HZ0.out (by omega) (by omega)).mono ?_
  rw [HF0.out]
  rintro e w2 ⟨rfl, hb⟩
  have g_w2 : Below W.heap.size W w2 := (by repeat (first | exact bel_refl _ | assumption | refine bel_alloc ?_ _ | refine bel_drew ?_ | refine bel_drewN ?_ _ | refine bel_trans ?_ (by assumption) | refine bel_set ?_ (by first | (simp; done) | (simp; omega) | omega) _))
  have b0_0 := old_cell hb (b := W.heap.size) (o := 0) (v := .string kd0) (by go_simp)
  have b0_1 := old_cell hb (b := W.heap.size) (o := 1) (v := .slice A0 xs0.length c0) (by go_simp)
  replace hr0 := hr0.kept g_w2
  have gW := g_w2
  clear hb g_w2
  go_wp2_with fail
  refine (toFact_any kd0 A0 _ c0 xs0 _ _ hr0 (by omega)).mono ?_
  rintro e w3 ⟨v_3, rfl, ho_3, hb⟩
  obtain ⟨A_3, c_3, rfl, hc_3, hr_3⟩ := ho_3.rd
  have g_w3 : Below w2.heap.size w2 w3 := (by repeat (first | exact bel_refl _ | assumption | refine bel_alloc ?_ _ | refine bel_drew ?_ | refine bel_drewN ?_ _ | refine bel_trans ?_ (by assumption) | refine bel_set ?_ (by first | (simp; done) | (simp; omega) | omega) _))
  replace b0_0 := old_cell g_w3 b0_0
  replace b0_1 := old_cell g_w3 b0_1
  replace hr0 := hr0.kept g_w3
  have gW : Below W.heap.size W w3 := bel_trans gW g_w3
  clear hb g_w3
  go_wp2_with fail
  refine (specFactOk_any kd0 A_3 _ c_3 xs0 _ _ hr_3 (by omega) (by omega) HZ0.out).mono ?_
  rw [HR.out]
  rintro e w4 ⟨rfl, hb⟩
  have g_w4 : Below w3.heap.size w3 w4 := (by repeat (first | exact bel_refl _ | assumption | refine bel_alloc ?_ _ | refine bel_drew ?_ | refine bel_drewN ?_ _ | refine bel_trans ?_ (by assumption) | refine bel_set ?_ (by first | (simp; done) | (simp; omega) | omega) _))
  replace b0_0 := old_cell g_w4 b0_0
  replace b0_1 := old_cell g_w4 b0_1
  replace hr0 := hr0.kept g_w4
  replace hr_3 := hr_3.kept g_w4
  have gW : Below W.heap.size W w4 := bel_trans gW g_w4
  clear hb g_w4
  go_wp2_with fail
  refine (toFact_any kd0 A0 _ c0 xs0 _ _ hr0 (by omega)).mono ?_
  rintro e w5 ⟨v_5, rfl, ho_5, hb⟩
  obtain ⟨A_5, c_5, rfl, hc_5, hr_5⟩ := ho_5.rd
  have g_w5 : Below w4.heap.size w4 w5 := (by repeat (first | exact bel_refl _ | assumption | refine bel_alloc ?_ _ | refine bel_drew ?_ | refine bel_drewN ?_ _ | refine bel_trans ?_ (by assumption) | refine bel_set ?_ (by first | (simp; done) | (simp; omega) | omega) _))
  replace b0_0 := old_cell g_w5 b0_0
  replace b0_1 := old_cell g_w5 b0_1
  replace hr0 := hr0.kept g_w5
  replace hr_3 := hr_3.kept g_w5
  have gW : Below W.heap.size W w5 := bel_trans gW g_w5
  clear hb g_w5
  go_wp2_with fail
  refine (implFactOk_any kd0 A_5 _ c_5 xs0 _ _ (hr_5.alloc _) (by omega) (by omega) HZ0.out).mono ?_
  rw [HR.out]
  rintro e w6 ⟨rfl, hb⟩
  have g_w6 : Below w5.heap.size w5 w6 := (by repeat (first | exact bel_refl _ | assumption | refine bel_alloc ?_ _ | refine bel_drew ?_ | refine bel_drewN ?_ _ | refine bel_trans ?_ (by assumption) | refine bel_set ?_ (by first | (simp; done) | (simp; omega) | omega) _))
  have b1_0 := old_cell hb (b := w5.heap.size) (o := 0) (v := .string kd0) (by go_simp)
  have b1_1 := old_cell hb (b := w5.heap.size) (o := 1) (v := .slice A_5 xs0.length c_5) (by go_simp)
  replace b0_0 := old_cell g_w6 b0_0
  replace b0_1 := old_cell g_w6 b0_1
  replace hr0 := hr0.kept g_w6
  replace hr_3 := hr_3.kept g_w6
  replace hr_5 := hr_5.kept g_w6
  have gW : Below W.heap.size W w6 := bel_trans gW g_w6
  clear hb g_w6
  go_wp2_with fail
  go_region_held3 (fun w' => Below w6.heap.size w6 w' ∧ w'.cell? ⟨W.heap.size, 0, none⟩ = some (.string kd0) ∧ w'.cell? ⟨W.heap.size, 1, none⟩ = some (.slice A0 xs0.length c0) ∧ w'.cell? ⟨w5.heap.size, 0, none⟩ = some (.string kd0) ∧ w'.cell? ⟨w5.heap.size, 1, none⟩ = some (.slice A_5 xs0.length c_5)) (((refine (fun hB => ⟨hB, old_cell hB b0_0, old_cell hB b0_1, old_cell hB b1_0, old_cell hB b1_1⟩ : Below w6.heap.size w6 _ → _) ?_); (repeat (first | exact bel_refl _ | exact bel_drew (bel_refl _) | exact bel_trans (And.left (by assumption)) (by assumption) | assumption))))
    ((first | (go_at_call 33; (with_reducible refine (toFact_any kd0 A0 _ c0 xs0 _ _ (hr0.kept (And.left (by assumption))) (by omega)).mono ?_); rintro e w7 ⟨v_7, rfl, ho_7, hb⟩; obtain ⟨A_7, c_7, rfl, hc_7, hr_7⟩ := ho_7.rd) | (go_at_call 35; (with_reducible refine (eqFact_any kd0 kd0 A_5 A_7 _ c_5 _ c_7 xs0 xs0 _ _ _ (hr_5.kept (And.left (by assumption))) hr_7 (by omega)).mono ?_); rw [decide_eq_true rfl]; rintro e w8 ⟨rfl, hb⟩; (try replace hr_7 := hr_7.kept hb))))
  rename_i hHeld
  obtain ⟨hB, _⟩ := hHeld
  replace b0_0 := old_cell hB b0_0
  replace b0_1 := old_cell hB b0_1
  replace b1_0 := old_cell hB b1_0
  replace b1_1 := old_cell hB b1_1
  replace hr0 := hr0.kept hB
  replace hr_3 := hr_3.kept hB
  replace hr_5 := hr_5.kept hB
  replace gW := bel_trans gW hB
  clear hB
  go_wp2
  go_ret
  exact ⟨rfl, gW⟩

theorem own : ownKnob Try.prog.godebug = none := by kernel_rfl
theorem laidOut : laidOutB Try.prog = true := by kernel_rfl
theorem lifted (os : Os) (started : os.Started) (H : Type) (enc : TypeId × Value → H) :
    ReturnsInHanded {} Try.checked os 10 .any (Rows.fnExactFactOkSpec.pre6 enc Try.prog Try.f10 Rows.fnExactFactOkRow.domain false) (Rows.fnExactFactOkSpec.post enc Try.prog Try.f10 false true false false) := by
  refine returnsInHanded_of_change (C := Try.checked) own started (by kernel_rfl) Try.func10
    (ChangeSpec.witness6 (enc := enc) (C := Try.checked) false ⟨#[], #[.agg #[.string ByteArray.empty, .slice none 0 0]], []⟩ 8 (by kernel_rfl) (by kernel_rfl) (by kernel_rfl) (by kernel_rfl)) ?_
  intro W base args ds gs before hval0 hW hcnd _
  have hval : ∀ (j : Nat) t v, Try.f10.params[j]? = some t → args[j]? = some v → Value.okWide Try.prog W .any base t v := hval0
  have hW' := hW
  obtain ⟨p, q, hA0, hV, rfl, hfz, hnd⟩ := hW
  have hA : DataW.TrodAll enc Try.prog W 0 (fun _ => true) true Try.f10.params.toList args.toList ds p := hA0
  rw [Try.params10] at hA hval
  obtain ⟨v0, vs0, d0, ds0, p0, q0, hargs, rfl, rfl, h0, r0⟩ := trodAll_cons hA
  obtain ⟨rfl, rfl, rfl⟩ := trodAll_nil r0
  obtain rfl : args = #[v0] := by cases args; simp_all
  obtain ⟨rfl, rfl⟩ := trodVars_none hV
  have lt0 : ∀ x ∈ p0, x.block < W.heap.size := by obtain ⟨m, hm⟩ := h0; exact DataW.trod_lt m _ _ _ hm
  obtain ⟨kd0, A0, n0, c0, xs0, hv0, hs0⟩ := open_fact (hval 0 45 v0 rfl rfl) h0
  subst hv0
  clear hA0 hval0
  refine (walk kd0 A0 n0 c0 xs0 W hs0).mono fun e W' ⟨he, bel⟩ => ?_
  subst he
  exact ⟨_, rfl, _, _, _, [], _, [], hW', trodAll_mk1 (shut_bool Try.underlying4 _), (trodAll_cons_mk (Below.trod laidOut (by kernel_rfl) (of_decide_eq_true (by kernel_rfl)) h0 bel lt0) trodAll_mk0), rfl, bel.frame _, fun h => by cases h⟩
theorem over : Rows.fnExactFactOkRow.holds Try.pinned (OpenSpec.ofChange Rows.fnExactFactOkSpec) :=
  OpenClaim.holds_of_wide 10 Try.f10 rfl rfl rfl rfl rfl rfl rfl ⟨rfl, rfl, rfl, rfl, rfl⟩ rfl rfl rfl rfl rfl (by kernel_rfl) Try.func10 (by kernel_rfl)
    (of_decide_eq_true (by kernel_rfl)) (by unfold Func.isWrapper; first | (rw [if_pos (by decide +kernel)]; kernel_rfl) | (rw [if_neg (by decide +kernel)]; exact ⟨rfl, rfl⟩))
    (fun os started H enc _ => lifted os started H enc)
theorem proved : Rows.FnExactFactOkSaid := over
end Go.Proofs.Ytdcfkohgijahcaa.fnExactFactOk
