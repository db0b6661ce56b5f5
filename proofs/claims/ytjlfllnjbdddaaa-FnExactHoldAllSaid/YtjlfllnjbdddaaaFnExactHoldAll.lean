/- The law FnExactHoldAll returns true at every input, and leaves what it was given as it was. No condition. -/
import Derived.Test.YtjlfllnjbdddaaaReadE
import Derived.Test.YtjlfllnjbdddaaaBindOf
import Derived.Test.YtjlfllnjbdddaaaRows
import Derived.Test.YtjlfllnjbdddaaaRead
namespace Go.Proofs.Ytjlfllnjbdddaaa.fnExactHoldAll
open Go.ChangeShapes Go.WideShapes Go.ChangeAt Go.RowKit
open Go.ChangeMaps (open_string shut_string)
set_option linter.unusedVariables false
set_option maxRecDepth 100000
set_option maxHeartbeats 20000000

theorem walk (A0 : Option Addr) (n0 c0 : Nat) (xs0 : List Cd) (A1 : Option Addr) (n1 c1 : Nat) (xs1 : List Bd) (W : World) (hs0 : n0 ≤ c0 ∧ c0 ≤ 9223372036854775807 ∧ RdS cC 11 W W.heap.size A0 n0 xs0 ∧ ∀ a ∈ xs0, goodC a) (hs1 : n1 ≤ c1 ∧ c1 ≤ 9223372036854775807 ∧ RdS bC 4 W W.heap.size A1 n1 xs1 ∧ ∀ a ∈ xs1, goodB a) :
    Calls Try.prog 12 #[.slice A0 n0 c0, .slice A1 n1 c1] W fun e w' => e = .returned (.bool true) ∧ Below W.heap.size W w' := by
  obtain ⟨hnc0, hc0, hr0, hz0⟩ := hs0
  obtain rfl : n0 = xs0.length := hr0.len.symm
  have HZ0 := Lib.hid hz0; clear hz0
  obtain ⟨hnc1, hc1, hr1, hz1⟩ := hs1
  obtain rfl : n1 = xs1.length := hr1.len.symm
  have HZ1 := Lib.hid hz1; clear hz1
  by_cases bz0 : (1048576 : Int) < ((totC xs0) : Int)
  · have HB := Lib.hid (szR_big bz0)
    go_enter Try.func12, Try.ntmps12
    go_wp2_with fail
    refine (szCondS_any A0 _ c0 _ xs0 _ _ hr0 (by omega) HZ0.out (by omega) (by omega)).mono ?_
    rw [HB.out]
    rintro e w1 ⟨rfl, hb⟩
    have g_w1 : Below W.heap.size W w1 := (by repeat (first | with_reducible exact bel_refl _ | with_reducible assumption | with_reducible refine bel_set ?_ (by first | (simp; done) | (simp; omega) | omega) _ | with_reducible refine bel_alloc ?_ _ | with_reducible refine bel_drew ?_ | with_reducible refine bel_drewN ?_ _ | with_reducible refine bel_trans ?_ (by assumption)))
    replace hr0 := hr0.kept g_w1
    replace hr1 := hr1.kept g_w1
    have zs_w1 := g_w1.size
    have gW := g_w1
    clear hb g_w1
    go_wp2
    go_ret
    exact ⟨rfl, gW⟩
  have HF0 := Lib.hid (szR_fit (Int.not_lt.1 bz0))
  by_cases bz1 : (1048576 : Int) - ((totC xs0) : Nat) < ((totB xs1) : Int)
  · have HB := Lib.hid (szR_big bz1)
    go_enter Try.func12, Try.ntmps12
    go_wp2_with fail
    refine (szCondS_any A0 _ c0 _ xs0 _ _ hr0 (by omega) HZ0.out (by omega) (by omega)).mono ?_
    rw [HF0.out]
    rintro e w2 ⟨rfl, hb⟩
    have g_w2 : Below W.heap.size W w2 := (by repeat (first | with_reducible exact bel_refl _ | with_reducible assumption | with_reducible refine bel_set ?_ (by first | (simp; done) | (simp; omega) | omega) _ | with_reducible refine bel_alloc ?_ _ | with_reducible refine bel_drew ?_ | with_reducible refine bel_drewN ?_ _ | with_reducible refine bel_trans ?_ (by assumption)))
    replace hr0 := hr0.kept g_w2
    replace hr1 := hr1.kept g_w2
    have zs_w2 := g_w2.size
    have gW := g_w2
    clear hb g_w2
    go_wp2_with fail
    refine (szBindS_any A1 _ c1 _ xs1 _ _ hr1 (by omega) HZ1.out (by omega) (by omega)).mono ?_
    rw [HB.out]
    rintro e w3 ⟨rfl, hb⟩
    have g_w3 : Below w2.heap.size w2 w3 := (by repeat (first | with_reducible exact bel_refl _ | with_reducible assumption | with_reducible refine bel_set ?_ (by first | (simp; done) | (simp; omega) | omega) _ | with_reducible refine bel_alloc ?_ _ | with_reducible refine bel_drew ?_ | with_reducible refine bel_drewN ?_ _ | with_reducible refine bel_trans ?_ (by assumption)))
    replace hr0 := hr0.kept g_w3
    replace hr1 := hr1.kept g_w3
    have zs_w3 := g_w3.size
    have gW : Below W.heap.size W w3 := bel_trans gW g_w3
    clear hb g_w3
    go_wp2
    go_ret
    exact ⟨rfl, gW⟩
  have HF1 := Lib.hid (szR_fit (Int.not_lt.1 bz1))
  have hl0 : xs0.length ≤ 1048576 := by unfold totC at bz0; omega
  have hl1 : xs1.length ≤ 1048576 := by unfold totB at bz1; omega
  obtain ⟨r, hr⟩ : ∃ r, holdAll xs0 xs1 = r := ⟨_, rfl⟩
  have HR := Lib.hid hr; clear hr
  go_enter Try.func12, Try.ntmps12
  go_wp2_with fail
  refine (szCondS_any A0 _ c0 _ xs0 _ _ hr0 (by omega) HZ0.out (by omega) (by omega)).mono ?_
  rw [HF0.out]
  rintro e w4 ⟨rfl, hb⟩
  have g_w4 : Below W.heap.size W w4 := (by repeat (first | with_reducible exact bel_refl _ | with_reducible assumption | with_reducible refine bel_set ?_ (by first | (simp; done) | (simp; omega) | omega) _ | with_reducible refine bel_alloc ?_ _ | with_reducible refine bel_drew ?_ | with_reducible refine bel_drewN ?_ _ | with_reducible refine bel_trans ?_ (by assumption)))
  replace hr0 := hr0.kept g_w4
  replace hr1 := hr1.kept g_w4
  have zs_w4 := g_w4.size
  have gW := g_w4
  clear hb g_w4
  go_wp2_with fail
  refine (szBindS_any A1 _ c1 _ xs1 _ _ hr1 (by omega) HZ1.out (by omega) (by omega)).mono ?_
  rw [HF1.out]
  rintro e w5 ⟨rfl, hb⟩
  have g_w5 : Below w4.heap.size w4 w5 := (by repeat (first | with_reducible exact bel_refl _ | with_reducible assumption | with_reducible refine bel_set ?_ (by first | (simp; done) | (simp; omega) | omega) _ | with_reducible refine bel_alloc ?_ _ | with_reducible refine bel_drew ?_ | with_reducible refine bel_drewN ?_ _ | with_reducible refine bel_trans ?_ (by assumption)))
  replace hr0 := hr0.kept g_w5
  replace hr1 := hr1.kept g_w5
  have zs_w5 := g_w5.size
  have gW : Below W.heap.size W w5 := bel_trans gW g_w5
  clear hb g_w5
  go_wp2_with fail
  refine (toCondS_any A0 _ c0 xs0 _ _ hr0 (by omega)).mono ?_
  rintro e w6 ⟨v_6, rfl, ho_6, hb⟩
  obtain ⟨A_6, c_6, rfl, hc_6, _⟩ := ho_6.rd
  have g_w6 : Below w5.heap.size w5 w6 := (by repeat (first | with_reducible exact bel_refl _ | with_reducible assumption | with_reducible refine bel_set ?_ (by first | (simp; done) | (simp; omega) | omega) _ | with_reducible refine bel_alloc ?_ _ | with_reducible refine bel_drew ?_ | with_reducible refine bel_drewN ?_ _ | with_reducible refine bel_trans ?_ (by assumption)))
  replace hr0 := hr0.kept g_w6
  replace hr1 := hr1.kept g_w6
  have zs_w6 := g_w6.size
  have gW : Below W.heap.size W w6 := bel_trans gW g_w6
  clear hb g_w6
  have in_6 : InB _ w5.heap.size w6.heap.size := ho_6.inL (by first | exact Nat.le_refl _ | (simp; done) | (simp; omega) | omega)
  go_wp2_with fail
  refine (toBindS_any A1 _ c1 xs1 _ _ hr1 (by omega)).mono ?_
  rintro e w7 ⟨v_7, rfl, ho_7, hb⟩
  obtain ⟨A_7, c_7, rfl, hc_7, _⟩ := ho_7.rd
  have g_w7 : Below w6.heap.size w6 w7 := (by repeat (first | with_reducible exact bel_refl _ | with_reducible assumption | with_reducible refine bel_set ?_ (by first | (simp; done) | (simp; omega) | omega) _ | with_reducible refine bel_alloc ?_ _ | with_reducible refine bel_drew ?_ | with_reducible refine bel_drewN ?_ _ | with_reducible refine bel_trans ?_ (by assumption)))
  replace hr0 := hr0.kept g_w7
  replace hr1 := hr1.kept g_w7
  replace ho_6 := ho_6.kept g_w7
  have zs_w7 := g_w7.size
  have gW : Below W.heap.size W w7 := bel_trans gW g_w7
  clear hb g_w7
  have in_7 : InB _ w6.heap.size w7.heap.size := ho_7.inL (by first | exact Nat.le_refl _ | (simp; done) | (simp; omega) | omega)
  go_wp2_with fail
  refine (specHoldAll_any A_6 _ c_6 xs0 A_7 _ c_7 xs1 _ _ _ (ho_6.rdO) (ho_7.rdO) (by omega) (by omega)).mono ?_
  rw [HR.out]
  rintro e w8 ⟨rfl, hb⟩
  have g_w8 : Below w7.heap.size w7 w8 := (by repeat (first | with_reducible exact bel_refl _ | with_reducible assumption | with_reducible refine bel_set ?_ (by first | (simp; done) | (simp; omega) | omega) _ | with_reducible refine bel_alloc ?_ _ | with_reducible refine bel_drew ?_ | with_reducible refine bel_drewN ?_ _ | with_reducible refine bel_trans ?_ (by assumption)))
  replace hr0 := hr0.kept g_w8
  replace hr1 := hr1.kept g_w8
  replace ho_6 := ho_6.kept g_w8
  replace ho_7 := ho_7.kept g_w8
  have zs_w8 := g_w8.size
  have gW : Below W.heap.size W w8 := bel_trans gW g_w8
  clear hb g_w8
  go_wp2_with fail
  refine (toCondS_any A0 _ c0 xs0 _ _ hr0 (by omega)).mono ?_
  rintro e w9 ⟨v_9, rfl, ho_9, hb⟩
  obtain ⟨A_9, c_9, rfl, hc_9, _⟩ := ho_9.rd
  have g_w9 : Below w8.heap.size w8 w9 := (by repeat (first | with_reducible exact bel_refl _ | with_reducible assumption | with_reducible refine bel_set ?_ (by first | (simp; done) | (simp; omega) | omega) _ | with_reducible refine bel_alloc ?_ _ | with_reducible refine bel_drew ?_ | with_reducible refine bel_drewN ?_ _ | with_reducible refine bel_trans ?_ (by assumption)))
  replace hr0 := hr0.kept g_w9
  replace hr1 := hr1.kept g_w9
  replace ho_6 := ho_6.kept g_w9
  replace ho_7 := ho_7.kept g_w9
  have zs_w9 := g_w9.size
  have gW : Below W.heap.size W w9 := bel_trans gW g_w9
  clear hb g_w9
  have in_9 : InB _ w8.heap.size w9.heap.size := ho_9.inL (by first | exact Nat.le_refl _ | (simp; done) | (simp; omega) | omega)
  go_wp2_with fail
  refine (toBindS_any A1 _ c1 xs1 _ _ hr1 (by omega)).mono ?_
  rintro e w10 ⟨v_10, rfl, ho_10, hb⟩
  obtain ⟨A_10, c_10, rfl, hc_10, _⟩ := ho_10.rd
  have g_w10 : Below w9.heap.size w9 w10 := (by repeat (first | with_reducible exact bel_refl _ | with_reducible assumption | with_reducible refine bel_set ?_ (by first | (simp; done) | (simp; omega) | omega) _ | with_reducible refine bel_alloc ?_ _ | with_reducible refine bel_drew ?_ | with_reducible refine bel_drewN ?_ _ | with_reducible refine bel_trans ?_ (by assumption)))
  replace hr0 := hr0.kept g_w10
  replace hr1 := hr1.kept g_w10
  replace ho_6 := ho_6.kept g_w10
  replace ho_7 := ho_7.kept g_w10
  replace ho_9 := ho_9.kept g_w10
  have zs_w10 := g_w10.size
  have gW : Below W.heap.size W w10 := bel_trans gW g_w10
  clear hb g_w10
  have in_10 : InB _ w9.heap.size w10.heap.size := ho_10.inL (by first | exact Nat.le_refl _ | (simp; done) | (simp; omega) | omega)
  go_wp2_with fail
  refine (implHoldAll_any A_9 _ c_9 xs0 A_10 _ c_10 xs1 _ _ _ (ho_9.rdO) (ho_10.rdO) (by omega) (by omega)).mono ?_
  rw [HR.out]
  rintro e w11 ⟨rfl, hb⟩
  have g_w11 : Below w10.heap.size w10 w11 := (by repeat (first | with_reducible exact bel_refl _ | with_reducible assumption | with_reducible refine bel_set ?_ (by first | (simp; done) | (simp; omega) | omega) _ | with_reducible refine bel_alloc ?_ _ | with_reducible refine bel_drew ?_ | with_reducible refine bel_drewN ?_ _ | with_reducible refine bel_trans ?_ (by assumption)))
  replace hr0 := hr0.kept g_w11
  replace hr1 := hr1.kept g_w11
  replace ho_6 := ho_6.kept g_w11
  replace ho_7 := ho_7.kept g_w11
  replace ho_9 := ho_9.kept g_w11
  replace ho_10 := ho_10.kept g_w11
  have zs_w11 := g_w11.size
  have gW : Below W.heap.size W w11 := bel_trans gW g_w11
  clear hb g_w11
  go_wp2_with fail
  refine (toCondS_any A0 _ c0 xs0 _ _ hr0 (by omega)).mono ?_
  rintro e w12 ⟨v_12, rfl, ho_12, hb⟩
  obtain ⟨A_12, c_12, rfl, hc_12, _⟩ := ho_12.rd
  have g_w12 : Below w11.heap.size w11 w12 := (by repeat (first | with_reducible exact bel_refl _ | with_reducible assumption | with_reducible refine bel_set ?_ (by first | (simp; done) | (simp; omega) | omega) _ | with_reducible refine bel_alloc ?_ _ | with_reducible refine bel_drew ?_ | with_reducible refine bel_drewN ?_ _ | with_reducible refine bel_trans ?_ (by assumption)))
  replace hr0 := hr0.kept g_w12
  replace hr1 := hr1.kept g_w12
  replace ho_6 := ho_6.kept g_w12
  replace ho_7 := ho_7.kept g_w12
  replace ho_9 := ho_9.kept g_w12
  replace ho_10 := ho_10.kept g_w12
  have zs_w12 := g_w12.size
  have gW : Below W.heap.size W w12 := bel_trans gW g_w12
  clear hb g_w12
  have in_12 : InB _ w11.heap.size w12.heap.size := ho_12.inL (by first | exact Nat.le_refl _ | (simp; done) | (simp; omega) | omega)
  go_wp2_with fail
  refine (eqCondS_any A_9 A_12 _ c_9 _ c_12 xs0 xs0 _ _ _ (ho_9.rdO) (ho_12.rdO) (by omega)).mono ?_
  rw [decide_eq_true rfl]
  rintro e w13 ⟨rfl, hb⟩
  have g_w13 : Below w12.heap.size w12 w13 := (by repeat (first | with_reducible exact bel_refl _ | with_reducible assumption | with_reducible refine bel_set ?_ (by first | (simp; done) | (simp; omega) | omega) _ | with_reducible refine bel_alloc ?_ _ | with_reducible refine bel_drew ?_ | with_reducible refine bel_drewN ?_ _ | with_reducible refine bel_trans ?_ (by assumption)))
  replace hr0 := hr0.kept g_w13
  replace hr1 := hr1.kept g_w13
  replace ho_6 := ho_6.kept g_w13
  replace ho_7 := ho_7.kept g_w13
  replace ho_9 := ho_9.kept g_w13
  replace ho_10 := ho_10.kept g_w13
  replace ho_12 := ho_12.kept g_w13
  have zs_w13 := g_w13.size
  have gW : Below W.heap.size W w13 := bel_trans gW g_w13
  clear hb g_w13
  go_wp2_with fail
  refine (toBindS_any A1 _ c1 xs1 _ _ hr1 (by omega)).mono ?_
  rintro e w14 ⟨v_14, rfl, ho_14, hb⟩
  obtain ⟨A_14, c_14, rfl, hc_14, _⟩ := ho_14.rd
  have g_w14 : Below w13.heap.size w13 w14 := (by repeat (first | with_reducible exact bel_refl _ | with_reducible assumption | with_reducible refine bel_set ?_ (by first | (simp; done) | (simp; omega) | omega) _ | with_reducible refine bel_alloc ?_ _ | with_reducible refine bel_drew ?_ | with_reducible refine bel_drewN ?_ _ | with_reducible refine bel_trans ?_ (by assumption)))
  replace hr0 := hr0.kept g_w14
  replace hr1 := hr1.kept g_w14
  replace ho_6 := ho_6.kept g_w14
  replace ho_7 := ho_7.kept g_w14
  replace ho_9 := ho_9.kept g_w14
  replace ho_10 := ho_10.kept g_w14
  replace ho_12 := ho_12.kept g_w14
  have zs_w14 := g_w14.size
  have gW : Below W.heap.size W w14 := bel_trans gW g_w14
  clear hb g_w14
  have in_14 : InB _ w13.heap.size w14.heap.size := ho_14.inL (by first | exact Nat.le_refl _ | (simp; done) | (simp; omega) | omega)
  go_wp2_with fail
  refine (eqBindS_any A_10 A_14 _ c_10 _ c_14 xs1 xs1 _ _ _ (ho_10.rdO) (ho_14.rdO) (by omega)).mono ?_
  rw [decide_eq_true rfl]
  rintro e w15 ⟨rfl, hb⟩
  have g_w15 : Below w14.heap.size w14 w15 := (by repeat (first | with_reducible exact bel_refl _ | with_reducible assumption | with_reducible refine bel_set ?_ (by first | (simp; done) | (simp; omega) | omega) _ | with_reducible refine bel_alloc ?_ _ | with_reducible refine bel_drew ?_ | with_reducible refine bel_drewN ?_ _ | with_reducible refine bel_trans ?_ (by assumption)))
  replace hr0 := hr0.kept g_w15
  replace hr1 := hr1.kept g_w15
  replace ho_6 := ho_6.kept g_w15
  replace ho_7 := ho_7.kept g_w15
  replace ho_9 := ho_9.kept g_w15
  replace ho_10 := ho_10.kept g_w15
  replace ho_12 := ho_12.kept g_w15
  replace ho_14 := ho_14.kept g_w15
  have zs_w15 := g_w15.size
  have gW : Below W.heap.size W w15 := bel_trans gW g_w15
  clear hb g_w15
  go_wp2
  go_ret
  exact ⟨rfl, gW⟩

theorem own : ownKnob Try.prog.godebug = none := by kernel_rfl
theorem laidOut : laidOutB Try.prog = true := by kernel_rfl
theorem lifted (os : Os) (started : os.Started) (H : Type) (enc : TypeId × Value → H) :
    ReturnsInHanded {} Try.checked os 12 .any (Rows.fnExactHoldAllSpec.pre6 enc Try.prog Try.f12 Rows.fnExactHoldAllRow.domain false) (Rows.fnExactHoldAllSpec.post enc Try.prog Try.f12 false true false false) := by
  refine returnsInHanded_of_change (C := Try.checked) own started (by kernel_rfl) Try.func12
    (ChangeSpec.witness6 (enc := enc) (C := Try.checked) false ⟨#[], #[.slice none 0 0, .slice none 0 0], []⟩ 8 (by kernel_rfl) (by kernel_rfl) (by kernel_rfl) (by kernel_rfl)) ?_
  intro W base args ds gs before hval0 hW hcnd _
  have hval : ∀ (j : Nat) t v, Try.f12.params[j]? = some t → args[j]? = some v → Value.okWide Try.prog W .any base t v := hval0
  have hW' := hW
  obtain ⟨p, q, hA0, hV, rfl, hfz, hnd⟩ := hW
  have hA : DataW.TrodAll enc Try.prog W 0 (fun _ => true) true Try.f12.params.toList args.toList ds p := hA0
  rw [Try.params12] at hA hval
  obtain ⟨v0, vs0, d0, ds0, p0, q0, hargs, rfl, rfl, h0, r0⟩ := trodAll_cons hA
  obtain ⟨v1, vs1, d1, ds1, p1, q1, rfl, rfl, rfl, h1, r1⟩ := trodAll_cons r0
  obtain ⟨rfl, rfl, rfl⟩ := trodAll_nil r1
  obtain rfl : args = #[v0, v1] := by cases args; simp_all
  obtain ⟨rfl, rfl⟩ := trodVars_none hV
  have lt0 : ∀ x ∈ p0, x.block < W.heap.size := by obtain ⟨m, hm⟩ := h0; exact DataW.trod_lt m _ _ _ hm
  obtain ⟨A0, n0, c0, xs0, hv0, hs0⟩ := open_condS (hval 0 92 v0 rfl rfl) h0
  subst hv0
  have lt1 : ∀ x ∈ p1, x.block < W.heap.size := by obtain ⟨m, hm⟩ := h1; exact DataW.trod_lt m _ _ _ hm
  obtain ⟨A1, n1, c1, xs1, hv1, hs1⟩ := open_bindS (hval 1 44 v1 rfl rfl) h1
  subst hv1
  clear hA0 hval0
  refine (walk A0 n0 c0 xs0 A1 n1 c1 xs1 W hs0 hs1).mono fun e W' ⟨he, bel⟩ => ?_
  subst he
  exact ⟨_, rfl, _, _, _, [], _, [], hW', trodAll_mk1 (shut_bool Try.underlying4 _), (trodAll_cons_mk (Below.trod laidOut (by kernel_rfl) (of_decide_eq_true (by kernel_rfl)) h0 bel lt0) (trodAll_cons_mk (Below.trod laidOut (by kernel_rfl) (of_decide_eq_true (by kernel_rfl)) h1 bel lt1) trodAll_mk0)), rfl, bel.frame _, fun h => by cases h⟩
theorem over : Rows.fnExactHoldAllRow.holds Try.pinned (OpenSpec.ofChange Rows.fnExactHoldAllSpec) :=
  OpenClaim.holds_of_wide 12 Try.f12 rfl rfl rfl rfl rfl rfl rfl ⟨rfl, rfl, rfl, rfl, rfl⟩ rfl rfl rfl rfl rfl (by kernel_rfl) Try.func12 (by kernel_rfl)
    (of_decide_eq_true (by kernel_rfl)) (by unfold Func.isWrapper; first | (rw [if_pos (by decide +kernel)]; kernel_rfl) | (rw [if_neg (by decide +kernel)]; exact ⟨rfl, rfl⟩))
    (fun os started H enc _ => lifted os started H enc)
theorem proved : Rows.FnExactHoldAllSaid := over
end Go.Proofs.Ytjlfllnjbdddaaa.fnExactHoldAll
