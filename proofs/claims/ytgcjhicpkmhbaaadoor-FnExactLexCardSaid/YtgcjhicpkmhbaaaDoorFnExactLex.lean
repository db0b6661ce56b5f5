import Derived.Test.YtgcjhicpkmhbaaaDoorPkImplLex
import Derived.Test.YtgcjhicpkmhbaaaDoorPkPlainLexed
import Derived.Test.YtgcjhicpkmhbaaaDoorPkTokenM
import Derived.Test.YtgcjhicpkmhbaaaDoorRows
import Derived.Test.YtgcjhicpkmhbaaaDoorRead
import Derived.Test.YtgcjhicpkmhbaaaDoorPkDoorE
import Derived.Test.YtgcjhicpkmhbaaaDoorCards
import Derived.Test.YtgcjhicpkmhbaaaDoorTie
import Derived.SevenTiedAt
/- The law FnExactLex returns true at every input, and leaves what it was given as it was. No condition. -/
namespace Go.Proofs.YtgcjhicpkmhbaaaDoor.fnExactLex
open Go.ChangeShapes Go.WideShapes Go.ChangeAt Go.RowKit
open Go.ChangeMaps (open_string shut_string)
set_option linter.unusedVariables false
set_option maxRecDepth 100000
set_option maxHeartbeats 20000000

theorem walk (s0 : ByteArray) (W : World) (hs0 : s0.size ≤ maxLen) (ht : TabT W) (hv : VarE W) :
    Calls Tryd.prog 3 #[.string s0] W fun e w' => e = .returned (.bool true) ∧ Below W.heap.size W w' := by
  have hss0 : s0.size ≤ 9223372036854775807 := by simp only [maxLen] at hs0; omega
  clear hs0
  by_cases bl0 : (1048576 : Int) < (s0.size : Int)
  · go_enter Tryd.func3, Tryd.ntmps3
    go_wp2
    go_ret
    exact ⟨rfl, (by repeat (first | with_reducible exact bel_refl _ | with_reducible assumption | with_reducible refine bel_set ?_ (by first | (simp; done) | (simp; omega) | omega) _ | with_reducible refine bel_alloc ?_ _ | with_reducible refine bel_drew ?_ | with_reducible refine bel_drewN ?_ _ | with_reducible refine bel_trans ?_ (by assumption)))⟩
  have HTT := Lib.hid ht; clear ht
  have HVV := Lib.hid hv; clear hv
  obtain ⟨⟨rs, ri⟩, hr⟩ : ∃ r, lexed s0 = r := ⟨_, rfl⟩
  have hrl := (lexed_right s0).2.1
  rw [hr] at hrl
  dsimp only at hrl
  have HR := Lib.hid hr; clear hr
  go_enter Tryd.func3, Tryd.ntmps3
  go_wp2_with fail
  refine (specLex_any s0 (rs, ri) _ (by omega) HR.out).mono ?_
  dsimp only
  rintro e w1 ⟨v_1, rfl, ho_1, hb, _⟩
  obtain ⟨A_1, c_1, rfl, hc_1, _⟩ := ho_1.form
  have g_w1 : Below W.heap.size W w1 := (by repeat (first | with_reducible exact bel_refl _ | with_reducible assumption | with_reducible refine bel_set ?_ (by first | (simp; done) | (simp; omega) | omega) _ | with_reducible refine bel_alloc ?_ _ | with_reducible refine bel_drew ?_ | with_reducible refine bel_drewN ?_ _ | with_reducible refine bel_trans ?_ (by assumption)))
  have zs_w1 := g_w1.size
  have gW := g_w1
  clear hb g_w1
  have in_1 : InB _ W.heap.size w1.heap.size := ho_1.inL (by first | exact Nat.le_refl _ | (simp; done) | (simp; omega) | omega)
  go_wp2_with fail
  refine (implLex_any s0 (rs, ri) _ (by omega) HR.out (HTT.out.kept (by repeat (first | with_reducible exact bel_refl _ | with_reducible assumption | with_reducible refine bel_set ?_ (by first | (simp; done) | (simp; omega) | omega) _ | with_reducible refine bel_alloc ?_ _ | with_reducible refine bel_drew ?_ | with_reducible refine bel_drewN ?_ _ | with_reducible refine bel_trans ?_ (by assumption)))) (HVV.out.kept (by repeat (first | with_reducible exact bel_refl _ | with_reducible assumption | with_reducible refine bel_set ?_ (by first | (simp; done) | (simp; omega) | omega) _ | with_reducible refine bel_alloc ?_ _ | with_reducible refine bel_drew ?_ | with_reducible refine bel_drewN ?_ _ | with_reducible refine bel_trans ?_ (by assumption))))).mono ?_
  dsimp only
  rintro e w2 ⟨v_2, rfl, ho_2, hb, _⟩
  obtain ⟨A_2, c_2, rfl, hc_2, _⟩ := ho_2.form
  have g_w2 : Below w1.heap.size w1 w2 := (by repeat (first | with_reducible exact bel_refl _ | with_reducible assumption | with_reducible refine bel_set ?_ (by first | (simp; done) | (simp; omega) | omega) _ | with_reducible refine bel_alloc ?_ _ | with_reducible refine bel_drew ?_ | with_reducible refine bel_drewN ?_ _ | with_reducible refine bel_trans ?_ (by assumption)))
  replace ho_1 := ho_1.kept g_w2
  have zs_w2 := g_w2.size
  have gW : Below W.heap.size W w2 := bel_trans gW g_w2
  clear hb g_w2
  have in_2 : InB _ w1.heap.size w2.heap.size := ho_2.inL (by first | exact Nat.le_refl _ | (simp; done) | (simp; omega) | omega)
  go_wp2_with fail
  refine (eqTokenS_any A_2 A_1 _ c_2 _ c_1 rs rs _ _ _ (ho_2.rdO) (ho_1.rdO) (by omega)).mono ?_
  rw [decide_eq_true rfl]
  rintro e w3 ⟨rfl, hb⟩
  have g_w3 : Below w2.heap.size w2 w3 := (by repeat (first | with_reducible exact bel_refl _ | with_reducible assumption | with_reducible refine bel_set ?_ (by first | (simp; done) | (simp; omega) | omega) _ | with_reducible refine bel_alloc ?_ _ | with_reducible refine bel_drew ?_ | with_reducible refine bel_drewN ?_ _ | with_reducible refine bel_trans ?_ (by assumption)))
  replace ho_1 := ho_1.kept g_w3
  replace ho_2 := ho_2.kept g_w3
  have zs_w3 := g_w3.size
  have gW : Below W.heap.size W w3 := bel_trans gW g_w3
  clear hb g_w3
  go_wp2_with fail
  refine (markTokenS_any A_2 _ c_2 rs _ 1 _ _ ho_2 rfl (by first | rfl | omega | simp) (by omega) (by omega)).mono ?_
  rintro e w4 ⟨rfl, hm, hg⟩
  have gg : Below W.heap.size w3 w4 := below_of_grown hg in_2 (by omega) (by omega)
  have zs_w4 := hg.size
  replace ho_1 := ho_1.far hg in_1 in_2 (by omega)
  have gW : Below W.heap.size W w4 := gW.trans gg
  clear ho_2
  have ho_2 := hm
  clear hm hg gg
  go_wp2_with fail
  refine (heldTokenS_any A_2 c_2 rs.length _ 1 _ _ (ho_2.rdM (marksToken_len _ _)) (by first | rfl | omega | simp) (by omega) (by omega)).mono ?_
  rintro e w5 ⟨rfl, hb⟩
  have g_w5 : Below w4.heap.size w4 w5 := (by repeat (first | with_reducible exact bel_refl _ | with_reducible assumption | with_reducible refine bel_set ?_ (by first | (simp; done) | (simp; omega) | omega) _ | with_reducible refine bel_alloc ?_ _ | with_reducible refine bel_drew ?_ | with_reducible refine bel_drewN ?_ _ | with_reducible refine bel_trans ?_ (by assumption)))
  replace ho_1 := ho_1.kept g_w5
  replace ho_2 := ho_2.kept g_w5
  have zs_w5 := g_w5.size
  have gW : Below W.heap.size W w5 := bel_trans gW g_w5
  clear hb g_w5
  go_wp2_with fail
  refine (implLex_any s0 (rs, ri) _ (by omega) HR.out (HTT.out.kept (by repeat (first | with_reducible exact bel_refl _ | with_reducible assumption | with_reducible refine bel_set ?_ (by first | (simp; done) | (simp; omega) | omega) _ | with_reducible refine bel_alloc ?_ _ | with_reducible refine bel_drew ?_ | with_reducible refine bel_drewN ?_ _ | with_reducible refine bel_trans ?_ (by assumption)))) (HVV.out.kept (by repeat (first | with_reducible exact bel_refl _ | with_reducible assumption | with_reducible refine bel_set ?_ (by first | (simp; done) | (simp; omega) | omega) _ | with_reducible refine bel_alloc ?_ _ | with_reducible refine bel_drew ?_ | with_reducible refine bel_drewN ?_ _ | with_reducible refine bel_trans ?_ (by assumption))))).mono ?_
  dsimp only
  rintro e w6 ⟨v_6, rfl, ho_6, hb, _⟩
  obtain ⟨A_6, c_6, rfl, hc_6, _⟩ := ho_6.form
  have g_w6 : Below w5.heap.size w5 w6 := (by repeat (first | with_reducible exact bel_refl _ | with_reducible assumption | with_reducible refine bel_set ?_ (by first | (simp; done) | (simp; omega) | omega) _ | with_reducible refine bel_alloc ?_ _ | with_reducible refine bel_drew ?_ | with_reducible refine bel_drewN ?_ _ | with_reducible refine bel_trans ?_ (by assumption)))
  replace ho_1 := ho_1.kept g_w6
  replace ho_2 := ho_2.kept g_w6
  have zs_w6 := g_w6.size
  have gW : Below W.heap.size W w6 := bel_trans gW g_w6
  clear hb g_w6
  have in_6 : InB _ w5.heap.size w6.heap.size := ho_6.inL (by first | exact Nat.le_refl _ | (simp; done) | (simp; omega) | omega)
  go_wp2_with fail
  refine (eqTokenS_any A_6 A_1 _ c_6 _ c_1 rs rs _ _ _ (ho_6.rdO) (ho_1.rdO) (by omega)).mono ?_
  rw [decide_eq_true rfl]
  rintro e w7 ⟨rfl, hb⟩
  have g_w7 : Below w6.heap.size w6 w7 := (by repeat (first | with_reducible exact bel_refl _ | with_reducible assumption | with_reducible refine bel_set ?_ (by first | (simp; done) | (simp; omega) | omega) _ | with_reducible refine bel_alloc ?_ _ | with_reducible refine bel_drew ?_ | with_reducible refine bel_drewN ?_ _ | with_reducible refine bel_trans ?_ (by assumption)))
  replace ho_1 := ho_1.kept g_w7
  replace ho_2 := ho_2.kept g_w7
  replace ho_6 := ho_6.kept g_w7
  have zs_w7 := g_w7.size
  have gW : Below W.heap.size W w7 := bel_trans gW g_w7
  clear hb g_w7
  go_wp2_with fail
  refine (heldTokenS_any A_2 c_2 rs.length _ 1 _ _ (ho_2.rdM (marksToken_len _ _)) (by first | rfl | omega | simp) (by omega) (by omega)).mono ?_
  rintro e w8 ⟨rfl, hb⟩
  have g_w8 : Below w7.heap.size w7 w8 := (by repeat (first | with_reducible exact bel_refl _ | with_reducible assumption | with_reducible refine bel_set ?_ (by first | (simp; done) | (simp; omega) | omega) _ | with_reducible refine bel_alloc ?_ _ | with_reducible refine bel_drew ?_ | with_reducible refine bel_drewN ?_ _ | with_reducible refine bel_trans ?_ (by assumption)))
  replace ho_1 := ho_1.kept g_w8
  replace ho_2 := ho_2.kept g_w8
  replace ho_6 := ho_6.kept g_w8
  have zs_w8 := g_w8.size
  have gW : Below W.heap.size W w8 := bel_trans gW g_w8
  clear hb g_w8
  go_wp2
  go_ret
  exact ⟨rfl, gW⟩

theorem own : ownKnob Tryd.prog.godebug = none := by kernel_rfl
theorem laidOut : laidOutB Tryd.prog = true := by kernel_rfl
theorem lifted (os : Os) (started : os.Started) (H : Type) (enc : TypeId × Value → H) :
    ReturnsInHanded {} Tryd.checked os 3 .any (fun w args => (Rows.fnExactLexSpec.pre enc Tryd.prog Tryd.f3 [] false w args ∧ laidMetH Tryd.prog laidLE w) ∧ sizedMet enc Tryd.prog Tryd.f3 (OpenSpec.ofChange Rows.fnExactLexSpec) false w args) (Rows.fnExactLexSpec.post enc Tryd.prog Tryd.f3 false true false false) := by
  refine returnsInHanded_of_change_and (C := Tryd.checked) (X := fun w _ => laidMetH Tryd.prog laidLE w) (fun _ _ _ hh h => h.of_heap hh) own started (by kernel_rfl) Tryd.func3
    (ChangeSpec.witness_shaped (enc := enc) (C := Tryd.checked) (os := os) (X := fun w _ => laidMetH Tryd.prog laidLE w) false (World.doorLaid Tryd.prog 400 os) #[.string ByteArray.empty] 8 rfl (World.shaped_of_RefB (by kernel_rfl) (by kernel_rfl)) (by kernel_rfl) (by kernel_rfl) (by kernel_rfl) (door_metE os _)) ?_
  intro W base args ds gs before hval0 hW _ _ hL _
  have hval : ∀ (j : Nat) t v, Tryd.f3.params[j]? = some t → args[j]? = some v → Value.okWide Tryd.prog W .any base t v := hval0
  have hW' := hW
  obtain ⟨p, q, hA0, hV, rfl, hfz, hnd⟩ := hW
  have hA : DataW.TrodAll enc Tryd.prog W 0 (fun _ => true) true Tryd.f3.params.toList args.toList ds p := hA0
  rw [Tryd.params3] at hA hval
  obtain ⟨v0, vs0, d0, ds0, p0, q0, hargs, rfl, rfl, h0, r0⟩ := trodAll_cons hA
  obtain ⟨rfl, rfl, rfl⟩ := trodAll_nil r0
  obtain rfl : args = #[v0] := by cases args; simp_all
  obtain ⟨rfl, rfl⟩ := trodVars_none hV
  have lt0 : ∀ x ∈ p0, x.block < W.heap.size := by obtain ⟨m, hm⟩ := h0; exact DataW.trod_lt m _ _ _ hm
  obtain ⟨s0, hv0, hs0⟩ := open_str Tryd.underlying9 (hval 0 9 v0 rfl rfl) h0
  subst hv0
  clear hA0 hval0
  refine (walk s0 W hs0 (tabT_of_laidE hL) (varE_of_laidE hL)).mono fun e W' ⟨he, bel⟩ => ?_
  subst he
  exact ⟨_, rfl, _, _, _, [], _, [], hW', trodAll_mk1 (shut_bool Tryd.underlying4 _), (trodAll_cons_mk (Below.trod laidOut (by kernel_rfl) (of_decide_eq_true (by kernel_rfl)) h0 bel lt0) trodAll_mk0), rfl, bel.frame _, fun h => by cases h⟩
theorem over : Rows.fnExactLexRow.holds Tryd.pinned (OpenSpec.ofChange Rows.fnExactLexSpec) :=
  OpenClaim.holds_of_wide 3 Tryd.f3 rfl rfl rfl rfl rfl rfl rfl ⟨rfl, rfl, rfl, rfl, rfl⟩ rfl rfl rfl rfl rfl (by kernel_rfl) Tryd.func3 (by kernel_rfl)
    (of_decide_eq_true (by kernel_rfl)) (by unfold Func.isWrapper; first | (rw [if_pos (by decide +kernel)]; kernel_rfl) | (rw [if_neg (by decide +kernel)]; exact ⟨rfl, rfl⟩))
    (fun os started H enc _ => lifted os started H enc)
theorem proved : Rows.FnExactLexCardSaid :=
  Claim7.holds_tied_plain_at .later [] laidKE true _ _ over (fun _ h => by cases h) (by kernel_rfl) (fun _ h => by cases h) fnExactLex_row_tie rfl ⟨rfl, rfl⟩ (by kernel_rfl) rfl
    (fun f fn hf hfn => by
      obtain rfl : f = 3 := Option.some.inj ((show Tryd.prog.funcNamed "loop.example/g00282/laws.FnExactLex" = some 3 by kernel_rfl).symm.trans hf) |>.symm
      obtain rfl : fn = Tryd.f3 := (Option.some.inj (Tryd.func3.symm.trans hfn)).symm
      exact ⟨by kernel_rfl, fun j t ht => by
        rw [Tryd.params3] at ht
        have hm : t ∈ [9] := by simpa using Array.mem_of_getElem? ht
        have hall : ([9].all fun u => !Tryd.prog.wantsStandIn u) = true := by kernel_rfl
        exact (show Tryd.prog.wantsStandIn t = false by simpa using List.all_eq_true.1 hall t hm)⟩)
    (by kernel_rfl)
end Go.Proofs.YtgcjhicpkmhbaaaDoor.fnExactLex
