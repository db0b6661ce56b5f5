/- The law FnExactJoinTokens returns true at every input, and leaves what it was given as it was. No condition. -/
import Derived.Test.YtnncdibojclhnaaDoorReadT
import Derived.Test.YtnncdibojclhnaaDoorJoinTok
import Derived.Test.YtnncdibojclhnaaDoorTokenS
import Derived.Test.YtnncdibojclhnaaDoorStep
import Derived.Test.YtnncdibojclhnaaDoorRows
import Derived.Test.YtnncdibojclhnaaDoorRead
import Derived.Test.YtnncdibojclhnaaDoorDoor
import Derived.Test.YtnncdibojclhnaaDoorCards
import Derived.Test.YtnncdibojclhnaaDoorTie
import Derived.SevenTiedAt
namespace Go.Proofs.YtnncdibojclhnaaDoor.fnExactJoinTokens
open Go.ChangeShapes Go.WideShapes Go.ChangeAt Go.RowKit
open Go.ChangeMaps (open_string shut_string)
set_option linter.unusedVariables false
set_option maxRecDepth 100000
set_option maxHeartbeats 20000000

theorem walk (A0 : Option Addr) (n0 c0 : Nat) (xs0 : List Vl) (W : World) (hs0 : n0 ≤ c0 ∧ c0 ≤ 9223372036854775807 ∧ RdS vC 3 W W.heap.size A0 n0 xs0 ∧ ∀ a ∈ xs0, a.s.size ≤ 9223372036854775807) (ht : TabT W) :
    Calls Tryd.prog 8 #[.slice A0 n0 c0] W fun e w' => e = .returned (.bool true) ∧ Below W.heap.size W w' := by
  obtain ⟨hnc0, hc0, hr0, hz0⟩ := hs0
  obtain rfl : n0 = xs0.length := hr0.len.symm
  have HZ0 := Lib.hid hz0; clear hz0
  by_cases bz0 : (1048576 : Int) < ((totT xs0) : Int)
  · have HB := Lib.hid (szR_big bz0)
    go_enter Tryd.func8, Tryd.ntmps8
    go_wp2_with fail
    refine (szTokenS_any A0 _ c0 _ xs0 _ _ hr0 (by omega) HZ0.out (by omega) (by omega)).mono ?_
    rw [HB.out]
    rintro e w1 ⟨rfl, hb⟩
    have g_w1 : Below W.heap.size W w1 := (by repeat (first | with_reducible exact bel_refl _ | with_reducible assumption | with_reducible refine bel_set ?_ (by first | (simp; done) | (simp; omega) | omega) _ | with_reducible refine bel_alloc ?_ _ | with_reducible refine bel_drew ?_ | with_reducible refine bel_drewN ?_ _ | with_reducible refine bel_trans ?_ (by assumption)))
    replace hr0 := hr0.kept g_w1
    have zs_w1 := g_w1.size
    have gW := g_w1
    clear hb g_w1
    go_wp2
    go_ret
    exact ⟨rfl, gW⟩
  have HF0 := Lib.hid (szR_fit (Int.not_lt.1 bz0))
  have hl0 : xs0.length ≤ 1048576 := by unfold totT at bz0; omega
  have HTT := Lib.hid ht; clear ht
  have HSM := Lib.hid (totT_sizes (Int.not_lt.1 bz0))
  obtain ⟨r, hr⟩ : ∃ r, joinTok xs0 = r := ⟨_, rfl⟩
  have HR := Lib.hid hr; clear hr
  go_enter Tryd.func8, Tryd.ntmps8
  go_wp2_with fail
  refine (szTokenS_any A0 _ c0 _ xs0 _ _ hr0 (by omega) HZ0.out (by omega) (by omega)).mono ?_
  rw [HF0.out]
  rintro e w2 ⟨rfl, hb⟩
  have g_w2 : Below W.heap.size W w2 := (by repeat (first | with_reducible exact bel_refl _ | with_reducible assumption | with_reducible refine bel_set ?_ (by first | (simp; done) | (simp; omega) | omega) _ | with_reducible refine bel_alloc ?_ _ | with_reducible refine bel_drew ?_ | with_reducible refine bel_drewN ?_ _ | with_reducible refine bel_trans ?_ (by assumption)))
  replace hr0 := hr0.kept g_w2
  have zs_w2 := g_w2.size
  have gW := g_w2
  clear hb g_w2
  go_wp2_with fail
  refine (toTokenS_any A0 _ c0 xs0 _ _ hr0 (by omega)).mono ?_
  rintro e w3 ⟨v_3, rfl, ho_3, hb⟩
  obtain ⟨A_3, c_3, rfl, hc_3, _⟩ := ho_3.rd
  have g_w3 : Below w2.heap.size w2 w3 := (by repeat (first | with_reducible exact bel_refl _ | with_reducible assumption | with_reducible refine bel_set ?_ (by first | (simp; done) | (simp; omega) | omega) _ | with_reducible refine bel_alloc ?_ _ | with_reducible refine bel_drew ?_ | with_reducible refine bel_drewN ?_ _ | with_reducible refine bel_trans ?_ (by assumption)))
  replace hr0 := hr0.kept g_w3
  have zs_w3 := g_w3.size
  have gW : Below W.heap.size W w3 := bel_trans gW g_w3
  clear hb g_w3
  have in_3 : InB _ w2.heap.size w3.heap.size := ho_3.inL (by first | exact Nat.le_refl _ | (simp; done) | (simp; omega) | omega)
  go_wp2_with fail
  refine (specJoinTokens_any A_3 _ c_3 xs0 _ _ (ho_3.rdO) (by omega) HSM.out).mono ?_
  rw [HR.out]
  rintro e w4 ⟨rfl, hb⟩
  have g_w4 : Below w3.heap.size w3 w4 := (by repeat (first | with_reducible exact bel_refl _ | with_reducible assumption | with_reducible refine bel_set ?_ (by first | (simp; done) | (simp; omega) | omega) _ | with_reducible refine bel_alloc ?_ _ | with_reducible refine bel_drew ?_ | with_reducible refine bel_drewN ?_ _ | with_reducible refine bel_trans ?_ (by assumption)))
  replace hr0 := hr0.kept g_w4
  replace ho_3 := ho_3.kept g_w4
  have zs_w4 := g_w4.size
  have gW : Below W.heap.size W w4 := bel_trans gW g_w4
  clear hb g_w4
  go_wp2_with fail
  refine (toTokenS_any A0 _ c0 xs0 _ _ hr0 (by omega)).mono ?_
  rintro e w5 ⟨v_5, rfl, ho_5, hb⟩
  obtain ⟨A_5, c_5, rfl, hc_5, _⟩ := ho_5.rd
  have g_w5 : Below w4.heap.size w4 w5 := (by repeat (first | with_reducible exact bel_refl _ | with_reducible assumption | with_reducible refine bel_set ?_ (by first | (simp; done) | (simp; omega) | omega) _ | with_reducible refine bel_alloc ?_ _ | with_reducible refine bel_drew ?_ | with_reducible refine bel_drewN ?_ _ | with_reducible refine bel_trans ?_ (by assumption)))
  replace hr0 := hr0.kept g_w5
  replace ho_3 := ho_3.kept g_w5
  have zs_w5 := g_w5.size
  have gW : Below W.heap.size W w5 := bel_trans gW g_w5
  clear hb g_w5
  have in_5 : InB _ w4.heap.size w5.heap.size := ho_5.inL (by first | exact Nat.le_refl _ | (simp; done) | (simp; omega) | omega)
  go_wp2_with fail
  refine (implJoinTokens_any A_5 _ c_5 xs0 _ _ (HTT.out.kept (by repeat (first | with_reducible exact bel_refl _ | with_reducible assumption | with_reducible refine bel_set ?_ (by first | (simp; done) | (simp; omega) | omega) _ | with_reducible refine bel_alloc ?_ _ | with_reducible refine bel_drew ?_ | with_reducible refine bel_drewN ?_ _ | with_reducible refine bel_trans ?_ (by assumption)))) (ho_5.rdO) (by omega) HSM.out).mono ?_
  rw [HR.out]
  rintro e w6 ⟨rfl, hb⟩
  have g_w6 : Below w5.heap.size w5 w6 := (by repeat (first | with_reducible exact bel_refl _ | with_reducible assumption | with_reducible refine bel_set ?_ (by first | (simp; done) | (simp; omega) | omega) _ | with_reducible refine bel_alloc ?_ _ | with_reducible refine bel_drew ?_ | with_reducible refine bel_drewN ?_ _ | with_reducible refine bel_trans ?_ (by assumption)))
  replace hr0 := hr0.kept g_w6
  replace ho_3 := ho_3.kept g_w6
  replace ho_5 := ho_5.kept g_w6
  have zs_w6 := g_w6.size
  have gW : Below W.heap.size W w6 := bel_trans gW g_w6
  clear hb g_w6
  go_wp2_with fail
  refine (toTokenS_any A0 _ c0 xs0 _ _ hr0 (by omega)).mono ?_
  rintro e w7 ⟨v_7, rfl, ho_7, hb⟩
  obtain ⟨A_7, c_7, rfl, hc_7, _⟩ := ho_7.rd
  have g_w7 : Below w6.heap.size w6 w7 := (by repeat (first | with_reducible exact bel_refl _ | with_reducible assumption | with_reducible refine bel_set ?_ (by first | (simp; done) | (simp; omega) | omega) _ | with_reducible refine bel_alloc ?_ _ | with_reducible refine bel_drew ?_ | with_reducible refine bel_drewN ?_ _ | with_reducible refine bel_trans ?_ (by assumption)))
  replace hr0 := hr0.kept g_w7
  replace ho_3 := ho_3.kept g_w7
  replace ho_5 := ho_5.kept g_w7
  have zs_w7 := g_w7.size
  have gW : Below W.heap.size W w7 := bel_trans gW g_w7
  clear hb g_w7
  have in_7 : InB _ w6.heap.size w7.heap.size := ho_7.inL (by first | exact Nat.le_refl _ | (simp; done) | (simp; omega) | omega)
  go_wp2_with fail
  refine (eqTokenS_any A_5 A_7 _ c_5 _ c_7 xs0 xs0 _ _ _ (ho_5.rdO) (ho_7.rdO) (by omega)).mono ?_
  rw [decide_eq_true rfl]
  rintro e w8 ⟨rfl, hb⟩
  have g_w8 : Below w7.heap.size w7 w8 := (by repeat (first | with_reducible exact bel_refl _ | with_reducible assumption | with_reducible refine bel_set ?_ (by first | (simp; done) | (simp; omega) | omega) _ | with_reducible refine bel_alloc ?_ _ | with_reducible refine bel_drew ?_ | with_reducible refine bel_drewN ?_ _ | with_reducible refine bel_trans ?_ (by assumption)))
  replace hr0 := hr0.kept g_w8
  replace ho_3 := ho_3.kept g_w8
  replace ho_5 := ho_5.kept g_w8
  replace ho_7 := ho_7.kept g_w8
  have zs_w8 := g_w8.size
  have gW : Below W.heap.size W w8 := bel_trans gW g_w8
  clear hb g_w8
  go_wp2
  go_ret
  exact ⟨rfl, gW⟩

theorem own : ownKnob Tryd.prog.godebug = none := by kernel_rfl
theorem laidOut : laidOutB Tryd.prog = true := by kernel_rfl
theorem lifted (os : Os) (started : os.Started) (H : Type) (enc : TypeId × Value → H) :
    ReturnsInHanded {} Tryd.checked os 8 .any (fun w args => (Rows.fnExactJoinTokensSpec.pre enc Tryd.prog Tryd.f8 [] false w args ∧ laidMetH Tryd.prog laidL w) ∧ sizedMet enc Tryd.prog Tryd.f8 (OpenSpec.ofChange Rows.fnExactJoinTokensSpec) false w args) (Rows.fnExactJoinTokensSpec.post enc Tryd.prog Tryd.f8 false true false false) := by
  refine returnsInHanded_of_change_and (C := Tryd.checked) (X := fun w _ => laidMetH Tryd.prog laidL w) (fun _ _ _ hh h => h.of_heap hh) own started (by kernel_rfl) Tryd.func8
    (ChangeSpec.witness_shaped (enc := enc) (C := Tryd.checked) (os := os) (X := fun w _ => laidMetH Tryd.prog laidL w) false (World.doorLaid Tryd.prog 400 os) #[.slice none 0 0] 8 rfl (World.shaped_of_RefB (by kernel_rfl) (by kernel_rfl)) (by kernel_rfl) (by kernel_rfl) (by kernel_rfl) (door_met os _)) ?_
  intro W base args ds gs before hval0 hW _ _ hL _
  have hval : ∀ (j : Nat) t v, Tryd.f8.params[j]? = some t → args[j]? = some v → Value.okWide Tryd.prog W .any base t v := hval0
  have hW' := hW
  obtain ⟨p, q, hA0, hV, rfl, hfz, hnd⟩ := hW
  have hA : DataW.TrodAll enc Tryd.prog W 0 (fun _ => true) true Tryd.f8.params.toList args.toList ds p := hA0
  rw [Tryd.params8] at hA hval
  obtain ⟨v0, vs0, d0, ds0, p0, q0, hargs, rfl, rfl, h0, r0⟩ := trodAll_cons hA
  obtain ⟨rfl, rfl, rfl⟩ := trodAll_nil r0
  obtain rfl : args = #[v0] := by cases args; simp_all
  obtain ⟨rfl, rfl⟩ := trodVars_none hV
  have lt0 : ∀ x ∈ p0, x.block < W.heap.size := by obtain ⟨m, hm⟩ := h0; exact DataW.trod_lt m _ _ _ hm
  obtain ⟨A0, n0, c0, xs0, hv0, hs0⟩ := open_tokenS (hval 0 69 v0 rfl rfl) h0
  subst hv0
  clear hA0 hval0
  refine (walk A0 n0 c0 xs0 W hs0 (tabT_of_laid hL)).mono fun e W' ⟨he, bel⟩ => ?_
  subst he
  exact ⟨_, rfl, _, _, _, [], _, [], hW', trodAll_mk1 (shut_bool Tryd.underlying4 _), (trodAll_cons_mk (Below.trod laidOut (by kernel_rfl) (of_decide_eq_true (by kernel_rfl)) h0 bel lt0) trodAll_mk0), rfl, bel.frame _, fun h => by cases h⟩
theorem over : Rows.fnExactJoinTokensRow.holds Tryd.pinned (OpenSpec.ofChange Rows.fnExactJoinTokensSpec) :=
  OpenClaim.holds_of_wide 8 Tryd.f8 rfl rfl rfl rfl rfl rfl rfl ⟨rfl, rfl, rfl, rfl, rfl⟩ rfl rfl rfl rfl rfl (by kernel_rfl) Tryd.func8 (by kernel_rfl)
    (of_decide_eq_true (by kernel_rfl)) (by unfold Func.isWrapper; first | (rw [if_pos (by decide +kernel)]; kernel_rfl) | (rw [if_neg (by decide +kernel)]; exact ⟨rfl, rfl⟩))
    (fun os started H enc _ => lifted os started H enc)
theorem proved : Rows.FnExactJoinTokensCardSaid :=
  Claim7.holds_tied_plain_at .later [] laidK true _ false over (fun _ h => by cases h) (by kernel_rfl) (fun _ h => by cases h) fnExactJoinTokens_row_tie rfl ⟨rfl, rfl⟩ (by kernel_rfl) rfl
    (fun f fn hf hfn => by
      obtain rfl : f = 8 := Option.some.inj ((show Tryd.prog.funcNamed "loop.example/g00282/laws.FnExactJoinTokens" = some 8 by kernel_rfl).symm.trans hf) |>.symm
      obtain rfl : fn = Tryd.f8 := (Option.some.inj (Tryd.func8.symm.trans hfn)).symm
      exact ⟨by kernel_rfl, fun j t ht => by
        rw [Tryd.params8] at ht
        have hm : t ∈ [69] := by simpa using Array.mem_of_getElem? ht
        have hall : ([69].all fun u => !Tryd.prog.wantsStandIn u) = true := by kernel_rfl
        exact (show Tryd.prog.wantsStandIn t = false by simpa using List.all_eq_true.1 hall t hm)⟩)
    (by kernel_rfl)
end Go.Proofs.YtnncdibojclhnaaDoor.fnExactJoinTokens
