/- The law FnExactCrc returns true at every input, and leaves what it was given as it was. No condition. -/
import Derived.Test.YtpmigmpghmccdaaCrc
import Derived.Test.YtpmigmpghmccdaaBy
import Derived.Test.YtpmigmpghmccdaaRows
import Derived.Test.YtpmigmpghmccdaaRead
namespace Go.Proofs.Ytpmigmpghmccdaa.fnExactCrc
open Go.ChangeShapes Go.WideShapes Go.ChangeAt Go.RowKit
open Go.ChangeMaps (open_string shut_string)
set_option linter.unusedVariables false
set_option maxRecDepth 100000
set_option maxHeartbeats 2000000

theorem walk (A : Option Addr) (n c : Nat) (bs : List UInt8) (W : World) (hs : n ≤ c ∧ c ≤ maxLen ∧ RdB W W.heap.size A n bs) :
    Calls Try.prog 5 #[.slice A n c] W fun e w' => e = .returned (.bool true) ∧ Below W.heap.size W w' := by
  obtain ⟨hnc, _, hr⟩ := hs
  by_cases hbig : (1048576 : Int) < n
  · go_enter Try.func5, Try.ntmps5
    go_wp2
    go_ret
    exact ⟨rfl, Below.refl _ _⟩
  · have hl := hr.len
    have HL := Lib.hid hl; clear hl
    go_enter Try.func5, Try.ntmps5
    go_wp2_with fail
    refine (toByteS_any A n c bs W _ hr (Nat.le_refl _) (by omega)).mono ?_
    rintro e w1 ⟨v1, rfl, ho1, hb1, hs1⟩
    obtain ⟨A1, c1, rfl, hc1, hr1⟩ := ho1.form
    go_wp2_with fail
    refine (specCrc_any A1 bs.length c1 bs w1 _ hr1 (by rw [HL.out]; omega)).mono ?_
    rintro e w' ⟨rfl, rfl⟩
    go_wp2_with fail
    refine (toByteS_any A n c bs w1 _ (hr.below hb1) hs1 (by omega)).mono ?_
    rintro e w2 ⟨v2, rfl, ho2, hb2, hs2⟩
    obtain ⟨A2, c2, rfl, hc2, hr2⟩ := ho2.form
    go_wp2_with fail
    refine (implCrc_any A2 bs.length c2 bs w2 _ hr2 (by rw [HL.out]; omega)).mono ?_
    rintro e w' ⟨rfl, rfl⟩
    go_wp2_with fail
    refine (toByteS_any A n c bs w2 _ ((hr.below hb1).below (hb2.mono hs1)) (by omega) (by omega)).mono ?_
    rintro e w3 ⟨v3, rfl, ho3, hb3, hs3⟩
    obtain ⟨A3, c3, rfl, hc3, hr3⟩ := ho3.form
    go_wp2_with fail
    refine (eqByteS_any A2 A3 bs.length c2 bs.length c3 bs bs w3 _ ((hr2.below hb3).more hs3) hr3 (by rw [HL.out]; omega)).mono ?_
    rw [decide_eq_true rfl]
    rintro e w4 ⟨rfl, m, rfl⟩
    go_wp2
    go_ret
    exact ⟨rfl, Below.drewN' (hb1.trans ((hb2.mono hs1).trans (hb3.mono (by omega)))) m⟩

theorem own : ownKnob Try.prog.godebug = none := by kernel_rfl
theorem laidOut : laidOutB Try.prog = true := by kernel_rfl
theorem lifted (os : Os) (started : os.Started) (H : Type) (enc : TypeId × Value → H) :
    ReturnsInHanded {} Try.checked os 5 .any (Rows.fnExactCrcSpec.pre6 enc Try.prog Try.f5 Rows.fnExactCrcRow.domain false) (Rows.fnExactCrcSpec.post enc Try.prog Try.f5 false true false false) := by
  refine returnsInHanded_of_change (C := Try.checked) own started (by kernel_rfl) Try.func5
    (ChangeSpec.witness6 (enc := enc) (C := Try.checked) false ⟨#[], #[.slice none 0 0], []⟩ 8 (by kernel_rfl) (by kernel_rfl) (by kernel_rfl) (by kernel_rfl)) ?_
  intro W base args ds gs before hval0 hW hcnd _
  have hval : ∀ (j : Nat) t v, Try.f5.params[j]? = some t → args[j]? = some v → Value.okWide Try.prog W .any base t v := hval0
  have hW' := hW
  obtain ⟨p, q, hA0, hV, rfl, hfz, hnd⟩ := hW
  have hA : DataW.TrodAll enc Try.prog W 0 (fun _ => true) true Try.f5.params.toList args.toList ds p := hA0
  rw [Try.params5] at hA hval
  obtain ⟨v0, vs0, d0, ds0, p0, q0, hargs, rfl, rfl, h0, r0⟩ := trodAll_cons hA
  obtain ⟨rfl, rfl, rfl⟩ := trodAll_nil r0
  obtain rfl : args = #[v0] := by cases args; simp_all
  obtain ⟨rfl, rfl⟩ := trodVars_none hV
  have lt0 : ∀ x ∈ p0, x.block < W.heap.size := by obtain ⟨m, hm⟩ := h0; exact DataW.trod_lt m _ _ _ hm
  obtain ⟨A0, n0, c0, b0, hv0, hs0⟩ := open_bytes Try.underlying24 Try.underlying5 (by kernel_rfl) (hval 0 24 v0 rfl rfl) h0
  subst hv0
  clear hA0 hval0
  refine (walk A0 n0 c0 b0 W hs0).mono fun e W' ⟨he, bel⟩ => ?_
  subst he
  exact ⟨_, rfl, _, _, _, [], _, [], hW', trodAll_mk1 (shut_bool Try.underlying4 _), (trodAll_cons_mk (Below.trod laidOut (by kernel_rfl) (of_decide_eq_true (by kernel_rfl)) h0 bel lt0) trodAll_mk0), rfl, bel.frame _, fun h => by cases h⟩
theorem over : Rows.fnExactCrcRow.holds Try.pinned (OpenSpec.ofChange Rows.fnExactCrcSpec) :=
  OpenClaim.holds_of_wide 5 Try.f5 rfl rfl rfl rfl rfl rfl rfl ⟨rfl, rfl, rfl, rfl, rfl⟩ rfl rfl rfl rfl rfl (by kernel_rfl) Try.func5 (by kernel_rfl)
    (of_decide_eq_true (by kernel_rfl)) (by unfold Func.isWrapper; first | (rw [if_pos (by decide +kernel)]; kernel_rfl) | (rw [if_neg (by decide +kernel)]; exact ⟨rfl, rfl⟩))
    (fun os started H enc _ => lifted os started H enc)
theorem proved : Rows.FnExactCrcSaid := over
end Go.Proofs.Ytpmigmpghmccdaa.fnExactCrc
