/- The law FnExactValOk returns true at every input, and leaves what it was given as it was. No condition. -/
import Derived.Test.YtpmigmpghmccdaaVal
import Derived.Test.YtpmigmpghmccdaaRows
import Derived.Test.YtpmigmpghmccdaaRead
namespace Go.Proofs.Ytpmigmpghmccdaa.fnExactValOk
open Go.ChangeShapes Go.WideShapes Go.ChangeAt Go.RowKit
open Go.ChangeMaps (open_string shut_string)
set_option linter.unusedVariables false
set_option maxRecDepth 100000
set_option maxHeartbeats 2000000

theorem walk (k n : Int) (s : ByteArray) (W : World) (hs : s.size ≤ 9223372036854775807) :
    Calls Try.prog 13 #[.agg #[.int .i64 k, .int .i64 n, .string s]] W fun e w' => e = .returned (.bool true) ∧ Below W.heap.size W w' := by
  by_cases h1 : (1048576 : Int) < s.size
  · go_enter Try.func13, Try.ntmps13
    go_wp2_with fail
    refine (szVal_big _ _ _ _ _ hs (by omega) (by omega) h1).mono ?_
    rintro e w1 ⟨rfl, hb1⟩
    go_wp2
    go_ret
    exact ⟨rfl, bel_trans (bel_alloc (bel_refl _) _) hb1⟩
  · go_enter Try.func13, Try.ntmps13
    go_wp2_with fail
    refine (szVal_fit _ _ _ _ _ (by omega) (by omega)).mono ?_
    rintro e w1 ⟨rfl, hb1⟩
    have a0 := old_cell hb1 (b := W.heap.size) (o := 0) (v := .int .i64 k) (by go_simp)
    have a1 := old_cell hb1 (b := W.heap.size) (o := 1) (v := .int .i64 n) (by go_simp)
    have a2 := old_cell hb1 (b := W.heap.size) (o := 2) (v := .string s) (by go_simp)
    have g1 := bel_trans (bel_alloc (bel_refl W) _) hb1
    clear hb1
    go_wp2_with fail
    refine (toVal_any _ _ _ _).mono ?_
    rintro e w2 ⟨rfl, hb⟩
    replace a0 := old_cell hb a0; replace a1 := old_cell hb a1; replace a2 := old_cell hb a2
    have g2 := bel_trans g1 hb
    clear g1 hb
    go_wp2_with fail
    refine (specValOk_any _ _ _ _ hs).mono ?_
    rintro e w3 ⟨rfl, hb⟩
    replace a0 := old_cell hb a0; replace a1 := old_cell hb a1; replace a2 := old_cell hb a2
    have g3 := bel_trans g2 hb
    clear g2 hb
    go_wp2_with fail
    refine (toVal_any _ _ _ _).mono ?_
    rintro e w4 ⟨rfl, hb⟩
    have g4 := bel_trans g3 hb
    clear g3 hb
    go_wp2_with fail
    refine (implValOk_any _ _ _ _ hs).mono ?_
    rintro e w5 ⟨rfl, hb⟩
    go_wp2
    go_ret
    exact ⟨rfl, bel_trans g4 hb⟩

theorem own : ownKnob Try.prog.godebug = none := by kernel_rfl
theorem laidOut : laidOutB Try.prog = true := by kernel_rfl
theorem lifted (os : Os) (started : os.Started) (H : Type) (enc : TypeId × Value → H) :
    ReturnsInHanded {} Try.checked os 13 .any (Rows.fnExactValOkSpec.pre6 enc Try.prog Try.f13 Rows.fnExactValOkRow.domain false) (Rows.fnExactValOkSpec.post enc Try.prog Try.f13 false true false false) := by
  refine returnsInHanded_of_change (C := Try.checked) own started (by kernel_rfl) Try.func13
    (ChangeSpec.witness6 (enc := enc) (C := Try.checked) false ⟨#[], #[.agg #[.int .i64 0, .int .i64 0, .string ByteArray.empty]], []⟩ 8 (by kernel_rfl) (by kernel_rfl) (by kernel_rfl) (by kernel_rfl)) ?_
  intro W base args ds gs before hval0 hW hcnd _
  have hval : ∀ (j : Nat) t v, Try.f13.params[j]? = some t → args[j]? = some v → Value.okWide Try.prog W .any base t v := hval0
  have hW' := hW
  obtain ⟨p, q, hA0, hV, rfl, hfz, hnd⟩ := hW
  have hA : DataW.TrodAll enc Try.prog W 0 (fun _ => true) true Try.f13.params.toList args.toList ds p := hA0
  rw [Try.params13] at hA hval
  obtain ⟨v0, vs0, d0, ds0, p0, q0, hargs, rfl, rfl, h0, r0⟩ := trodAll_cons hA
  obtain ⟨rfl, rfl, rfl⟩ := trodAll_nil r0
  obtain rfl : args = #[v0] := by cases args; simp_all
  obtain ⟨rfl, rfl⟩ := trodVars_none hV
  have lt0 : ∀ x ∈ p0, x.block < W.heap.size := by obtain ⟨m, hm⟩ := h0; exact DataW.trod_lt m _ _ _ hm
  obtain ⟨k0, m0, s0, hv0, hs0⟩ := open_val Try.underlying44 Try.underlying3 Try.underlying3 Try.underlying9 (by kernel_rfl) (by kernel_rfl) (hval 0 44 v0 rfl rfl) h0
  subst hv0
  clear hA0 hval0
  refine (walk k0 m0 s0 W hs0).mono fun e W' ⟨he, bel⟩ => ?_
  subst he
  exact ⟨_, rfl, _, _, _, [], _, [], hW', trodAll_mk1 (shut_bool Try.underlying4 _), (trodAll_cons_mk (Below.trod laidOut (by kernel_rfl) (of_decide_eq_true (by kernel_rfl)) h0 bel lt0) trodAll_mk0), rfl, bel.frame _, fun h => by cases h⟩
theorem over : Rows.fnExactValOkRow.holds Try.pinned (OpenSpec.ofChange Rows.fnExactValOkSpec) :=
  OpenClaim.holds_of_wide 13 Try.f13 rfl rfl rfl rfl rfl rfl rfl ⟨rfl, rfl, rfl, rfl, rfl⟩ rfl rfl rfl rfl rfl (by kernel_rfl) Try.func13 (by kernel_rfl)
    (of_decide_eq_true (by kernel_rfl)) (by unfold Func.isWrapper; first | (rw [if_pos (by decide +kernel)]; kernel_rfl) | (rw [if_neg (by decide +kernel)]; exact ⟨rfl, rfl⟩))
    (fun os started H enc _ => lifted os started H enc)
theorem proved : Rows.FnExactValOkSaid := over
end Go.Proofs.Ytpmigmpghmccdaa.fnExactValOk
