/- The law FnExactLessVal returns true at every input, and leaves what it was given as it was. No condition. -/
import Derived.Test.YtpmigmpghmccdaaLess
import Derived.Test.YtpmigmpghmccdaaRows
import Derived.Test.YtpmigmpghmccdaaRead
namespace Go.Proofs.Ytpmigmpghmccdaa.fnExactLessVal
open Go.ChangeShapes Go.WideShapes Go.ChangeAt Go.RowKit
open Go.ChangeMaps (open_string shut_string)
set_option linter.unusedVariables false
set_option maxRecDepth 100000
set_option maxHeartbeats 2000000

theorem walk (k n : Int) (s : ByteArray) (k2 n2 : Int) (s2 : ByteArray) (W : World) (hs : s.size ≤ 9223372036854775807) (hs2 : s2.size ≤ 9223372036854775807) :
    Calls Try.prog 12 #[.agg #[.int .i64 k, .int .i64 n, .string s], .agg #[.int .i64 k2, .int .i64 n2, .string s2]] W fun e w' => e = .returned (.bool true) ∧ Below W.heap.size W w' := by
  by_cases h1 : (1048576 : Int) < s.size
  · go_enter Try.func12, Try.ntmps12
    go_wp2_with fail
    refine (szVal_big _ _ _ _ _ hs (by omega) (by omega) h1).mono ?_
    rintro e w1 ⟨rfl, hb1⟩
    go_wp2
    go_ret
    exact ⟨rfl, bel_trans (bel_alloc (bel_alloc (bel_refl _) _) _) hb1⟩
  · by_cases h2 : (1048576 : Int) - s.size < s2.size
    · go_enter Try.func12, Try.ntmps12
      go_wp2_with fail
      refine (szVal_fit _ _ _ _ _ (by omega) (by omega)).mono ?_
      rintro e w1 ⟨rfl, hb1⟩
      obtain ⟨hc1, hf1⟩ := bcell hb1
      go_wp2_with fail
      refine (szVal_big _ _ _ _ _ hs2 (by omega) (by omega) h2).mono ?_
      rintro e w2 ⟨rfl, hb2⟩
      go_wp2
      go_ret
      exact ⟨rfl, bel_trans (bel_trans (bel_alloc (bel_alloc (bel_refl _) _) _) hb1) hb2⟩
    · go_enter Try.func12, Try.ntmps12
      go_wp2_with fail
      refine (szVal_fit _ _ _ _ _ (by omega) (by omega)).mono ?_
      rintro e w1 ⟨rfl, hb1⟩
      have a0 := old_cell hb1 (b := W.heap.size) (o := 0) (v := .int .i64 k) (by go_simp)
      have a1 := old_cell hb1 (b := W.heap.size) (o := 1) (v := .int .i64 n) (by go_simp)
      have a2 := old_cell hb1 (b := W.heap.size) (o := 2) (v := .string s) (by go_simp)
      have b0 := old_cell hb1 (b := W.heap.size + 1) (o := 0) (v := .int .i64 k2) (by go_simp)
      have b1 := old_cell hb1 (b := W.heap.size + 1) (o := 1) (v := .int .i64 n2) (by go_simp)
      have b2 := old_cell hb1 (b := W.heap.size + 1) (o := 2) (v := .string s2) (by go_simp)
      have g1 := bel_trans (bel_alloc (bel_alloc (bel_refl W) _) _) hb1
      clear hb1
      go_wp2_with fail
      refine (szVal_fit _ _ _ _ _ (by omega) (by omega)).mono ?_
      rintro e w2 ⟨rfl, hb⟩
      replace a0 := old_cell hb a0; replace a1 := old_cell hb a1; replace a2 := old_cell hb a2; replace b0 := old_cell hb b0; replace b1 := old_cell hb b1; replace b2 := old_cell hb b2
      have g2 := bel_trans g1 hb
      clear g1 hb
      go_wp2_with fail
      go_region_held3 (fun w' => w'.cell? ⟨W.heap.size, 0, none⟩ = some (.int .i64 k) ∧ w'.cell? ⟨W.heap.size, 1, none⟩ = some (.int .i64 n) ∧ w'.cell? ⟨W.heap.size, 2, none⟩ = some (.string s) ∧ w'.cell? ⟨W.heap.size + 1, 0, none⟩ = some (.int .i64 k2) ∧ w'.cell? ⟨W.heap.size + 1, 1, none⟩ = some (.int .i64 n2) ∧ w'.cell? ⟨W.heap.size + 1, 2, none⟩ = some (.string s2) ∧ Below W.heap.size W w') (first | exact keep6 (by assumption) (by assumption) | exact ⟨a0, a1, a2, b0, b1, b2, bel_drew g2⟩)
        (first | (go_at_call 38; refine (toVal_any _ _ _ _).mono ?_; rintro e w' ⟨rfl, hb⟩) | (go_at_call 37; refine (specLessVal_any _ _ _ _ _ _ _).mono ?_; rintro e w' ⟨rfl, hb⟩))
      rename_i hHeld
      obtain ⟨a0, a1, a2, b0, b1, b2, g3⟩ := hHeld
      go_wp2_with fail
      go_region_held3 (fun w' => w'.cell? ⟨W.heap.size, 0, none⟩ = some (.int .i64 k) ∧ w'.cell? ⟨W.heap.size, 1, none⟩ = some (.int .i64 n) ∧ w'.cell? ⟨W.heap.size, 2, none⟩ = some (.string s) ∧ w'.cell? ⟨W.heap.size + 1, 0, none⟩ = some (.int .i64 k2) ∧ w'.cell? ⟨W.heap.size + 1, 1, none⟩ = some (.int .i64 n2) ∧ w'.cell? ⟨W.heap.size + 1, 2, none⟩ = some (.string s2) ∧ Below W.heap.size W w') (first | exact keep6 (by assumption) (by assumption) | exact ⟨a0, a1, a2, b0, b1, b2, bel_drew g3⟩)
        (first | (go_at_call 38; refine (toVal_any _ _ _ _).mono ?_; rintro e w' ⟨rfl, hb⟩) | (go_at_call 39; refine (implLessVal_any _ _ _ _ _ _ _).mono ?_; rintro e w' ⟨rfl, hb⟩))
      rename_i hHeld
      obtain ⟨_, _, _, _, _, _, g4⟩ := hHeld
      go_wp2
      go_ret
      exact ⟨rfl, g4⟩

theorem own : ownKnob Try.prog.godebug = none := by kernel_rfl
theorem laidOut : laidOutB Try.prog = true := by kernel_rfl
theorem lifted (os : Os) (started : os.Started) (H : Type) (enc : TypeId × Value → H) :
    ReturnsInHanded {} Try.checked os 12 .any (Rows.fnExactLessValSpec.pre6 enc Try.prog Try.f12 Rows.fnExactLessValRow.domain false) (Rows.fnExactLessValSpec.post enc Try.prog Try.f12 false true false false) := by
  refine returnsInHanded_of_change (C := Try.checked) own started (by kernel_rfl) Try.func12
    (ChangeSpec.witness6 (enc := enc) (C := Try.checked) false ⟨#[], #[.agg #[.int .i64 0, .int .i64 0, .string ByteArray.empty], .agg #[.int .i64 0, .int .i64 0, .string ByteArray.empty]], []⟩ 8 (by kernel_rfl) (by kernel_rfl) (by kernel_rfl) (by kernel_rfl)) ?_
  intro W base args ds gs before hval0 hW hcnd _
  have hval : ∀ (j : Nat) t v, Try.f12.params[j]? = some t → args[j]? = some v → Value.okWide Try.prog W .any base t v := hval0
  have hW' := hW
  obtain ⟨p, q, hA0, hV, rfl, hfz, hnd⟩ := hW
  have hA : DataW.TrodAll enc Try.prog W 0 (fun _ => true) true Try.f12.params.toList args.toList ds p := hA0
  rw [Try.params12] at hA hval
  obtain ⟨v0, vs0, d0, ds0, p0, q0, hargs, rfl, rfl, h0, r0⟩ := trodAll_cons hA
  obtain ⟨v1, vs1, d1, ds1, p1, q1, rfl, rfl, rfl, h1, r1⟩ := trodAll_cons r0
  obtain ⟨rfl, rfl, rfl⟩ := trodAll_nil r1
  obtain rfl : args = #[v0, v1] := by cases args; simp_all
  obtain ⟨rfl, rfl⟩ := trodVars_none hV
  have lt0 : ∀ x ∈ p0, x.block < W.heap.size := by obtain ⟨m, hm⟩ := h0; exact DataW.trod_lt m _ _ _ hm
  obtain ⟨k0, m0, s0, hv0, hs0⟩ := open_val Try.underlying44 Try.underlying3 Try.underlying3 Try.underlying9 (by kernel_rfl) (by kernel_rfl) (hval 0 44 v0 rfl rfl) h0
  subst hv0
  have lt1 : ∀ x ∈ p1, x.block < W.heap.size := by obtain ⟨m, hm⟩ := h1; exact DataW.trod_lt m _ _ _ hm
  obtain ⟨k1, m1, s1, hv1, hs1⟩ := open_val Try.underlying44 Try.underlying3 Try.underlying3 Try.underlying9 (by kernel_rfl) (by kernel_rfl) (hval 1 44 v1 rfl rfl) h1
  subst hv1
  clear hA0 hval0
  refine (walk k0 m0 s0 k1 m1 s1 W hs0 hs1).mono fun e W' ⟨he, bel⟩ => ?_
  subst he
  exact ⟨_, rfl, _, _, _, [], _, [], hW', trodAll_mk1 (shut_bool Try.underlying4 _), (trodAll_cons_mk (Below.trod laidOut (by kernel_rfl) (of_decide_eq_true (by kernel_rfl)) h0 bel lt0) (trodAll_cons_mk (Below.trod laidOut (by kernel_rfl) (of_decide_eq_true (by kernel_rfl)) h1 bel lt1) trodAll_mk0)), rfl, bel.frame _, fun h => by cases h⟩
theorem over : Rows.fnExactLessValRow.holds Try.pinned (OpenSpec.ofChange Rows.fnExactLessValSpec) :=
  OpenClaim.holds_of_wide 12 Try.f12 rfl rfl rfl rfl rfl rfl rfl ⟨rfl, rfl, rfl, rfl, rfl⟩ rfl rfl rfl rfl rfl (by kernel_rfl) Try.func12 (by kernel_rfl)
    (of_decide_eq_true (by kernel_rfl)) (by unfold Func.isWrapper; first | (rw [if_pos (by decide +kernel)]; kernel_rfl) | (rw [if_neg (by decide +kernel)]; exact ⟨rfl, rfl⟩))
    (fun os started H enc _ => lifted os started H enc)
theorem proved : Rows.FnExactLessValSaid := over
end Go.Proofs.Ytpmigmpghmccdaa.fnExactLessVal
