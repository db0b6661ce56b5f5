/- The law FnExactPutNum returns true at every input, and leaves what it was given as it was. No condition. -/
import Derived.Test.YtpmigmpghmccdaaPut3
import Derived.Test.YtpmigmpghmccdaaBy
import Derived.Test.YtpmigmpghmccdaaRows
import Derived.Test.YtpmigmpghmccdaaRead
namespace Go.Proofs.Ytpmigmpghmccdaa.fnExactPutNum
open Go.ChangeShapes Go.WideShapes Go.ChangeAt Go.RowKit
open Go.ChangeMaps (open_string shut_string)
set_option linter.unusedVariables false
set_option maxRecDepth 100000
set_option maxHeartbeats 2000000

theorem walk (A : Option Addr) (n c : Nat) (bs : List UInt8) (x : Int) (W : World) (hs : n ≤ c ∧ c ≤ maxLen ∧ RdB W W.heap.size A n bs) (hx : -9223372036854775808 ≤ x ∧ x ≤ 9223372036854775807) :
    Calls Try.prog 8 #[.slice A n c, .int .i64 x] W fun e w' => e = .returned (.bool true) ∧ Below W.heap.size W w' := by
  obtain ⟨hnc, _, hr⟩ := hs
  by_cases hbig : (1048576 : Int) < n
  · go_enter Try.func8, Try.ntmps8
    go_wp2
    go_ret
    exact ⟨rfl, Below.refl _ _⟩
  · have hl := hr.len
    obtain ⟨rs, hrs, hlen⟩ : ∃ rs, bs ++ putN x = rs ∧ rs.length ≤ 1048600 := ⟨_, rfl, by have := putN_len x; simp; omega⟩
    have HL := Lib.hid hl; clear hl
    have HR := Lib.hid hrs; clear hrs
    go_enter Try.func8, Try.ntmps8
    go_wp2_with fail
    refine (toByteS_any A n c bs W _ hr (Nat.le_refl _) (by omega)).mono ?_
    rintro e w1 ⟨v1, rfl, ho1, hb1, hs1⟩
    obtain ⟨A1, c1, rfl, hc1, hr1⟩ := ho1.form
    go_wp2_with fail
    refine (specPutNum_any A1 bs.length c1 bs x w1 _ hr1 (Nat.le_refl _) (by rw [HL.out]; omega)).mono ?_
    rw [HR.out]
    rintro e w2 ⟨v2, rfl, ho2, hb2, hs2⟩
    obtain ⟨A2, c2, rfl, hc2, hr2⟩ := ho2.form
    have in2 := InB.of_own ho2
    have bel2 := hb1.trans (hb2.mono hs1)
    go_wp2_with fail
    refine (toByteS_any A n c bs w2 _ (hr.below bel2) (by omega) (by omega)).mono ?_
    rintro e w3 ⟨v3, rfl, ho3, hb3, hs3⟩
    obtain ⟨A3, c3, rfl, hc3, hr3⟩ := ho3.form
    have in3 := InB.of_own ho3
    have bel3 := bel2.trans (hb3.mono (by omega))
    go_wp2_with fail
    refine (implPutNum_any A3 bs.length c3 bs x w3 _ hr3 (Nat.le_refl _) (by rw [HL.out]; omega)).mono ?_
    rw [HR.out]
    rintro e w4 ⟨v4, rfl, ho4, hb4, hs4⟩
    obtain ⟨A4, c4, rfl, hc4, hr4⟩ := ho4.form
    have in4 := InB.of_own ho4
    have bel4 := bel3.trans (hb4.mono (by omega))
    have ho2 := own_kept (own_kept ho2 hb3) hb4
    have ho3 := own_kept ho3 hb4
    go_wp2_with fail
    refine (eqByteS_any A4 A2 rs.length c4 rs.length c2 rs rs w4 _ hr4 (Rd.of_own ho2) (by omega)).mono ?_
    rw [decide_eq_true rfl]
    rintro e w5 ⟨rfl, m5, rfl⟩
    go_wp2_with fail
    refine (toByteS_any A n c bs (w4.drewN m5) _ ((hr.below bel4).drewN m5) (by simp; omega) (by omega)).mono ?_
    rintro e w6 ⟨v6, rfl, ho6, hb6, hs6⟩
    obtain ⟨A6, c6, rfl, hc6, hr6⟩ := ho6.form
    have bel6 := (Below.drewN' bel4 m5).trans (hb6.mono (by simp; omega))
    have ho2 := own_kept (ownsRow_drewN ho2 m5) hb6
    have ho3 := own_kept (ownsRow_drewN ho3 m5) hb6
    have ho4 := own_kept (ownsRow_drewN ho4 m5) hb6
    go_wp2_with fail
    refine (eqByteS_any A3 A6 bs.length c3 bs.length c6 bs bs w6 _ (Rd.of_own ho3) hr6 (by rw [HL.out]; omega)).mono ?_
    rw [decide_eq_true rfl]
    rintro e w7 ⟨rfl, m7, rfl⟩
    go_wp2_with fail
    refine (markByteS_any _ bs 1 1 rfl (w6.drewN m7) _ (ownsRow_drewN ho3 m7) (by rw [HL.out]; omega) (by omega)).mono ?_
    rintro e w8 ⟨rfl, ho38, hg8⟩
    have bel8 := (Below.drewN' bel6 m7).trans (below_of_grown hg8 in3 (by omega) (by simp at hs6 ⊢; omega))
    have hs8 := hg8.size
    have ho2 := own_far (ownsRow_drewN ho2 m7) hg8 in2 in3 (by omega)
    have ho4 := own_far (ownsRow_drewN ho4 m7) hg8 in4 in3 (by omega)
    go_wp2_with fail
    refine (eqByteS_any A4 A2 rs.length c4 rs.length c2 rs rs w8 _ (Rd.of_own ho4) (Rd.of_own ho2) (by omega)).mono ?_
    rw [decide_eq_true rfl]
    rintro e w9 ⟨rfl, m9, rfl⟩
    go_wp2_with fail
    refine (markByteS_any _ rs 1 1 rfl (w8.drewN m9) _ (ownsRow_drewN ho4 m9) (by omega) (by omega)).mono ?_
    rintro e w10 ⟨rfl, ho410, hg10⟩
    have bel10 := (Below.drewN' bel8 m9).trans (below_of_grown hg10 in4 (by omega) (by simp at hs8 hs6 ⊢; omega))
    have hs10 := hg10.size
    have ho2 := own_far (ownsRow_drewN ho2 m9) hg10 in2 in4 (by omega)
    have ho4 : w10.ownsRow w3.heap.size 5 1 (.slice A4 rs.length c4) rs.length ((marksB 1 rs.length).map bv) := by
      have := ho410
      unfold OwnB at this
      rwa [marksB_len] at this
    go_wp2_with fail
    refine (heldByteS_any A4 rs.length c4 1 1 rfl w10 _ (Rd.of_own ho4) (by omega) (by omega)).mono ?_
    rintro e w' ⟨rfl, rfl⟩
    go_wp2_with fail
    refine (toByteS_any A n c bs w10 _ (hr.below bel10) (by simp at hs8 hs6 hs10; omega) (by omega)).mono ?_
    rintro e w11 ⟨v11, rfl, ho11, hb11, hs11⟩
    obtain ⟨A11, c11, rfl, hc11, hr11⟩ := ho11.form
    have ho2 := own_kept ho2 hb11
    have ho4 := own_kept ho4 hb11
    have bel11 := bel10.trans (hb11.mono (by simp at hs8 hs6 hs10; omega))
    go_wp2_with fail
    refine (implPutNum_any A11 bs.length c11 bs x w11 _ hr11 (Nat.le_refl _) (by rw [HL.out]; omega)).mono ?_
    rw [HR.out]
    rintro e w12 ⟨v12, rfl, ho12, hb12, hs12⟩
    obtain ⟨A12, c12, rfl, hc12, hr12⟩ := ho12.form
    have ho2 := own_kept ho2 hb12
    have ho4 := own_kept ho4 hb12
    have bel12 := bel11.trans (hb12.mono (by simp at hs8 hs6 hs10; omega))
    go_wp2_with fail
    refine (eqByteS_any A12 A2 rs.length c12 rs.length c2 rs rs w12 _ hr12 (Rd.of_own ho2) (by omega)).mono ?_
    rw [decide_eq_true rfl]
    rintro e w13 ⟨rfl, m13, rfl⟩
    go_wp2_with fail
    refine (heldByteS_any A4 rs.length c4 1 1 rfl (w12.drewN m13) _ (Rd.of_own (ownsRow_drewN ho4 m13)) (by omega) (by omega)).mono ?_
    rintro e w' ⟨rfl, rfl⟩
    go_wp2
    go_ret
    exact ⟨rfl, Below.drewN' bel12 m13⟩

theorem own : ownKnob Try.prog.godebug = none := by kernel_rfl
theorem laidOut : laidOutB Try.prog = true := by kernel_rfl
theorem lifted (os : Os) (started : os.Started) (H : Type) (enc : TypeId × Value → H) :
    ReturnsInHanded {} Try.checked os 8 .any (Rows.fnExactPutNumSpec.pre6 enc Try.prog Try.f8 Rows.fnExactPutNumRow.domain false) (Rows.fnExactPutNumSpec.post enc Try.prog Try.f8 false true false false) := by
  refine returnsInHanded_of_change (C := Try.checked) own started (by kernel_rfl) Try.func8
    (ChangeSpec.witness6 (enc := enc) (C := Try.checked) false ⟨#[], #[.slice none 0 0, .int .i64 0], []⟩ 8 (by kernel_rfl) (by kernel_rfl) (by kernel_rfl) (by kernel_rfl)) ?_
  intro W base args ds gs before hval0 hW hcnd _
  have hval : ∀ (j : Nat) t v, Try.f8.params[j]? = some t → args[j]? = some v → Value.okWide Try.prog W .any base t v := hval0
  have hW' := hW
  obtain ⟨p, q, hA0, hV, rfl, hfz, hnd⟩ := hW
  have hA : DataW.TrodAll enc Try.prog W 0 (fun _ => true) true Try.f8.params.toList args.toList ds p := hA0
  rw [Try.params8] at hA hval
  obtain ⟨v0, vs0, d0, ds0, p0, q0, hargs, rfl, rfl, h0, r0⟩ := trodAll_cons hA
  obtain ⟨v1, vs1, d1, ds1, p1, q1, rfl, rfl, rfl, h1, r1⟩ := trodAll_cons r0
  obtain ⟨rfl, rfl, rfl⟩ := trodAll_nil r1
  obtain rfl : args = #[v0, v1] := by cases args; simp_all
  obtain ⟨rfl, rfl⟩ := trodVars_none hV
  have lt0 : ∀ x ∈ p0, x.block < W.heap.size := by obtain ⟨m, hm⟩ := h0; exact DataW.trod_lt m _ _ _ hm
  obtain ⟨A0, n0, c0, b0, hv0, hs0⟩ := open_bytes Try.underlying24 Try.underlying5 (by kernel_rfl) (hval 0 24 v0 rfl rfl) h0
  subst hv0
  have lt1 : ∀ x ∈ p1, x.block < W.heap.size := by obtain ⟨m, hm⟩ := h1; exact DataW.trod_lt m _ _ _ hm
  obtain ⟨x1, hv1, hs1⟩ := open_i64 Try.underlying3 (hval 1 3 v1 rfl rfl) h1
  subst hv1
  clear hA0 hval0
  refine (walk A0 n0 c0 b0 x1 W hs0 hs1).mono fun e W' ⟨he, bel⟩ => ?_
  subst he
  exact ⟨_, rfl, _, _, _, [], _, [], hW', trodAll_mk1 (shut_bool Try.underlying4 _), (trodAll_cons_mk (Below.trod laidOut (by kernel_rfl) (of_decide_eq_true (by kernel_rfl)) h0 bel lt0) (trodAll_cons_mk (Below.trod laidOut (by kernel_rfl) (of_decide_eq_true (by kernel_rfl)) h1 bel lt1) trodAll_mk0)), rfl, bel.frame _, fun h => by cases h⟩
theorem over : Rows.fnExactPutNumRow.holds Try.pinned (OpenSpec.ofChange Rows.fnExactPutNumSpec) :=
  OpenClaim.holds_of_wide 8 Try.f8 rfl rfl rfl rfl rfl rfl rfl ⟨rfl, rfl, rfl, rfl, rfl⟩ rfl rfl rfl rfl rfl (by kernel_rfl) Try.func8 (by kernel_rfl)
    (of_decide_eq_true (by kernel_rfl)) (by unfold Func.isWrapper; first | (rw [if_pos (by decide +kernel)]; kernel_rfl) | (rw [if_neg (by decide +kernel)]; exact ⟨rfl, rfl⟩))
    (fun os started H enc _ => lifted os started H enc)
theorem proved : Rows.FnExactPutNumSaid := over
end Go.Proofs.Ytpmigmpghmccdaa.fnExactPutNum
