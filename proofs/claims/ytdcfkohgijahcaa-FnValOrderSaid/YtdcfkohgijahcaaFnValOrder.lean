/- The law FnValOrder returns true at every input, and leaves what it was given as it was. No condition. -/
import Derived.Test.YtdcfkohgijahcaaPlainVal
import Derived.Test.YtdcfkohgijahcaaDrawV
import Derived.Test.YtdcfkohgijahcaaAt
import Derived.Test.YtdcfkohgijahcaaRows
import Derived.Test.YtdcfkohgijahcaaRead
namespace Go.Proofs.Ytdcfkohgijahcaa.fnValOrder
open Go.ChangeShapes Go.WideShapes Go.ChangeAt Go.RowKit
open Go.ChangeMaps (open_string shut_string)
set_option linter.unusedVariables false
set_option maxRecDepth 100000
set_option maxHeartbeats 20000000

theorem walk (A : Option Addr) (n c : Nat) (code : List UInt8) (W : World) (hs : n ≤ c ∧ c ≤ maxLen ∧ RdB W W.heap.size A n code) :
    Calls Try.prog 6 #[.slice A n c] W fun e w' => e = .returned (.bool true) ∧ Below W.heap.size W w' := by
  obtain ⟨hnc, _, hr⟩ := hs
  by_cases hbig : (1048576 : Int) < n
  · go_enter Try.func6, Try.ntmps6
    go_wp2_with fail
    refine (big_any _ _ _ _).mono ?_
    rw [decide_eq_true hbig]
    rintro e w' ⟨rfl, rfl⟩
    go_wp2
    go_ret
    exact ⟨rfl, Below.refl _ _⟩
  · go_enter Try.func6, Try.ntmps6
    go_wp2_with fail
    refine (big_any _ _ _ _).mono ?_
    rw [decide_eq_false (by omega)]
    rintro e w' ⟨rfl, rfl⟩
    go_wp2_with fail
    refine (DrawLessVal_any A n c code W _ hr (Nat.le_refl _) (by omega)).mono ?_
    rintro e w1 ⟨k, m, s, k2, m2, s2, hs, hs2, rfl, g1⟩
    have tri := lessV_tri ⟨k, m, s⟩ ⟨k2, m2, s2⟩
    rcases tri with ⟨h1, h2, h3⟩ | ⟨h1, h2, h3⟩ | ⟨h3, h1⟩
    · have H1 := Lib.hid h1; have H2 := Lib.hid h2; have H3 := Lib.hid h3; clear h1 h2 h3
      go_wp2_with fail
      refine (implLessVal_any k m s k2 m2 s2 _).mono ?_
      rw [H1.out]
      rintro e w2 ⟨rfl, hb⟩
      have g2 : Below w1.heap.size w1 w2 := (by repeat (first | with_reducible exact bel_refl _ | with_reducible assumption | with_reducible refine bel_set ?_ (by first | (simp; done) | (simp; omega) | omega) _ | with_reducible refine bel_alloc ?_ _ | with_reducible refine bel_drew ?_ | with_reducible refine bel_drewN ?_ _ | with_reducible refine bel_trans ?_ (by assumption)))
      have a0 := old_cell hb (b := w1.heap.size) (o := 0) (v := .int .i64 k) (by go_simp)
      have a1 := old_cell hb (b := w1.heap.size) (o := 1) (v := .int .i64 m) (by go_simp)
      have a2 := old_cell hb (b := w1.heap.size) (o := 2) (v := .string s) (by go_simp)
      have b0 := old_cell hb (b := w1.heap.size + 1) (o := 0) (v := .int .i64 k2) (by go_simp)
      have b1 := old_cell hb (b := w1.heap.size + 1) (o := 1) (v := .int .i64 m2) (by go_simp)
      have b2 := old_cell hb (b := w1.heap.size + 1) (o := 2) (v := .string s2) (by go_simp)
      clear hb
      go_wp2_with fail
      refine (implLessVal_any k2 m2 s2 k m s _).mono ?_
      rw [H2.out]
      rintro e w3 ⟨rfl, hb⟩
      replace a0 := old_cell hb a0; replace a1 := old_cell hb a1; replace a2 := old_cell hb a2
      replace b0 := old_cell hb b0; replace b1 := old_cell hb b1; replace b2 := old_cell hb b2
      go_wp2_with fail
      all_goals first
        | (exfalso; exact H3.out (by rw [Vl.mk.injEq]; exact ⟨by assumption, by assumption, (str_ext _ _).1 (by assumption)⟩))
        | (refine (specLessVal_any _ _ _ _ _ _ _).mono ?_; rintro e w4 ⟨rfl, hb4⟩; have h1 := H1.out; (try simp only [*] at h1); rw [h1]; go_wp2; go_ret; exact ⟨rfl, (by repeat (first | with_reducible exact bel_refl _ | with_reducible assumption | with_reducible refine bel_set ?_ (by first | (simp; done) | (simp; omega) | omega) _ | with_reducible refine bel_alloc ?_ _ | with_reducible refine bel_drew ?_ | with_reducible refine bel_drewN ?_ _ | with_reducible refine bel_trans ?_ (by assumption)))⟩)
    · have H1 := Lib.hid h1; have H2 := Lib.hid h2; have H3 := Lib.hid h3; clear h1 h2 h3
      go_wp2_with fail
      refine (implLessVal_any k m s k2 m2 s2 _).mono ?_
      rw [H1.out]
      rintro e w2 ⟨rfl, hb⟩
      have g2 : Below w1.heap.size w1 w2 := (by repeat (first | with_reducible exact bel_refl _ | with_reducible assumption | with_reducible refine bel_set ?_ (by first | (simp; done) | (simp; omega) | omega) _ | with_reducible refine bel_alloc ?_ _ | with_reducible refine bel_drew ?_ | with_reducible refine bel_drewN ?_ _ | with_reducible refine bel_trans ?_ (by assumption)))
      have a0 := old_cell hb (b := w1.heap.size) (o := 0) (v := .int .i64 k) (by go_simp)
      have a1 := old_cell hb (b := w1.heap.size) (o := 1) (v := .int .i64 m) (by go_simp)
      have a2 := old_cell hb (b := w1.heap.size) (o := 2) (v := .string s) (by go_simp)
      have b0 := old_cell hb (b := w1.heap.size + 1) (o := 0) (v := .int .i64 k2) (by go_simp)
      have b1 := old_cell hb (b := w1.heap.size + 1) (o := 1) (v := .int .i64 m2) (by go_simp)
      have b2 := old_cell hb (b := w1.heap.size + 1) (o := 2) (v := .string s2) (by go_simp)
      clear hb
      go_wp2_with fail
      refine (implLessVal_any k2 m2 s2 k m s _).mono ?_
      rw [H2.out]
      rintro e w3 ⟨rfl, hb⟩
      replace a0 := old_cell hb a0; replace a1 := old_cell hb a1; replace a2 := old_cell hb a2
      replace b0 := old_cell hb b0; replace b1 := old_cell hb b1; replace b2 := old_cell hb b2
      go_wp2_with fail
      all_goals first
        | (exfalso; exact H3.out (by rw [Vl.mk.injEq]; exact ⟨by assumption, by assumption, (str_ext _ _).1 (by assumption)⟩))
        | (refine (specLessVal_any _ _ _ _ _ _ _).mono ?_; rintro e w4 ⟨rfl, hb4⟩; have h1 := H1.out; (try simp only [*] at h1); rw [h1]; go_wp2; go_ret; exact ⟨rfl, (by repeat (first | with_reducible exact bel_refl _ | with_reducible assumption | with_reducible refine bel_set ?_ (by first | (simp; done) | (simp; omega) | omega) _ | with_reducible refine bel_alloc ?_ _ | with_reducible refine bel_drew ?_ | with_reducible refine bel_drewN ?_ _ | with_reducible refine bel_trans ?_ (by assumption)))⟩)
    · injection h3 with e1 e2 e3
      subst e1 e2 e3
      have H1 := Lib.hid h1; clear h1
      go_wp2_with fail
      refine (implLessVal_any k m s k m s _).mono ?_
      rw [H1.out]
      rintro e w2 ⟨rfl, hb⟩
      have g2 : Below w1.heap.size w1 w2 := (by repeat (first | with_reducible exact bel_refl _ | with_reducible assumption | with_reducible refine bel_set ?_ (by first | (simp; done) | (simp; omega) | omega) _ | with_reducible refine bel_alloc ?_ _ | with_reducible refine bel_drew ?_ | with_reducible refine bel_drewN ?_ _ | with_reducible refine bel_trans ?_ (by assumption)))
      have a0 := old_cell hb (b := w1.heap.size) (o := 0) (v := .int .i64 k) (by go_simp)
      have a1 := old_cell hb (b := w1.heap.size) (o := 1) (v := .int .i64 m) (by go_simp)
      have a2 := old_cell hb (b := w1.heap.size) (o := 2) (v := .string s) (by go_simp)
      have b0 := old_cell hb (b := w1.heap.size + 1) (o := 0) (v := .int .i64 k) (by go_simp)
      have b1 := old_cell hb (b := w1.heap.size + 1) (o := 1) (v := .int .i64 m) (by go_simp)
      have b2 := old_cell hb (b := w1.heap.size + 1) (o := 2) (v := .string s) (by go_simp)
      clear hb
      go_wp2_with fail
      refine (implLessVal_any k m s k m s _).mono ?_
      rw [H1.out]
      rintro e w3 ⟨rfl, hb⟩
      replace a0 := old_cell hb a0; replace a1 := old_cell hb a1; replace a2 := old_cell hb a2
      replace b0 := old_cell hb b0; replace b1 := old_cell hb b1; replace b2 := old_cell hb b2
      go_wp2_with fail
      refine (specLessVal_any k m s k m s _).mono ?_
      rw [H1.out]
      rintro e w4 ⟨rfl, hb4⟩
      go_wp2
      go_ret
      exact ⟨rfl, (by repeat (first | with_reducible exact bel_refl _ | with_reducible assumption | with_reducible refine bel_set ?_ (by first | (simp; done) | (simp; omega) | omega) _ | with_reducible refine bel_alloc ?_ _ | with_reducible refine bel_drew ?_ | with_reducible refine bel_drewN ?_ _ | with_reducible refine bel_trans ?_ (by assumption)))⟩

theorem own : ownKnob Try.prog.godebug = none := by kernel_rfl
theorem laidOut : laidOutB Try.prog = true := by kernel_rfl
theorem lifted (os : Os) (started : os.Started) (H : Type) (enc : TypeId × Value → H) :
    ReturnsInHanded {} Try.checked os 6 .any (Rows.fnValOrderSpec.pre6 enc Try.prog Try.f6 Rows.fnValOrderRow.domain false) (Rows.fnValOrderSpec.post enc Try.prog Try.f6 false true false false) := by
  refine returnsInHanded_of_change (C := Try.checked) own started (by kernel_rfl) Try.func6
    (ChangeSpec.witness6 (enc := enc) (C := Try.checked) false ⟨#[], #[.slice none 0 0], []⟩ 8 (by kernel_rfl) (by kernel_rfl) (by kernel_rfl) (by kernel_rfl)) ?_
  intro W base args ds gs before hval0 hW hcnd _
  have hval : ∀ (j : Nat) t v, Try.f6.params[j]? = some t → args[j]? = some v → Value.okWide Try.prog W .any base t v := hval0
  have hW' := hW
  obtain ⟨p, q, hA0, hV, rfl, hfz, hnd⟩ := hW
  have hA : DataW.TrodAll enc Try.prog W 0 (fun _ => true) true Try.f6.params.toList args.toList ds p := hA0
  rw [Try.params6] at hA hval
  obtain ⟨v0, vs0, d0, ds0, p0, q0, hargs, rfl, rfl, h0, r0⟩ := trodAll_cons hA
  obtain ⟨rfl, rfl, rfl⟩ := trodAll_nil r0
  obtain rfl : args = #[v0] := by cases args; simp_all
  obtain ⟨rfl, rfl⟩ := trodVars_none hV
  have lt0 : ∀ x ∈ p0, x.block < W.heap.size := by obtain ⟨m, hm⟩ := h0; exact DataW.trod_lt m _ _ _ hm
  obtain ⟨A0, n0, c0, b0, hv0, hs0⟩ := open_bytes Try.underlying31 Try.underlying5 (by kernel_rfl) (hval 0 31 v0 rfl rfl) h0
  subst hv0
  clear hA0 hval0
  refine (walk A0 n0 c0 b0 W hs0).mono fun e W' ⟨he, bel⟩ => ?_
  subst he
  exact ⟨_, rfl, _, _, _, [], _, [], hW', trodAll_mk1 (shut_bool Try.underlying4 _), (trodAll_cons_mk (Below.trod laidOut (by kernel_rfl) (of_decide_eq_true (by kernel_rfl)) h0 bel lt0) trodAll_mk0), rfl, bel.frame _, fun h => by cases h⟩
theorem over : Rows.fnValOrderRow.holds Try.pinned (OpenSpec.ofChange Rows.fnValOrderSpec) :=
  OpenClaim.holds_of_wide 6 Try.f6 rfl rfl rfl rfl rfl rfl rfl ⟨rfl, rfl, rfl, rfl, rfl⟩ rfl rfl rfl rfl rfl (by kernel_rfl) Try.func6 (by kernel_rfl)
    (of_decide_eq_true (by kernel_rfl)) (by unfold Func.isWrapper; first | (rw [if_pos (by decide +kernel)]; kernel_rfl) | (rw [if_neg (by decide +kernel)]; exact ⟨rfl, rfl⟩))
    (fun os started H enc _ => lifted os started H enc)
theorem proved : Rows.FnValOrderSaid := over
end Go.Proofs.Ytdcfkohgijahcaa.fnValOrder
