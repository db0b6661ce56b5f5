/- The law FnAdded returns true at every input, and leaves what it was given as it was. No condition. -/
import Derived.Test.YtdcfkohgijahcaaPlainVal
import Derived.Test.YtdcfkohgijahcaaDrawV
import Derived.Test.YtdcfkohgijahcaaAt
import Derived.Test.YtdcfkohgijahcaaRows
import Derived.Test.YtdcfkohgijahcaaRead
namespace Go.Proofs.Ytdcfkohgijahcaa.fnAdded
open Go.ChangeShapes Go.WideShapes Go.ChangeAt Go.RowKit
open Go.ChangeMaps (open_string shut_string)
set_option linter.unusedVariables false
set_option maxRecDepth 100000
set_option maxHeartbeats 20000000

theorem walk (A : Option Addr) (n c : Nat) (code : List UInt8) (W : World) (hs : n ≤ c ∧ c ≤ maxLen ∧ RdB W W.heap.size A n code) :
    Calls Try.prog 7 #[.slice A n c] W fun e w' => e = .returned (.bool true) ∧ Below W.heap.size W w' := by
  obtain ⟨hnc, _, hr⟩ := hs
  by_cases hbig : (1048576 : Int) < n
  · go_enter Try.func7, Try.ntmps7
    go_wp2_with fail
    refine (big_any _ _ _ _).mono ?_
    rw [decide_eq_true hbig]
    rintro e w' ⟨rfl, rfl⟩
    go_wp2
    go_ret
    exact ⟨rfl, Below.refl _ _⟩
  · go_enter Try.func7, Try.ntmps7
    go_wp2_with fail
    refine (big_any _ _ _ _).mono ?_
    rw [decide_eq_false (by omega)]
    rintro e w' ⟨rfl, rfl⟩
    go_wp2_with fail
    refine (DrawAddVals_any A n c code W _ hr (Nat.le_refl _) (by omega)).mono ?_
    rintro e w1 ⟨k, m, s, k2, m2, s2, hs, hs2, rfl, g1⟩
    have hq : s.size ≤ 9223372036854775807 := by omega
    have hq2 : s2.size ≤ 9223372036854775807 := by omega
    rcases added ⟨k, m, s⟩ ⟨k2, m2, s2⟩ with h | ⟨x, y, hx, hy, x1, x2, y1, y2, z1, z2, r1, r2, r3⟩
    · dsimp only at h
      have H := Lib.hid h; clear h
      go_wp2_with fail
      refine (implAddVals_any k m s k2 m2 s2 _ hq hq2).mono ?_
      rw [H.out]
      dsimp only [tupV, zeroV]
      rintro e w2 ⟨rfl, hb⟩
      have g2 : Below w1.heap.size w1 w2 := (by repeat (first | with_reducible exact bel_refl _ | with_reducible assumption | with_reducible refine bel_set ?_ (by first | (simp; done) | (simp; omega) | omega) _ | with_reducible refine bel_alloc ?_ _ | with_reducible refine bel_drew ?_ | with_reducible refine bel_drewN ?_ _ | with_reducible refine bel_trans ?_ (by assumption)))
      have a0 := old_cell hb (b := w1.heap.size) (o := 0) (v := .int .i64 k) (by go_simp)
      have a1 := old_cell hb (b := w1.heap.size) (o := 1) (v := .int .i64 m) (by go_simp)
      have a2 := old_cell hb (b := w1.heap.size) (o := 2) (v := .string s) (by go_simp)
      have b0 := old_cell hb (b := w1.heap.size + 1) (o := 0) (v := .int .i64 k2) (by go_simp)
      have b1 := old_cell hb (b := w1.heap.size + 1) (o := 1) (v := .int .i64 m2) (by go_simp)
      have b2 := old_cell hb (b := w1.heap.size + 1) (o := 2) (v := .string s2) (by go_simp)
      have lb := cell_lt b0
      dsimp only at lb
      have la : w1.heap.size < w2.heap.size := by omega
      clear hb
      go_wp2_with fail
      refine (specAddVals_any k m s k2 m2 s2 _ hq hq2).mono ?_
      rw [H.out]
      dsimp only [tupV, zeroV]
      rintro e w3 ⟨rfl, hb⟩
      have g3 : Below w2.heap.size w2 w3 := (by repeat (first | with_reducible exact bel_refl _ | with_reducible assumption | with_reducible refine bel_set ?_ (by first | (simp; done) | (simp; omega) | omega) _ | with_reducible refine bel_alloc ?_ _ | with_reducible refine bel_drew ?_ | with_reducible refine bel_drewN ?_ _ | with_reducible refine bel_trans ?_ (by assumption)))
      have c0 := old_cell hb (b := w2.heap.size) (o := 0) (v := .int .i64 0) (by go_simp)
      have c1 := old_cell hb (b := w2.heap.size) (o := 1) (v := .int .i64 0) (by go_simp)
      have c2 := old_cell hb (b := w2.heap.size) (o := 2) (v := .string ⟨#[]⟩) (by go_simp)
      have lc := cell_lt c0
      dsimp only at lc
      clear hb
      go_wp2
      go_ret
      exact ⟨rfl, (by repeat (first | with_reducible exact bel_refl _ | with_reducible assumption | with_reducible refine bel_set ?_ (by first | (simp; done) | (simp; omega) | omega) _ | with_reducible refine bel_alloc ?_ _ | with_reducible refine bel_drew ?_ | with_reducible refine bel_drewN ?_ _ | with_reducible refine bel_trans ?_ (by assumption)))⟩
    · injection hx with e1 e2 e3
      injection hy with e4 e5 e6
      subst e1 e2 e3 e4 e5 e6
      dsimp only [intV] at r1 r2 r3
      have H1 := Lib.hid r1; have H2 := Lib.hid r2; have H3 := Lib.hid r3; clear r1 r2 r3
      go_wp2_with fail
      refine (implAddVals_any 1 m ⟨#[]⟩ 1 m2 ⟨#[]⟩ _ hq hq2).mono ?_
      rw [H1.out]
      dsimp only [tupV]
      rintro e w2 ⟨rfl, hb⟩
      have g2 : Below w1.heap.size w1 w2 := (by repeat (first | with_reducible exact bel_refl _ | with_reducible assumption | with_reducible refine bel_set ?_ (by first | (simp; done) | (simp; omega) | omega) _ | with_reducible refine bel_alloc ?_ _ | with_reducible refine bel_drew ?_ | with_reducible refine bel_drewN ?_ _ | with_reducible refine bel_trans ?_ (by assumption)))
      have a0 := old_cell hb (b := w1.heap.size) (o := 0) (v := .int .i64 1) (by go_simp)
      have a1 := old_cell hb (b := w1.heap.size) (o := 1) (v := .int .i64 m) (by go_simp)
      have a2 := old_cell hb (b := w1.heap.size) (o := 2) (v := .string ⟨#[]⟩) (by go_simp)
      have b0 := old_cell hb (b := w1.heap.size + 1) (o := 0) (v := .int .i64 1) (by go_simp)
      have b1 := old_cell hb (b := w1.heap.size + 1) (o := 1) (v := .int .i64 m2) (by go_simp)
      have b2 := old_cell hb (b := w1.heap.size + 1) (o := 2) (v := .string ⟨#[]⟩) (by go_simp)
      have lb := cell_lt b0
      dsimp only at lb
      have la : w1.heap.size < w2.heap.size := by omega
      clear hb
      go_wp2_with fail
      refine (specAddVals_any 1 m ⟨#[]⟩ 1 m2 ⟨#[]⟩ _ hq hq2).mono ?_
      rw [H1.out]
      dsimp only [tupV]
      rintro e w3 ⟨rfl, hb⟩
      have g3 : Below w2.heap.size w2 w3 := (by repeat (first | with_reducible exact bel_refl _ | with_reducible assumption | with_reducible refine bel_set ?_ (by first | (simp; done) | (simp; omega) | omega) _ | with_reducible refine bel_alloc ?_ _ | with_reducible refine bel_drew ?_ | with_reducible refine bel_drewN ?_ _ | with_reducible refine bel_trans ?_ (by assumption)))
      have c0 := old_cell hb (b := w2.heap.size) (o := 0) (v := .int .i64 1) (by go_simp)
      have c1 := old_cell hb (b := w2.heap.size) (o := 1) (v := .int .i64 (m + m2)) (by go_simp)
      have c2 := old_cell hb (b := w2.heap.size) (o := 2) (v := .string ⟨#[]⟩) (by go_simp)
      replace a0 := old_cell g3 a0; replace a1 := old_cell g3 a1; replace a2 := old_cell g3 a2
      replace b0 := old_cell g3 b0; replace b1 := old_cell g3 b1; replace b2 := old_cell g3 b2
      have lc := cell_lt c0
      dsimp only at lc
      have lb' : w1.heap.size + 1 < w3.heap.size := by omega
      have la' : w1.heap.size < w3.heap.size := by omega
      clear hb
      go_wp2_with fail
      refine (implSubVals_any 1 (m + m2) ⟨#[]⟩ 1 m2 ⟨#[]⟩ _ hq hq2).mono ?_
      rw [H2.out]
      dsimp only [tupV]
      rintro e w4 ⟨rfl, hb⟩
      have g4 : Below w3.heap.size w3 w4 := (by repeat (first | with_reducible exact bel_refl _ | with_reducible assumption | with_reducible refine bel_set ?_ (by first | (simp; done) | (simp; omega) | omega) _ | with_reducible refine bel_alloc ?_ _ | with_reducible refine bel_drew ?_ | with_reducible refine bel_drewN ?_ _ | with_reducible refine bel_trans ?_ (by assumption)))
      replace a0 := old_cell g4 a0; replace a1 := old_cell g4 a1; replace a2 := old_cell g4 a2
      replace b0 := old_cell g4 b0; replace b1 := old_cell g4 b1; replace b2 := old_cell g4 b2
      replace c0 := old_cell g4 c0; replace c1 := old_cell g4 c1; replace c2 := old_cell g4 c2
      have lc2 := cell_lt c0
      dsimp only at lc2
      have lb2 : w1.heap.size + 1 < w4.heap.size := by omega
      have la2 : w1.heap.size < w4.heap.size := by omega
      clear hb
      go_wp2_with fail
      refine (implAddVals_any 1 m2 ⟨#[]⟩ 1 m ⟨#[]⟩ _ hq hq2).mono ?_
      rw [H3.out]
      dsimp only [tupV]
      rintro e w5 ⟨rfl, hb⟩
      have g5 : Below w4.heap.size w4 w5 := (by repeat (first | with_reducible exact bel_refl _ | with_reducible assumption | with_reducible refine bel_set ?_ (by first | (simp; done) | (simp; omega) | omega) _ | with_reducible refine bel_alloc ?_ _ | with_reducible refine bel_drew ?_ | with_reducible refine bel_drewN ?_ _ | with_reducible refine bel_trans ?_ (by assumption)))
      have d0 := old_cell hb (b := w4.heap.size) (o := 0) (v := .int .i64 1) (by go_simp)
      have d1 := old_cell hb (b := w4.heap.size) (o := 1) (v := .int .i64 m) (by go_simp)
      have d2 := old_cell hb (b := w4.heap.size) (o := 2) (v := .string ⟨#[]⟩) (by go_simp)
      replace a0 := old_cell g5 a0; replace a1 := old_cell g5 a1; replace a2 := old_cell g5 a2
      replace c0 := old_cell g5 c0; replace c1 := old_cell g5 c1; replace c2 := old_cell g5 c2
      have ld := cell_lt d0
      dsimp only at ld
      have lc3 : w2.heap.size < w5.heap.size := by omega
      have la3 : w1.heap.size < w5.heap.size := by omega
      clear hb
      go_wp2
      go_ret
      exact ⟨rfl, (by repeat (first | with_reducible exact bel_refl _ | with_reducible assumption | with_reducible refine bel_set ?_ (by first | (simp; done) | (simp; omega) | omega) _ | with_reducible refine bel_alloc ?_ _ | with_reducible refine bel_drew ?_ | with_reducible refine bel_drewN ?_ _ | with_reducible refine bel_trans ?_ (by assumption)))⟩

theorem own : ownKnob Try.prog.godebug = none := by kernel_rfl
theorem laidOut : laidOutB Try.prog = true := by kernel_rfl
theorem lifted (os : Os) (started : os.Started) (H : Type) (enc : TypeId × Value → H) :
    ReturnsInHanded {} Try.checked os 7 .any (Rows.fnAddedSpec.pre6 enc Try.prog Try.f7 Rows.fnAddedRow.domain false) (Rows.fnAddedSpec.post enc Try.prog Try.f7 false true false false) := by
  refine returnsInHanded_of_change (C := Try.checked) own started (by kernel_rfl) Try.func7
    (ChangeSpec.witness6 (enc := enc) (C := Try.checked) false ⟨#[], #[.slice none 0 0], []⟩ 8 (by kernel_rfl) (by kernel_rfl) (by kernel_rfl) (by kernel_rfl)) ?_
  intro W base args ds gs before hval0 hW hcnd _
  have hval : ∀ (j : Nat) t v, Try.f7.params[j]? = some t → args[j]? = some v → Value.okWide Try.prog W .any base t v := hval0
  have hW' := hW
  obtain ⟨p, q, hA0, hV, rfl, hfz, hnd⟩ := hW
  have hA : DataW.TrodAll enc Try.prog W 0 (fun _ => true) true Try.f7.params.toList args.toList ds p := hA0
  rw [Try.params7] at hA hval
  obtain ⟨v0, vs0, d0, ds0, p0, q0, hargs, rfl, rfl, h0, r0⟩ := trodAll_cons hA
  obtain ⟨rfl, rfl, rfl⟩ := trodAll_nil r0
  obtain rfl : args = #[v0] := by cases args; simp_all
  obtain ⟨rfl, rfl⟩ := trodVars_none hV
  have lt0 : ∀ x ∈ p0, x.block < W.heap.size := by obtain ⟨m, hm⟩ := h0; exact DataW.trod_lt m _ _ _ hm
  obtain ⟨A0, n0, c0, b0, hv0, hs0⟩ := open_bytes Try.underlying31 Try.underlying5 (by kernel_rfl) (hval 0 31 v0 rfl rfl) h0
  subst hv0
  clear hA0 hval0
  refine (walk A0 n0 c0 b0 W hs0).mono fun e W' ⟨he, bel⟩ => ?_
  subst he
  exact ⟨_, rfl, _, _, _, [], _, [], hW', trodAll_mk1 (shut_bool Try.underlying4 _), (trodAll_cons_mk (Below.trod laidOut (by kernel_rfl) (of_decide_eq_true (by kernel_rfl)) h0 bel lt0) trodAll_mk0), rfl, bel.frame _, fun h => by cases h⟩
theorem over : Rows.fnAddedRow.holds Try.pinned (OpenSpec.ofChange Rows.fnAddedSpec) :=
  OpenClaim.holds_of_wide 7 Try.f7 rfl rfl rfl rfl rfl rfl rfl ⟨rfl, rfl, rfl, rfl, rfl⟩ rfl rfl rfl rfl rfl (by kernel_rfl) Try.func7 (by kernel_rfl)
    (of_decide_eq_true (by kernel_rfl)) (by unfold Func.isWrapper; first | (rw [if_pos (by decide +kernel)]; kernel_rfl) | (rw [if_neg (by decide +kernel)]; exact ⟨rfl, rfl⟩))
    (fun os started H enc _ => lifted os started H enc)
theorem proved : Rows.FnAddedSaid := over
end Go.Proofs.Ytdcfkohgijahcaa.fnAdded
