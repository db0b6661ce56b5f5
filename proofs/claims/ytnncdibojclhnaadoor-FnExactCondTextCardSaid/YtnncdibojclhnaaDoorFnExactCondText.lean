/- The law FnExactCondText returns true at every input, and leaves what it was given as it was. No condition. -/
import Derived.Test.YtnncdibojclhnaaDoorReadE
import Derived.Test.YtnncdibojclhnaaDoorCondText
import Derived.Test.YtnncdibojclhnaaDoorRows
import Derived.Test.YtnncdibojclhnaaDoorRead
import Derived.Test.YtnncdibojclhnaaDoorDoor
import Derived.Test.YtnncdibojclhnaaDoorCards
import Derived.Test.YtnncdibojclhnaaDoorTie
import Derived.SevenTiedAt
namespace Go.Proofs.YtnncdibojclhnaaDoor.fnExactCondText
open Go.ChangeShapes Go.WideShapes Go.ChangeAt Go.RowKit
open Go.ChangeMaps (open_string shut_string)
set_option linter.unusedVariables false
set_option maxRecDepth 100000
set_option maxHeartbeats 20000000

theorem walk (op0 : Int) (lk0 : Int) (ls0 : ByteArray) (lvk0 : Int) (lvn0 : Int) (lvs0 : ByteArray) (rk0 : Int) (rs0 : ByteArray) (rvk0 : Int) (rvn0 : Int) (rvs0 : ByteArray) (W : World) (hs0 : ls0.size ≤ 9223372036854775807 ∧ lvs0.size ≤ 9223372036854775807 ∧ rs0.size ≤ 9223372036854775807 ∧ rvs0.size ≤ 9223372036854775807) (ht : TabT W) :
    Calls Tryd.prog 5 #[.agg #[.int .i64 op0, .int .i64 lk0, .string ls0, .int .i64 lvk0, .int .i64 lvn0, .string lvs0, .int .i64 rk0, .string rs0, .int .i64 rvk0, .int .i64 rvn0, .string rvs0]] W fun e w' => e = .returned (.bool true) ∧ Below W.heap.size W w' := by
  obtain ⟨hs0a, hs0b, hs0c, hs0d⟩ := hs0
  by_cases bz0 : (1048576 : Int) < ((szC ⟨op0, ⟨lk0, ls0, ⟨lvk0, lvn0, lvs0⟩⟩, ⟨rk0, rs0, ⟨rvk0, rvn0, rvs0⟩⟩⟩) : Int)
  · have HB := Lib.hid (szR_big bz0)
    go_enter Tryd.func5, Tryd.ntmps5
    go_wp2_with fail
    refine (szCond_any op0 lk0 ls0 lvk0 lvn0 lvs0 rk0 rs0 rvk0 rvn0 rvs0 _ _ hs0a hs0b hs0c hs0d (by omega) (by omega)).mono ?_
    rw [HB.out]
    rintro e w1 ⟨rfl, hb⟩
    have g_w1 : Below W.heap.size W w1 := (by repeat (first | with_reducible exact bel_refl _ | with_reducible assumption | with_reducible refine bel_set ?_ (by first | (simp; done) | (simp; omega) | omega) _ | with_reducible refine bel_alloc ?_ _ | with_reducible refine bel_drew ?_ | with_reducible refine bel_drewN ?_ _ | with_reducible refine bel_trans ?_ (by assumption)))
    have b0_0 := old_cell hb (b := W.heap.size) (o := 0) (v := .int .i64 op0) (by go_simp)
    have b0_1 := old_cell hb (b := W.heap.size) (o := 1) (v := .int .i64 lk0) (by go_simp)
    have b0_2 := old_cell hb (b := W.heap.size) (o := 2) (v := .string ls0) (by go_simp)
    have b0_3 := old_cell hb (b := W.heap.size) (o := 3) (v := .int .i64 lvk0) (by go_simp)
    have b0_4 := old_cell hb (b := W.heap.size) (o := 4) (v := .int .i64 lvn0) (by go_simp)
    have b0_5 := old_cell hb (b := W.heap.size) (o := 5) (v := .string lvs0) (by go_simp)
    have b0_6 := old_cell hb (b := W.heap.size) (o := 6) (v := .int .i64 rk0) (by go_simp)
    have b0_7 := old_cell hb (b := W.heap.size) (o := 7) (v := .string rs0) (by go_simp)
    have b0_8 := old_cell hb (b := W.heap.size) (o := 8) (v := .int .i64 rvk0) (by go_simp)
    have b0_9 := old_cell hb (b := W.heap.size) (o := 9) (v := .int .i64 rvn0) (by go_simp)
    have b0_10 := old_cell hb (b := W.heap.size) (o := 10) (v := .string rvs0) (by go_simp)
    have zs_w1 := g_w1.size
    have gW := g_w1
    clear hb g_w1
    have z_b0_0 : W.heap.size < w1.heap.size := cell_lt b0_0
    go_wp2
    go_ret
    exact ⟨rfl, gW⟩
  have HF0 := Lib.hid (szR_fit (Int.not_lt.1 bz0))
  have HTT := Lib.hid ht; clear ht
  obtain ⟨r, hr⟩ : ∃ r, condText ⟨op0, ⟨lk0, ls0, ⟨lvk0, lvn0, lvs0⟩⟩, ⟨rk0, rs0, ⟨rvk0, rvn0, rvs0⟩⟩⟩ = r := ⟨_, rfl⟩
  have HR := Lib.hid hr; clear hr
  go_enter Tryd.func5, Tryd.ntmps5
  go_wp2_with fail
  refine (szCond_any op0 lk0 ls0 lvk0 lvn0 lvs0 rk0 rs0 rvk0 rvn0 rvs0 _ _ hs0a hs0b hs0c hs0d (by omega) (by omega)).mono ?_
  rw [HF0.out]
  rintro e w2 ⟨rfl, hb⟩
  have g_w2 : Below W.heap.size W w2 := (by repeat (first | with_reducible exact bel_refl _ | with_reducible assumption | with_reducible refine bel_set ?_ (by first | (simp; done) | (simp; omega) | omega) _ | with_reducible refine bel_alloc ?_ _ | with_reducible refine bel_drew ?_ | with_reducible refine bel_drewN ?_ _ | with_reducible refine bel_trans ?_ (by assumption)))
  have b0_0 := old_cell hb (b := W.heap.size) (o := 0) (v := .int .i64 op0) (by go_simp)
  have b0_1 := old_cell hb (b := W.heap.size) (o := 1) (v := .int .i64 lk0) (by go_simp)
  have b0_2 := old_cell hb (b := W.heap.size) (o := 2) (v := .string ls0) (by go_simp)
  have b0_3 := old_cell hb (b := W.heap.size) (o := 3) (v := .int .i64 lvk0) (by go_simp)
  have b0_4 := old_cell hb (b := W.heap.size) (o := 4) (v := .int .i64 lvn0) (by go_simp)
  have b0_5 := old_cell hb (b := W.heap.size) (o := 5) (v := .string lvs0) (by go_simp)
  have b0_6 := old_cell hb (b := W.heap.size) (o := 6) (v := .int .i64 rk0) (by go_simp)
  have b0_7 := old_cell hb (b := W.heap.size) (o := 7) (v := .string rs0) (by go_simp)
  have b0_8 := old_cell hb (b := W.heap.size) (o := 8) (v := .int .i64 rvk0) (by go_simp)
  have b0_9 := old_cell hb (b := W.heap.size) (o := 9) (v := .int .i64 rvn0) (by go_simp)
  have b0_10 := old_cell hb (b := W.heap.size) (o := 10) (v := .string rvs0) (by go_simp)
  have zs_w2 := g_w2.size
  have gW := g_w2
  clear hb g_w2
  have z_b0_0 : W.heap.size < w2.heap.size := cell_lt b0_0
  go_wp2_with fail
  refine (toCond_any op0 lk0 ls0 lvk0 lvn0 lvs0 rk0 rs0 rvk0 rvn0 rvs0 _).mono ?_
  rintro e w3 ⟨rfl, hb⟩
  have g_w3 : Below w2.heap.size w2 w3 := (by repeat (first | with_reducible exact bel_refl _ | with_reducible assumption | with_reducible refine bel_set ?_ (by first | (simp; done) | (simp; omega) | omega) _ | with_reducible refine bel_alloc ?_ _ | with_reducible refine bel_drew ?_ | with_reducible refine bel_drewN ?_ _ | with_reducible refine bel_trans ?_ (by assumption)))
  replace b0_0 := old_cell g_w3 b0_0
  replace b0_1 := old_cell g_w3 b0_1
  replace b0_2 := old_cell g_w3 b0_2
  replace b0_3 := old_cell g_w3 b0_3
  replace b0_4 := old_cell g_w3 b0_4
  replace b0_5 := old_cell g_w3 b0_5
  replace b0_6 := old_cell g_w3 b0_6
  replace b0_7 := old_cell g_w3 b0_7
  replace b0_8 := old_cell g_w3 b0_8
  replace b0_9 := old_cell g_w3 b0_9
  replace b0_10 := old_cell g_w3 b0_10
  have zs_w3 := g_w3.size
  have gW : Below W.heap.size W w3 := bel_trans gW g_w3
  clear hb g_w3
  have z_b0_0 : W.heap.size < w3.heap.size := cell_lt b0_0
  go_wp2_with fail
  refine (specCondText_any op0 lk0 ls0 lvk0 lvn0 lvs0 rk0 rs0 rvk0 rvn0 rvs0 _ hs0a hs0b hs0c hs0d).mono ?_
  rw [HR.out]
  rintro e w4 ⟨rfl, hb⟩
  have g_w4 : Below w3.heap.size w3 w4 := (by repeat (first | with_reducible exact bel_refl _ | with_reducible assumption | with_reducible refine bel_set ?_ (by first | (simp; done) | (simp; omega) | omega) _ | with_reducible refine bel_alloc ?_ _ | with_reducible refine bel_drew ?_ | with_reducible refine bel_drewN ?_ _ | with_reducible refine bel_trans ?_ (by assumption)))
  replace b0_0 := old_cell g_w4 b0_0
  replace b0_1 := old_cell g_w4 b0_1
  replace b0_2 := old_cell g_w4 b0_2
  replace b0_3 := old_cell g_w4 b0_3
  replace b0_4 := old_cell g_w4 b0_4
  replace b0_5 := old_cell g_w4 b0_5
  replace b0_6 := old_cell g_w4 b0_6
  replace b0_7 := old_cell g_w4 b0_7
  replace b0_8 := old_cell g_w4 b0_8
  replace b0_9 := old_cell g_w4 b0_9
  replace b0_10 := old_cell g_w4 b0_10
  have zs_w4 := g_w4.size
  have gW : Below W.heap.size W w4 := bel_trans gW g_w4
  clear hb g_w4
  have z_b0_0 : W.heap.size < w4.heap.size := cell_lt b0_0
  go_wp2_with fail
  refine (toCond_any op0 lk0 ls0 lvk0 lvn0 lvs0 rk0 rs0 rvk0 rvn0 rvs0 _).mono ?_
  rintro e w5 ⟨rfl, hb⟩
  have g_w5 : Below w4.heap.size w4 w5 := (by repeat (first | with_reducible exact bel_refl _ | with_reducible assumption | with_reducible refine bel_set ?_ (by first | (simp; done) | (simp; omega) | omega) _ | with_reducible refine bel_alloc ?_ _ | with_reducible refine bel_drew ?_ | with_reducible refine bel_drewN ?_ _ | with_reducible refine bel_trans ?_ (by assumption)))
  replace b0_0 := old_cell g_w5 b0_0
  replace b0_1 := old_cell g_w5 b0_1
  replace b0_2 := old_cell g_w5 b0_2
  replace b0_3 := old_cell g_w5 b0_3
  replace b0_4 := old_cell g_w5 b0_4
  replace b0_5 := old_cell g_w5 b0_5
  replace b0_6 := old_cell g_w5 b0_6
  replace b0_7 := old_cell g_w5 b0_7
  replace b0_8 := old_cell g_w5 b0_8
  replace b0_9 := old_cell g_w5 b0_9
  replace b0_10 := old_cell g_w5 b0_10
  have zs_w5 := g_w5.size
  have gW : Below W.heap.size W w5 := bel_trans gW g_w5
  clear hb g_w5
  have z_b0_0 : W.heap.size < w5.heap.size := cell_lt b0_0
  go_wp2_with fail
  refine (implCondText_any op0 lk0 ls0 lvk0 lvn0 lvs0 rk0 rs0 rvk0 rvn0 rvs0 _ (HTT.out.kept (by repeat (first | with_reducible exact bel_refl _ | with_reducible assumption | with_reducible refine bel_set ?_ (by first | (simp; done) | (simp; omega) | omega) _ | with_reducible refine bel_alloc ?_ _ | with_reducible refine bel_drew ?_ | with_reducible refine bel_drewN ?_ _ | with_reducible refine bel_trans ?_ (by assumption)))) hs0a hs0b hs0c hs0d).mono ?_
  rw [HR.out]
  rintro e w6 ⟨rfl, hb⟩
  have g_w6 : Below w5.heap.size w5 w6 := (by repeat (first | with_reducible exact bel_refl _ | with_reducible assumption | with_reducible refine bel_set ?_ (by first | (simp; done) | (simp; omega) | omega) _ | with_reducible refine bel_alloc ?_ _ | with_reducible refine bel_drew ?_ | with_reducible refine bel_drewN ?_ _ | with_reducible refine bel_trans ?_ (by assumption)))
  replace b0_0 := old_cell g_w6 b0_0
  replace b0_1 := old_cell g_w6 b0_1
  replace b0_2 := old_cell g_w6 b0_2
  replace b0_3 := old_cell g_w6 b0_3
  replace b0_4 := old_cell g_w6 b0_4
  replace b0_5 := old_cell g_w6 b0_5
  replace b0_6 := old_cell g_w6 b0_6
  replace b0_7 := old_cell g_w6 b0_7
  replace b0_8 := old_cell g_w6 b0_8
  replace b0_9 := old_cell g_w6 b0_9
  replace b0_10 := old_cell g_w6 b0_10
  have zs_w6 := g_w6.size
  have gW : Below W.heap.size W w6 := bel_trans gW g_w6
  clear hb g_w6
  have z_b0_0 : W.heap.size < w6.heap.size := cell_lt b0_0
  go_wp2
  go_ret
  exact ⟨rfl, gW⟩

theorem own : ownKnob Tryd.prog.godebug = none := by kernel_rfl
theorem laidOut : laidOutB Tryd.prog = true := by kernel_rfl
theorem lifted (os : Os) (started : os.Started) (H : Type) (enc : TypeId × Value → H) :
    ReturnsInHanded {} Tryd.checked os 5 .any (fun w args => (Rows.fnExactCondTextSpec.pre enc Tryd.prog Tryd.f5 [] false w args ∧ laidMetH Tryd.prog laidL w) ∧ sizedMet enc Tryd.prog Tryd.f5 (OpenSpec.ofChange Rows.fnExactCondTextSpec) false w args) (Rows.fnExactCondTextSpec.post enc Tryd.prog Tryd.f5 false true false false) := by
  refine returnsInHanded_of_change_and (C := Tryd.checked) (X := fun w _ => laidMetH Tryd.prog laidL w) (fun _ _ _ hh h => h.of_heap hh) own started (by kernel_rfl) Tryd.func5
    (ChangeSpec.witness_shaped (enc := enc) (C := Tryd.checked) (os := os) (X := fun w _ => laidMetH Tryd.prog laidL w) false (World.doorLaid Tryd.prog 400 os) #[.agg #[.int .i64 0, .int .i64 0, .string ByteArray.empty, .int .i64 0, .int .i64 0, .string ByteArray.empty, .int .i64 0, .string ByteArray.empty, .int .i64 0, .int .i64 0, .string ByteArray.empty]] 8 rfl (World.shaped_of_RefB (by kernel_rfl) (by kernel_rfl)) (by kernel_rfl) (by kernel_rfl) (by kernel_rfl) (door_met os _)) ?_
  intro W base args ds gs before hval0 hW _ _ hL _
  have hval : ∀ (j : Nat) t v, Tryd.f5.params[j]? = some t → args[j]? = some v → Value.okWide Tryd.prog W .any base t v := hval0
  have hW' := hW
  obtain ⟨p, q, hA0, hV, rfl, hfz, hnd⟩ := hW
  have hA : DataW.TrodAll enc Tryd.prog W 0 (fun _ => true) true Tryd.f5.params.toList args.toList ds p := hA0
  rw [Tryd.params5] at hA hval
  obtain ⟨v0, vs0, d0, ds0, p0, q0, hargs, rfl, rfl, h0, r0⟩ := trodAll_cons hA
  obtain ⟨rfl, rfl, rfl⟩ := trodAll_nil r0
  obtain rfl : args = #[v0] := by cases args; simp_all
  obtain ⟨rfl, rfl⟩ := trodVars_none hV
  have lt0 : ∀ x ∈ p0, x.block < W.heap.size := by obtain ⟨m, hm⟩ := h0; exact DataW.trod_lt m _ _ _ hm
  obtain ⟨op0, lk0, ls0, lvk0, lvn0, lvs0, rk0, rs0, rvk0, rvn0, rvs0, hv0, hs0⟩ := open_cond (hval 0 38 v0 rfl rfl) h0
  subst hv0
  clear hA0 hval0
  refine (walk op0 lk0 ls0 lvk0 lvn0 lvs0 rk0 rs0 rvk0 rvn0 rvs0 W hs0 (tabT_of_laid hL)).mono fun e W' ⟨he, bel⟩ => ?_
  subst he
  exact ⟨_, rfl, _, _, _, [], _, [], hW', trodAll_mk1 (shut_bool Tryd.underlying4 _), (trodAll_cons_mk (Below.trod laidOut (by kernel_rfl) (of_decide_eq_true (by kernel_rfl)) h0 bel lt0) trodAll_mk0), rfl, bel.frame _, fun h => by cases h⟩
theorem over : Rows.fnExactCondTextRow.holds Tryd.pinned (OpenSpec.ofChange Rows.fnExactCondTextSpec) :=
  OpenClaim.holds_of_wide 5 Tryd.f5 rfl rfl rfl rfl rfl rfl rfl ⟨rfl, rfl, rfl, rfl, rfl⟩ rfl rfl rfl rfl rfl (by kernel_rfl) Tryd.func5 (by kernel_rfl)
    (of_decide_eq_true (by kernel_rfl)) (by unfold Func.isWrapper; first | (rw [if_pos (by decide +kernel)]; kernel_rfl) | (rw [if_neg (by decide +kernel)]; exact ⟨rfl, rfl⟩))
    (fun os started H enc _ => lifted os started H enc)
theorem proved : Rows.FnExactCondTextCardSaid :=
  Claim7.holds_tied_plain_at .later [] laidK true _ false over (fun _ h => by cases h) (by kernel_rfl) (fun _ h => by cases h) fnExactCondText_row_tie rfl ⟨rfl, rfl⟩ (by kernel_rfl) rfl
    (fun f fn hf hfn => by
      obtain rfl : f = 5 := Option.some.inj ((show Tryd.prog.funcNamed "loop.example/g00282/laws.FnExactCondText" = some 5 by kernel_rfl).symm.trans hf) |>.symm
      obtain rfl : fn = Tryd.f5 := (Option.some.inj (Tryd.func5.symm.trans hfn)).symm
      exact ⟨by kernel_rfl, fun j t ht => by
        rw [Tryd.params5] at ht
        have hm : t ∈ [38] := by simpa using Array.mem_of_getElem? ht
        have hall : ([38].all fun u => !Tryd.prog.wantsStandIn u) = true := by kernel_rfl
        exact (show Tryd.prog.wantsStandIn t = false by simpa using List.all_eq_true.1 hall t hm)⟩)
    (by kernel_rfl)
end Go.Proofs.YtnncdibojclhnaaDoor.fnExactCondText
