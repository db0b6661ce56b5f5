/- The law FnExactPatText returns true at every input, and leaves what it was given as it was. No condition. -/
import Derived.Test.YtnncdibojclhnaaDoorReadP
import Derived.Test.YtnncdibojclhnaaDoorPatText
import Derived.Test.YtnncdibojclhnaaDoorStep
import Derived.Test.YtnncdibojclhnaaDoorRows
import Derived.Test.YtnncdibojclhnaaDoorRead
import Derived.Test.YtnncdibojclhnaaDoorDoor
import Derived.Test.YtnncdibojclhnaaDoorCards
import Derived.Test.YtnncdibojclhnaaDoorTie
import Derived.SevenTiedAt
namespace Go.Proofs.YtnncdibojclhnaaDoor.fnExactPatText
open Go.ChangeShapes Go.WideShapes Go.ChangeAt Go.RowKit
open Go.ChangeMaps (open_string shut_string)
set_option linter.unusedVariables false
set_option maxRecDepth 100000
set_option maxHeartbeats 20000000

theorem walk (kd0 : ByteArray) (A0 : Option Addr) (n0 c0 : Nat) (xs0 : List Ag) (no0 : Bool) (W : World) (hs0 : n0 ≤ c0 ∧ c0 ≤ 9223372036854775807 ∧ kd0.size ≤ 9223372036854775807 ∧ RdS aC 5 W W.heap.size A0 n0 xs0 ∧ ∀ a ∈ xs0, goodA a) (ht : TabT W) :
    Calls Tryd.prog 6 #[.agg #[.string kd0, .slice A0 n0 c0, .bool no0]] W fun e w' => e = .returned (.bool true) ∧ Below W.heap.size W w' := by
  obtain ⟨hnc0, hc0, hk0, hr0, hz0⟩ := hs0
  obtain rfl : n0 = xs0.length := hr0.len.symm
  have HZ0 := Lib.hid hz0; clear hz0
  by_cases bz0 : (1048576 : Int) < ((totP ⟨kd0, xs0, no0⟩) : Int)
  · have HB := Lib.hid (szR_big bz0)
    go_enter Tryd.func6, Tryd.ntmps6
    go_wp2_with fail
    refine (szPat_any kd0 A0 _ c0 _ xs0 no0 _ _ (hr0.alloc _) (by omega) hk0 HZ0.out (by omega) (by omega)).mono ?_
    rw [HB.out]
    rintro e w1 ⟨rfl, hb⟩
    have g_w1 : Below W.heap.size W w1 := (by repeat (first | with_reducible exact bel_refl _ | with_reducible assumption | with_reducible refine bel_set ?_ (by first | (simp; done) | (simp; omega) | omega) _ | with_reducible refine bel_alloc ?_ _ | with_reducible refine bel_drew ?_ | with_reducible refine bel_drewN ?_ _ | with_reducible refine bel_trans ?_ (by assumption)))
    have b0_0 := old_cell hb (b := W.heap.size) (o := 0) (v := .string kd0) (by go_simp)
    have b0_1 := old_cell hb (b := W.heap.size) (o := 1) (v := .slice A0 xs0.length c0) (by go_simp)
    have b0_2 := old_cell hb (b := W.heap.size) (o := 2) (v := .bool no0) (by go_simp)
    replace hr0 := hr0.kept g_w1
    have zs_w1 := g_w1.size
    have gW := g_w1
    clear hb g_w1
    have z_b0_0 : W.heap.size < w1.heap.size := cell_lt b0_0
    go_wp2
    go_ret
    exact ⟨rfl, gW⟩
  have HF0 := Lib.hid (szR_fit (Int.not_lt.1 bz0))
  have hl0 : xs0.length ≤ 1048576 := by unfold totP totA at bz0; simp only at bz0; omega
  have HTT := Lib.hid ht; clear ht
  obtain ⟨r, hr⟩ : ∃ r, patText ⟨kd0, xs0, no0⟩ = r := ⟨_, rfl⟩
  have HR := Lib.hid hr; clear hr
  go_enter Tryd.func6, Tryd.ntmps6
  go_wp2_with fail
  refine (szPat_any kd0 A0 _ c0 _ xs0 no0 _ _ (hr0.alloc _) (by omega) hk0 HZ0.out (by omega) (by omega)).mono ?_
  rw [HF0.out]
  rintro e w2 ⟨rfl, hb⟩
  have g_w2 : Below W.heap.size W w2 := (by repeat (first | with_reducible exact bel_refl _ | with_reducible assumption | with_reducible refine bel_set ?_ (by first | (simp; done) | (simp; omega) | omega) _ | with_reducible refine bel_alloc ?_ _ | with_reducible refine bel_drew ?_ | with_reducible refine bel_drewN ?_ _ | with_reducible refine bel_trans ?_ (by assumption)))
  have b0_0 := old_cell hb (b := W.heap.size) (o := 0) (v := .string kd0) (by go_simp)
  have b0_1 := old_cell hb (b := W.heap.size) (o := 1) (v := .slice A0 xs0.length c0) (by go_simp)
  have b0_2 := old_cell hb (b := W.heap.size) (o := 2) (v := .bool no0) (by go_simp)
  replace hr0 := hr0.kept g_w2
  have zs_w2 := g_w2.size
  have gW := g_w2
  clear hb g_w2
  have z_b0_0 : W.heap.size < w2.heap.size := cell_lt b0_0
  go_wp2_with fail
  refine (toPat_any kd0 A0 _ c0 xs0 no0 _ _ hr0 (by omega)).mono ?_
  rintro e w3 ⟨v_3, rfl, ho_3, hb⟩
  obtain ⟨A_3, c_3, rfl, hc_3, _⟩ := ho_3.rd
  have g_w3 : Below w2.heap.size w2 w3 := (by repeat (first | with_reducible exact bel_refl _ | with_reducible assumption | with_reducible refine bel_set ?_ (by first | (simp; done) | (simp; omega) | omega) _ | with_reducible refine bel_alloc ?_ _ | with_reducible refine bel_drew ?_ | with_reducible refine bel_drewN ?_ _ | with_reducible refine bel_trans ?_ (by assumption)))
  replace b0_0 := old_cell g_w3 b0_0
  replace b0_1 := old_cell g_w3 b0_1
  replace b0_2 := old_cell g_w3 b0_2
  replace hr0 := hr0.kept g_w3
  have zs_w3 := g_w3.size
  have gW : Below W.heap.size W w3 := bel_trans gW g_w3
  clear hb g_w3
  have z_b0_0 : W.heap.size < w3.heap.size := cell_lt b0_0
  have in_3 : InB _ w2.heap.size w3.heap.size := ho_3.inL (by first | exact Nat.le_refl _ | (simp; done) | (simp; omega) | omega)
  go_wp2_with fail
  refine (specPatText_any kd0 A_3 _ c_3 xs0 no0 _ _ (ho_3.rdO) (by omega) (by omega) HZ0.out).mono ?_
  rw [HR.out]
  rintro e w4 ⟨rfl, hb⟩
  have g_w4 : Below w3.heap.size w3 w4 := (by repeat (first | with_reducible exact bel_refl _ | with_reducible assumption | with_reducible refine bel_set ?_ (by first | (simp; done) | (simp; omega) | omega) _ | with_reducible refine bel_alloc ?_ _ | with_reducible refine bel_drew ?_ | with_reducible refine bel_drewN ?_ _ | with_reducible refine bel_trans ?_ (by assumption)))
  replace b0_0 := old_cell g_w4 b0_0
  replace b0_1 := old_cell g_w4 b0_1
  replace b0_2 := old_cell g_w4 b0_2
  replace hr0 := hr0.kept g_w4
  replace ho_3 := ho_3.kept g_w4
  have zs_w4 := g_w4.size
  have gW : Below W.heap.size W w4 := bel_trans gW g_w4
  clear hb g_w4
  have z_b0_0 : W.heap.size < w4.heap.size := cell_lt b0_0
  go_wp2_with fail
  refine (toPat_any kd0 A0 _ c0 xs0 no0 _ _ hr0 (by omega)).mono ?_
  rintro e w5 ⟨v_5, rfl, ho_5, hb⟩
  obtain ⟨A_5, c_5, rfl, hc_5, _⟩ := ho_5.rd
  have g_w5 : Below w4.heap.size w4 w5 := (by repeat (first | with_reducible exact bel_refl _ | with_reducible assumption | with_reducible refine bel_set ?_ (by first | (simp; done) | (simp; omega) | omega) _ | with_reducible refine bel_alloc ?_ _ | with_reducible refine bel_drew ?_ | with_reducible refine bel_drewN ?_ _ | with_reducible refine bel_trans ?_ (by assumption)))
  replace b0_0 := old_cell g_w5 b0_0
  replace b0_1 := old_cell g_w5 b0_1
  replace b0_2 := old_cell g_w5 b0_2
  replace hr0 := hr0.kept g_w5
  replace ho_3 := ho_3.kept g_w5
  have zs_w5 := g_w5.size
  have gW : Below W.heap.size W w5 := bel_trans gW g_w5
  clear hb g_w5
  have z_b0_0 : W.heap.size < w5.heap.size := cell_lt b0_0
  have in_5 : InB _ w4.heap.size w5.heap.size := ho_5.inL (by first | exact Nat.le_refl _ | (simp; done) | (simp; omega) | omega)
  go_wp2_with fail
  refine (implPatText_any kd0 A_5 _ c_5 xs0 no0 _ _ (HTT.out.kept (by repeat (first | with_reducible exact bel_refl _ | with_reducible assumption | with_reducible refine bel_set ?_ (by first | (simp; done) | (simp; omega) | omega) _ | with_reducible refine bel_alloc ?_ _ | with_reducible refine bel_drew ?_ | with_reducible refine bel_drewN ?_ _ | with_reducible refine bel_trans ?_ (by assumption)))) ((ho_5.rdO).alloc _) (by omega) (by omega) HZ0.out).mono ?_
  rw [HR.out]
  rintro e w6 ⟨rfl, hb⟩
  have g_w6 : Below w5.heap.size w5 w6 := (by repeat (first | with_reducible exact bel_refl _ | with_reducible assumption | with_reducible refine bel_set ?_ (by first | (simp; done) | (simp; omega) | omega) _ | with_reducible refine bel_alloc ?_ _ | with_reducible refine bel_drew ?_ | with_reducible refine bel_drewN ?_ _ | with_reducible refine bel_trans ?_ (by assumption)))
  have b1_0 := old_cell hb (b := w5.heap.size) (o := 0) (v := .string kd0) (by go_simp)
  have b1_1 := old_cell hb (b := w5.heap.size) (o := 1) (v := .slice A_5 xs0.length c_5) (by go_simp)
  have b1_2 := old_cell hb (b := w5.heap.size) (o := 2) (v := .bool no0) (by go_simp)
  replace b0_0 := old_cell g_w6 b0_0
  replace b0_1 := old_cell g_w6 b0_1
  replace b0_2 := old_cell g_w6 b0_2
  replace hr0 := hr0.kept g_w6
  replace ho_3 := ho_3.kept g_w6
  replace ho_5 := ho_5.kept g_w6
  have zs_w6 := g_w6.size
  have gW : Below W.heap.size W w6 := bel_trans gW g_w6
  clear hb g_w6
  have z_b0_0 : W.heap.size < w6.heap.size := cell_lt b0_0
  have z_b1_0 : w5.heap.size < w6.heap.size := cell_lt b1_0
  go_wp2_with fail
  go_region_held3 (fun w' => Below w6.heap.size w6 w' ∧ w'.cell? ⟨W.heap.size, 0, none⟩ = some (.string kd0) ∧ w'.cell? ⟨W.heap.size, 1, none⟩ = some (.slice A0 xs0.length c0) ∧ w'.cell? ⟨W.heap.size, 2, none⟩ = some (.bool no0) ∧ w'.cell? ⟨w5.heap.size, 0, none⟩ = some (.string kd0) ∧ w'.cell? ⟨w5.heap.size, 1, none⟩ = some (.slice A_5 xs0.length c_5) ∧ w'.cell? ⟨w5.heap.size, 2, none⟩ = some (.bool no0)) (((refine (fun hB => ⟨hB, old_cell hB b0_0, old_cell hB b0_1, old_cell hB b0_2, old_cell hB b1_0, old_cell hB b1_1, old_cell hB b1_2⟩ : Below w6.heap.size w6 _ → _) ?_); (repeat (first | exact bel_refl _ | exact bel_drew (bel_refl _) | exact bel_trans (And.left (by assumption)) (by assumption) | assumption))))
    ((first | (go_at_call 23; (with_reducible refine (toPat_any kd0 A0 _ c0 xs0 no0 _ _ (hr0.kept (And.left (by assumption))) (by omega)).mono ?_); rintro e w7 ⟨v_7, rfl, ho_7, hb⟩; obtain ⟨A_7, c_7, rfl, hc_7, _⟩ := ho_7.rd) | (go_at_call 25; (with_reducible refine (eqPat_any kd0 kd0 A_5 A_7 _ c_5 _ c_7 xs0 xs0 no0 no0 _ _ _ ((ho_5.rdO).kept (And.left (by assumption))) (ho_7.rdO) (by omega)).mono ?_); rw [decide_eq_true rfl]; rintro e w8 ⟨rfl, hb⟩; (try replace ho_7 := ho_7.kept hb))))
  rename_i hHeld
  obtain ⟨hB, _⟩ := hHeld
  replace b0_0 := old_cell hB b0_0
  replace b0_1 := old_cell hB b0_1
  replace b0_2 := old_cell hB b0_2
  replace b1_0 := old_cell hB b1_0
  replace b1_1 := old_cell hB b1_1
  replace b1_2 := old_cell hB b1_2
  replace hr0 := hr0.kept hB
  replace ho_3 := ho_3.kept hB
  replace ho_5 := ho_5.kept hB
  have zs_9 := hB.size
  replace gW := bel_trans gW hB
  clear hB
  have z_b0_0 : W.heap.size < w8.heap.size := cell_lt b0_0
  have z_b1_0 : w5.heap.size < w8.heap.size := cell_lt b1_0
  go_wp2
  go_ret
  exact ⟨rfl, gW⟩

theorem own : ownKnob Tryd.prog.godebug = none := by kernel_rfl
theorem laidOut : laidOutB Tryd.prog = true := by kernel_rfl
theorem lifted (os : Os) (started : os.Started) (H : Type) (enc : TypeId × Value → H) :
    ReturnsInHanded {} Tryd.checked os 6 .any (fun w args => (Rows.fnExactPatTextSpec.pre enc Tryd.prog Tryd.f6 [] false w args ∧ laidMetH Tryd.prog laidL w) ∧ sizedMet enc Tryd.prog Tryd.f6 (OpenSpec.ofChange Rows.fnExactPatTextSpec) false w args) (Rows.fnExactPatTextSpec.post enc Tryd.prog Tryd.f6 false true false false) := by
  refine returnsInHanded_of_change_and (C := Tryd.checked) (X := fun w _ => laidMetH Tryd.prog laidL w) (fun _ _ _ hh h => h.of_heap hh) own started (by kernel_rfl) Tryd.func6
    (ChangeSpec.witness_shaped (enc := enc) (C := Tryd.checked) (os := os) (X := fun w _ => laidMetH Tryd.prog laidL w) false (World.doorLaid Tryd.prog 400 os) #[.agg #[.string ByteArray.empty, .slice none 0 0, .bool false]] 8 rfl (World.shaped_of_RefB (by kernel_rfl) (by kernel_rfl)) (by kernel_rfl) (by kernel_rfl) (by kernel_rfl) (door_met os _)) ?_
  intro W base args ds gs before hval0 hW _ _ hL _
  have hval : ∀ (j : Nat) t v, Tryd.f6.params[j]? = some t → args[j]? = some v → Value.okWide Tryd.prog W .any base t v := hval0
  have hW' := hW
  obtain ⟨p, q, hA0, hV, rfl, hfz, hnd⟩ := hW
  have hA : DataW.TrodAll enc Tryd.prog W 0 (fun _ => true) true Tryd.f6.params.toList args.toList ds p := hA0
  rw [Tryd.params6] at hA hval
  obtain ⟨v0, vs0, d0, ds0, p0, q0, hargs, rfl, rfl, h0, r0⟩ := trodAll_cons hA
  obtain ⟨rfl, rfl, rfl⟩ := trodAll_nil r0
  obtain rfl : args = #[v0] := by cases args; simp_all
  obtain ⟨rfl, rfl⟩ := trodVars_none hV
  have lt0 : ∀ x ∈ p0, x.block < W.heap.size := by obtain ⟨m, hm⟩ := h0; exact DataW.trod_lt m _ _ _ hm
  obtain ⟨kd0, A0, n0, c0, xs0, no0, hv0, hs0⟩ := open_pat (hval 0 49 v0 rfl rfl) h0
  subst hv0
  clear hA0 hval0
  refine (walk kd0 A0 n0 c0 xs0 no0 W hs0 (tabT_of_laid hL)).mono fun e W' ⟨he, bel⟩ => ?_
  subst he
  exact ⟨_, rfl, _, _, _, [], _, [], hW', trodAll_mk1 (shut_bool Tryd.underlying4 _), (trodAll_cons_mk (Below.trod laidOut (by kernel_rfl) (of_decide_eq_true (by kernel_rfl)) h0 bel lt0) trodAll_mk0), rfl, bel.frame _, fun h => by cases h⟩
theorem over : Rows.fnExactPatTextRow.holds Tryd.pinned (OpenSpec.ofChange Rows.fnExactPatTextSpec) :=
  OpenClaim.holds_of_wide 6 Tryd.f6 rfl rfl rfl rfl rfl rfl rfl ⟨rfl, rfl, rfl, rfl, rfl⟩ rfl rfl rfl rfl rfl (by kernel_rfl) Tryd.func6 (by kernel_rfl)
    (of_decide_eq_true (by kernel_rfl)) (by unfold Func.isWrapper; first | (rw [if_pos (by decide +kernel)]; kernel_rfl) | (rw [if_neg (by decide +kernel)]; exact ⟨rfl, rfl⟩))
    (fun os started H enc _ => lifted os started H enc)
theorem proved : Rows.FnExactPatTextCardSaid :=
  Claim7.holds_tied_plain_at .later [] laidK true _ false over (fun _ h => by cases h) (by kernel_rfl) (fun _ h => by cases h) fnExactPatText_row_tie rfl ⟨rfl, rfl⟩ (by kernel_rfl) rfl
    (fun f fn hf hfn => by
      obtain rfl : f = 6 := Option.some.inj ((show Tryd.prog.funcNamed "loop.example/g00282/laws.FnExactPatText" = some 6 by kernel_rfl).symm.trans hf) |>.symm
      obtain rfl : fn = Tryd.f6 := (Option.some.inj (Tryd.func6.symm.trans hfn)).symm
      exact ⟨by kernel_rfl, fun j t ht => by
        rw [Tryd.params6] at ht
        have hm : t ∈ [49] := by simpa using Array.mem_of_getElem? ht
        have hall : ([49].all fun u => !Tryd.prog.wantsStandIn u) = true := by kernel_rfl
        exact (show Tryd.prog.wantsStandIn t = false by simpa using List.all_eq_true.1 hall t hm)⟩)
    (by kernel_rfl)
end Go.Proofs.YtnncdibojclhnaaDoor.fnExactPatText
