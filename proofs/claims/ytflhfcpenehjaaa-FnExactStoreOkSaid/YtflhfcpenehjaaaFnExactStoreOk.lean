/- The law FnExactStoreOk returns true at every input, and leaves what it was given as it was. No condition. -/
import Derived.Test.YtflhfcpenehjaaaReadS
import Derived.Test.YtflhfcpenehjaaaStoreOk2
import Derived.Test.YtflhfcpenehjaaaItemM
import Derived.Test.YtflhfcpenehjaaaStoreX
import Derived.Test.YtflhfcpenehjaaaStep
import Derived.Test.YtflhfcpenehjaaaRows
import Derived.Test.YtflhfcpenehjaaaRead
namespace Go.Proofs.Ytflhfcpenehjaaa.fnExactStoreOk
open Go.ChangeShapes Go.WideShapes Go.ChangeAt Go.RowKit
open Go.ChangeMaps (open_string shut_string)
set_option linter.unusedVariables false
set_option maxRecDepth 100000
set_option maxHeartbeats 20000000

theorem walk (A0 : Option Addr) (n0 c0 : Nat) (xs0 : List IR) (nx0 : Int) (W : World) (hs0 : n0 ≤ c0 ∧ c0 ≤ 9223372036854775807 ∧ RdI W W.heap.size A0 n0 xs0 ∧ ∀ a ∈ xs0, goodI a) :
    Calls Try.prog 3 #[.agg #[.slice A0 n0 c0, .int .i64 nx0]] W fun e w' => e = .returned (.bool true) ∧ Below W.heap.size W w' := by
  obtain ⟨hnc0, hc0, hr0, hz0⟩ := hs0
  obtain rfl : n0 = xs0.length := hr0.len.symm
  have HZ0 := Lib.hid hz0; clear hz0
  by_cases bz0 : (1048576 : Int) < ((totSt xs0) : Int)
  · have HB := Lib.hid (szR_big bz0)
    go_enter Try.func3, Try.ntmps3
    go_wp2_with fail
    refine (szStore_any A0 _ c0 _ xs0 nx0 _ _ (hr0.alloc _) (by omega) HZ0.out (by omega) (by omega)).mono ?_
    rw [HB.out]
    rintro e w1 ⟨rfl, hb⟩
    have g_w1 : Below W.heap.size W w1 := (by repeat (first | with_reducible exact bel_refl _ | with_reducible assumption | with_reducible refine bel_set ?_ (by first | (simp; done) | (simp; omega) | omega) _ | with_reducible refine bel_alloc ?_ _ | with_reducible refine bel_drew ?_ | with_reducible refine bel_drewN ?_ _ | with_reducible refine bel_trans ?_ (by assumption)))
    have b0_0 := old_cell hb (b := W.heap.size) (o := 0) (v := .slice A0 xs0.length c0) (by go_simp)
    have b0_1 := old_cell hb (b := W.heap.size) (o := 1) (v := .int .i64 nx0) (by go_simp)
    replace hr0 := hr0.kept g_w1
    have zs_w1 := g_w1.size
    have gW := g_w1
    clear hb g_w1
    have z_b0_0 : W.heap.size < w1.heap.size := cell_lt b0_0
    go_wp2
    go_ret
    exact ⟨rfl, gW⟩
  have HF0 := Lib.hid (szR_fit (Int.not_lt.1 bz0))
  have hl0 : xs0.length ≤ 1048576 := by unfold totSt totI at bz0; omega
  have HSL0 := Lib.hid (totSt_fs (Int.not_lt.1 bz0))
  have HTB0 := Lib.hid (Int.not_lt.1 bz0)
  obtain ⟨r, hr⟩ : ∃ r, storeOk ⟨xs0.map itOf, nx0⟩ = r := ⟨_, rfl⟩
  have HR := Lib.hid hr; clear hr
  go_enter Try.func3, Try.ntmps3
  go_wp2_with fail
  refine (szStore_any A0 _ c0 _ xs0 nx0 _ _ (hr0.alloc _) (by omega) HZ0.out (by omega) (by omega)).mono ?_
  rw [HF0.out]
  rintro e w2 ⟨rfl, hb⟩
  have g_w2 : Below W.heap.size W w2 := (by repeat (first | with_reducible exact bel_refl _ | with_reducible assumption | with_reducible refine bel_set ?_ (by first | (simp; done) | (simp; omega) | omega) _ | with_reducible refine bel_alloc ?_ _ | with_reducible refine bel_drew ?_ | with_reducible refine bel_drewN ?_ _ | with_reducible refine bel_trans ?_ (by assumption)))
  have b0_0 := old_cell hb (b := W.heap.size) (o := 0) (v := .slice A0 xs0.length c0) (by go_simp)
  have b0_1 := old_cell hb (b := W.heap.size) (o := 1) (v := .int .i64 nx0) (by go_simp)
  replace hr0 := hr0.kept g_w2
  have zs_w2 := g_w2.size
  have gW := g_w2
  clear hb g_w2
  have z_b0_0 : W.heap.size < w2.heap.size := cell_lt b0_0
  go_wp2_with fail
  refine (toStore_any A0 _ c0 xs0 nx0 _ _ hr0 (by omega) HSL0.out).mono ?_
  rintro e w3 ⟨A_3, c_3, rs_3, rfl, hc_3, hm_3, ho_3, hb⟩
  have HM_3 := Lib.hid hm_3
  clear hm_3
  have HLEN_3 := Lib.hid (map_len HM_3.out)
  have g_w3 : Below w2.heap.size w2 w3 := (by repeat (first | with_reducible exact bel_refl _ | with_reducible assumption | with_reducible refine bel_set ?_ (by first | (simp; done) | (simp; omega) | omega) _ | with_reducible refine bel_alloc ?_ _ | with_reducible refine bel_drew ?_ | with_reducible refine bel_drewN ?_ _ | with_reducible refine bel_trans ?_ (by assumption)))
  replace b0_0 := old_cell g_w3 b0_0
  replace b0_1 := old_cell g_w3 b0_1
  replace hr0 := hr0.kept g_w3
  have zs_w3 := g_w3.size
  have gW : Below W.heap.size W w3 := bel_trans gW g_w3
  clear hb g_w3
  have z_b0_0 : W.heap.size < w3.heap.size := cell_lt b0_0
  have in_3 : InI _ _ w2.heap.size w3.heap.size := ho_3.inL (by first | exact Nat.le_refl _ | (simp; done) | (simp; omega) | omega)
  go_wp2_with fail
  refine (specStoreOk_any A_3 _ c_3 rs_3 nx0 _ _ (ho_3.rdO) (by have := HLEN_3.out; omega) (good_map HM_3.out HZ0.out (fs_map HM_3.out HSL0.out) (by omega))).mono ?_
  rw [HM_3.out, HR.out]
  rintro e w4 ⟨rfl, hb⟩
  have g_w4 : Below w3.heap.size w3 w4 := (by repeat (first | with_reducible exact bel_refl _ | with_reducible assumption | with_reducible refine bel_set ?_ (by first | (simp; done) | (simp; omega) | omega) _ | with_reducible refine bel_alloc ?_ _ | with_reducible refine bel_drew ?_ | with_reducible refine bel_drewN ?_ _ | with_reducible refine bel_trans ?_ (by assumption)))
  replace b0_0 := old_cell g_w4 b0_0
  replace b0_1 := old_cell g_w4 b0_1
  replace hr0 := hr0.kept g_w4
  replace ho_3 := ho_3.kept g_w4
  have zs_w4 := g_w4.size
  have gW : Below W.heap.size W w4 := bel_trans gW g_w4
  clear hb g_w4
  have z_b0_0 : W.heap.size < w4.heap.size := cell_lt b0_0
  go_wp2_with fail
  refine (toStore_any A0 _ c0 xs0 nx0 _ _ hr0 (by omega) HSL0.out).mono ?_
  rintro e w5 ⟨A_5, c_5, rs_5, rfl, hc_5, hm_5, ho_5, hb⟩
  have HM_5 := Lib.hid hm_5
  clear hm_5
  have HLEN_5 := Lib.hid (map_len HM_5.out)
  have g_w5 : Below w4.heap.size w4 w5 := (by repeat (first | with_reducible exact bel_refl _ | with_reducible assumption | with_reducible refine bel_set ?_ (by first | (simp; done) | (simp; omega) | omega) _ | with_reducible refine bel_alloc ?_ _ | with_reducible refine bel_drew ?_ | with_reducible refine bel_drewN ?_ _ | with_reducible refine bel_trans ?_ (by assumption)))
  replace b0_0 := old_cell g_w5 b0_0
  replace b0_1 := old_cell g_w5 b0_1
  replace hr0 := hr0.kept g_w5
  replace ho_3 := ho_3.kept g_w5
  have zs_w5 := g_w5.size
  have gW : Below W.heap.size W w5 := bel_trans gW g_w5
  clear hb g_w5
  have z_b0_0 : W.heap.size < w5.heap.size := cell_lt b0_0
  have in_5 : InI _ _ w4.heap.size w5.heap.size := ho_5.inL (by first | exact Nat.le_refl _ | (simp; done) | (simp; omega) | omega)
  go_wp2_with fail
  refine (implStoreOk_any A_5 _ c_5 rs_5 nx0 _ _ ((ho_5.rdO).alloc _) (by have := HLEN_5.out; omega) (by omega) (good_map HM_5.out HZ0.out (fs_map HM_5.out HSL0.out) (by omega))).mono ?_
  rw [HM_5.out, HR.out]
  rintro e w6 ⟨rfl, hb⟩
  have g_w6 : Below w5.heap.size w5 w6 := (by repeat (first | with_reducible exact bel_refl _ | with_reducible assumption | with_reducible refine bel_set ?_ (by first | (simp; done) | (simp; omega) | omega) _ | with_reducible refine bel_alloc ?_ _ | with_reducible refine bel_drew ?_ | with_reducible refine bel_drewN ?_ _ | with_reducible refine bel_trans ?_ (by assumption)))
  have b1_0 := old_cell hb (b := w5.heap.size) (o := 0) (v := .slice A_5 rs_5.length c_5) (by go_simp)
  have b1_1 := old_cell hb (b := w5.heap.size) (o := 1) (v := .int .i64 nx0) (by go_simp)
  replace b0_0 := old_cell g_w6 b0_0
  replace b0_1 := old_cell g_w6 b0_1
  replace hr0 := hr0.kept g_w6
  replace ho_3 := ho_3.kept g_w6
  replace ho_5 := ho_5.kept g_w6
  have zs_w6 := g_w6.size
  have gW : Below W.heap.size W w6 := bel_trans gW g_w6
  clear hb g_w6
  have z_b0_0 : W.heap.size < w6.heap.size := cell_lt b0_0
  have z_b1_0 : w5.heap.size < w6.heap.size := cell_lt b1_0
  go_wp2_with fail
  go_region_held3 (fun w' => Below w6.heap.size w6 w' ∧ w'.cell? ⟨W.heap.size, 0, none⟩ = some (.slice A0 xs0.length c0) ∧ w'.cell? ⟨W.heap.size, 1, none⟩ = some (.int .i64 nx0) ∧ w'.cell? ⟨w5.heap.size, 0, none⟩ = some (.slice A_5 rs_5.length c_5) ∧ w'.cell? ⟨w5.heap.size, 1, none⟩ = some (.int .i64 nx0)) (((refine (fun hB => ⟨hB, old_cell hB b0_0, old_cell hB b0_1, old_cell hB b1_0, old_cell hB b1_1⟩ : Below w6.heap.size w6 _ → _) ?_); (repeat (first | exact bel_refl _ | exact bel_drew (bel_refl _) | exact bel_trans (And.left (by assumption)) (by assumption) | assumption))))
    ((first | (go_at_call 14; (with_reducible refine (toStore_any A0 _ c0 xs0 nx0 _ _ (hr0.kept (And.left (by assumption))) (by omega) HSL0.out).mono ?_); rintro e w7 ⟨A_7, c_7, rs_7, rfl, hc_7, hm_7, ho_7, hb⟩; have HM_7 := Lib.hid hm_7; clear hm_7; have HLEN_7 := Lib.hid (map_len HM_7.out)) | (go_at_call 16; (with_reducible refine (eqStore_any A_5 A_7 _ c_5 _ c_7 rs_5 rs_7 nx0 nx0 _ _ _ ((ho_5.rdO).kept (And.left (by assumption))) (ho_7.rdO) (by have := HLEN_5.out; omega) (fs_le (fs_map HM_5.out HSL0.out) (by omega))).mono ?_); rw [decide_eq_true (st_eq HM_5.out HM_7.out)]; rintro e w8 ⟨rfl, hb⟩; (try replace ho_7 := ho_7.kept hb))))
  rename_i hHeld
  obtain ⟨hB, _⟩ := hHeld
  replace b0_0 := old_cell hB b0_0
  replace b0_1 := old_cell hB b0_1
  replace b1_0 := old_cell hB b1_0
  replace b1_1 := old_cell hB b1_1
  replace hr0 := hr0.kept hB
  replace ho_3 := ho_3.kept hB
  replace ho_5 := ho_5.kept hB
  have zs_9 := hB.size
  replace gW := bel_trans gW hB
  clear hB
  have z_b0_0 : W.heap.size < w8.heap.size := cell_lt b0_0
  have z_b1_0 : w5.heap.size < w8.heap.size := cell_lt b1_0
  go_wp2
  go_ret
  exact ⟨rfl, gW⟩

theorem own : ownKnob Try.prog.godebug = none := by kernel_rfl
theorem laidOut : laidOutB Try.prog = true := by kernel_rfl
theorem lifted (os : Os) (started : os.Started) (H : Type) (enc : TypeId × Value → H) :
    ReturnsInHanded {} Try.checked os 3 .any (Rows.fnExactStoreOkSpec.pre6 enc Try.prog Try.f3 Rows.fnExactStoreOkRow.domain false) (Rows.fnExactStoreOkSpec.post enc Try.prog Try.f3 false true false false) := by
  refine returnsInHanded_of_change (C := Try.checked) own started (by kernel_rfl) Try.func3
    (ChangeSpec.witness6 (enc := enc) (C := Try.checked) false ⟨#[], #[.agg #[.slice none 0 0, .int .i64 0]], []⟩ 8 (by kernel_rfl) (by kernel_rfl) (by kernel_rfl) (by kernel_rfl)) ?_
  intro W base args ds gs before hval0 hW hcnd _
  have hval : ∀ (j : Nat) t v, Try.f3.params[j]? = some t → args[j]? = some v → Value.okWide Try.prog W .any base t v := hval0
  have hW' := hW
  obtain ⟨p, q, hA0, hV, rfl, hfz, hnd⟩ := hW
  have hA : DataW.TrodAll enc Try.prog W 0 (fun _ => true) true Try.f3.params.toList args.toList ds p := hA0
  rw [Try.params3] at hA hval
  obtain ⟨v0, vs0, d0, ds0, p0, q0, hargs, rfl, rfl, h0, r0⟩ := trodAll_cons hA
  obtain ⟨rfl, rfl, rfl⟩ := trodAll_nil r0
  obtain rfl : args = #[v0] := by cases args; simp_all
  obtain ⟨rfl, rfl⟩ := trodVars_none hV
  have lt0 : ∀ x ∈ p0, x.block < W.heap.size := by obtain ⟨m, hm⟩ := h0; exact DataW.trod_lt m _ _ _ hm
  obtain ⟨A0, n0, c0, xs0, nx0, hv0, hs0⟩ := open_store (hval 0 24 v0 rfl rfl) h0
  subst hv0
  clear hA0 hval0
  refine (walk A0 n0 c0 xs0 nx0 W hs0).mono fun e W' ⟨he, bel⟩ => ?_
  subst he
  exact ⟨_, rfl, _, _, _, [], _, [], hW', trodAll_mk1 (shut_bool Try.underlying4 _), (trodAll_cons_mk (Below.trod laidOut (by kernel_rfl) (of_decide_eq_true (by kernel_rfl)) h0 bel lt0) trodAll_mk0), rfl, bel.frame _, fun h => by cases h⟩
theorem over : Rows.fnExactStoreOkRow.holds Try.pinned (OpenSpec.ofChange Rows.fnExactStoreOkSpec) :=
  OpenClaim.holds_of_wide 3 Try.f3 rfl rfl rfl rfl rfl rfl rfl ⟨rfl, rfl, rfl, rfl, rfl⟩ rfl rfl rfl rfl rfl (by kernel_rfl) Try.func3 (by kernel_rfl)
    (of_decide_eq_true (by kernel_rfl)) (by unfold Func.isWrapper; first | (rw [if_pos (by decide +kernel)]; kernel_rfl) | (rw [if_neg (by decide +kernel)]; exact ⟨rfl, rfl⟩))
    (fun os started H enc _ => lifted os started H enc)
theorem proved : Rows.FnExactStoreOkSaid := over
end Go.Proofs.Ytflhfcpenehjaaa.fnExactStoreOk
