/- The law FnConds returns true at every input, and leaves what it was given as it was. No condition. -/
import Derived.Test.YtjlfllnjbdddaaaPlainCond
import Derived.Test.YtjlfllnjbdddaaaDraw8
import Derived.Test.YtjlfllnjbdddaaaCondOk
import Derived.Test.YtjlfllnjbdddaaaAt
import Derived.Test.YtjlfllnjbdddaaaRows
import Derived.Test.YtjlfllnjbdddaaaRead
namespace Go.Proofs.Ytjlfllnjbdddaaa.fnConds
open Go.ChangeShapes Go.WideShapes Go.ChangeAt Go.RowKit
open Go.ChangeMaps (open_string shut_string)
set_option linter.unusedVariables false
set_option maxRecDepth 100000
set_option maxHeartbeats 20000000

theorem walk (A : Option Addr) (n c : Nat) (code : List UInt8) (W : World) (hs : n ≤ c ∧ c ≤ maxLen ∧ RdB W W.heap.size A n code) :
    Calls Try.prog 14 #[.slice A n c] W fun e w' => e = .returned (.bool true) ∧ Below W.heap.size W w' := by
  obtain ⟨hnc, _, hr⟩ := hs
  by_cases hbig : (1048576 : Int) < n
  · go_enter Try.func14, Try.ntmps14
    go_wp2_with fail
    refine (big_any _ _ _ _).mono ?_
    rw [decide_eq_true hbig]
    rintro e w' ⟨rfl, rfl⟩
    go_wp2
    go_ret
    exact ⟨rfl, Below.refl _ _⟩
  · go_enter Try.func14, Try.ntmps14
    go_wp2_with fail
    refine (big_any _ _ _ _).mono ?_
    rw [decide_eq_false (by omega)]
    rintro e w' ⟨rfl, rfl⟩
    go_wp2_with fail
    refine (DrawHolds_any A n c code W _ hr (Nat.le_refl _) (by omega)).mono ?_
    rintro e w1 ⟨op, lk, ls, lvk, lvn, lvs, rk, rs, rvk, rvn, rvs, A1, c1, l, ⟨h1, h2, h3, h4⟩, ⟨hll, hlz⟩, rfl, r1, gW⟩
    obtain ⟨kl, nl, sl, a, kr, nr, sr, b, s, o, le, m, e1, e2, e3, e4, e5, e6, hcase⟩ := conds_law ⟨lk, ls, ⟨lvk, lvn, lvs⟩⟩ ⟨rk, rs, ⟨rvk, rvn, rvs⟩⟩ l
    obtain ⟨h, hh⟩ : ∃ h, holds ⟨op, ⟨lk, ls, ⟨lvk, lvn, lvs⟩⟩, ⟨rk, rs, ⟨rvk, rvn, rvs⟩⟩⟩ l = h := ⟨_, rfl⟩
    obtain ⟨k, hk⟩ : ∃ k, condOk ⟨op, ⟨lk, ls, ⟨lvk, lvn, lvs⟩⟩, ⟨rk, rs, ⟨rvk, rvn, rvs⟩⟩⟩ = k := ⟨_, rfl⟩
    have HC := Lib.hid hcase; clear hcase
    have E1 := Lib.hid e1; have E2 := Lib.hid e2; have E3 := Lib.hid e3; have E4 := Lib.hid e4; have E5 := Lib.hid e5; have E6 := Lib.hid e6; have E7 := Lib.hid hh; have E8 := Lib.hid hk
    clear e1 e2 e3 e4 e5 e6 hh hk hlz
    have HX := Blk.new w1 79 #[.int .i64 0, .int .i64 0, .string ⟨#[]⟩, .int .i64 0, .int .i64 0, .string ⟨#[]⟩, .int .i64 0, .string ⟨#[]⟩, .int .i64 0, .int .i64 0, .string ⟨#[]⟩]
    have hq1 : ls.size ≤ 9223372036854775807 := by omega
    have hq2 : lvs.size ≤ 9223372036854775807 := by omega
    have hq3 : rs.size ≤ 9223372036854775807 := by omega
    have hq4 : rvs.size ≤ 9223372036854775807 := by omega
    have gS := gW.size
    go_upto_region 4 with ((with_reducible show wpList _ _ _ (Oper.mk none (Op.store _ _ _) _ _ _ _ :: _) _ _); refine wpList_store_at (by rfl) 79 (.tmp 3) (.tmp 18) (by rfl) _ [] [.int .i64 0, .int .i64 0, .string ⟨#[]⟩, .int .i64 0, .int .i64 0, .string ⟨#[]⟩, .int .i64 0, .string ⟨#[]⟩, .int .i64 0, .int .i64 0, .string ⟨#[]⟩] [] [.int .i64 op, .int .i64 lk, .string ls, .int .i64 lvk, .int .i64 lvn, .string lvs, .int .i64 rk, .string rs, .int .i64 rvk, .int .i64 rvn, .string rvs] (by rfl) (by rfl) HX (by rfl) (by kernel_rfl) (by simp [Value.oneCell']) (fun V => RdS bC 4 V w1.heap.size A1 l.length l ∧ Below W.heap.size W V ∧ w1.heap.size < V.heap.size) (fun V o v h => ⟨RdS.setCell h.1 (by simp) v, bel_set h.2.1 (by simp; omega) v, by simpa using h.2.2⟩) ⟨r1.alloc _, bel_alloc gW _, by simp⟩ ?_; intro w2 HX2 hpr)
    obtain ⟨r2, g2, z2⟩ := hpr
    replace HX2 : Blk w2 w1.heap.size 79 #[.int .i64 op, .int .i64 lk, .string ls, .int .i64 lvk, .int .i64 lvn, .string lvs, .int .i64 rk, .string rs, .int .i64 rvk, .int .i64 rvn, .string rvs] := HX2
    clear HX r1 gW
    have x0 := HX2.cell 0
    have x1 := HX2.cell 1
    have x2 := HX2.cell 2
    have x3 := HX2.cell 3
    have x4 := HX2.cell 4
    have x5 := HX2.cell 5
    have x6 := HX2.cell 6
    have x7 := HX2.cell 7
    have x8 := HX2.cell 8
    have x9 := HX2.cell 9
    have x10 := HX2.cell 10
    simp at x0 x1 x2 x3 x4 x5 x6 x7 x8 x9 x10
    go_wp2_with fail
    refine (implArgVal_any lk ls lvk lvn lvs A1 _ c1 l _ w1.heap.size (by repeat (first | with_reducible assumption | with_reducible refine RdS.alloc ?_ _ | with_reducible refine RdS.drew ?_ | with_reducible refine RdS.drewN ?_ _ | with_reducible refine RdS.setCell ?_ (by first | (simp; done) | (simp; omega) | omega) _)) (by omega)).mono ?_
    rw [E1.out]
    dsimp only [tupB]
    rintro e w3 ⟨rfl, hb⟩
    have gg : Below w2.heap.size w2 w3 := (by repeat (first | with_reducible exact bel_refl _ | with_reducible assumption | with_reducible refine bel_set ?_ (by first | (simp; done) | (simp; omega) | omega) _ | with_reducible refine bel_alloc ?_ _ | with_reducible refine bel_drew ?_ | with_reducible refine bel_drewN ?_ _ | with_reducible refine bel_trans ?_ (by assumption)))
    clear hb
    replace HX2 := HX2.kept gg
    replace r2 := r2.kept gg
    replace g2 := bel_trans g2 gg
    have z3 := Nat.lt_of_lt_of_le z2 gg.size
    clear gg x0 x1 x2 x3 x4 x5 x6 x7 x8 x9 x10
    have x0 := HX2.cell 0
    have x1 := HX2.cell 1
    have x2 := HX2.cell 2
    have x3 := HX2.cell 3
    have x4 := HX2.cell 4
    have x5 := HX2.cell 5
    have x6 := HX2.cell 6
    have x7 := HX2.cell 7
    have x8 := HX2.cell 8
    have x9 := HX2.cell 9
    have x10 := HX2.cell 10
    simp at x0 x1 x2 x3 x4 x5 x6 x7 x8 x9 x10
    go_wp2_with fail
    refine (implArgVal_any rk rs rvk rvn rvs A1 _ c1 l _ w1.heap.size (by repeat (first | with_reducible assumption | with_reducible refine RdS.alloc ?_ _ | with_reducible refine RdS.drew ?_ | with_reducible refine RdS.drewN ?_ _ | with_reducible refine RdS.setCell ?_ (by first | (simp; done) | (simp; omega) | omega) _)) (by omega)).mono ?_
    rw [E2.out]
    dsimp only [tupB]
    rintro e w4 ⟨rfl, hb⟩
    have gg : Below w3.heap.size w3 w4 := (by repeat (first | with_reducible exact bel_refl _ | with_reducible assumption | with_reducible refine bel_set ?_ (by first | (simp; done) | (simp; omega) | omega) _ | with_reducible refine bel_alloc ?_ _ | with_reducible refine bel_drew ?_ | with_reducible refine bel_drewN ?_ _ | with_reducible refine bel_trans ?_ (by assumption)))
    clear hb
    replace HX2 := HX2.kept gg
    replace r2 := r2.kept gg
    replace g2 := bel_trans g2 gg
    have z4 := Nat.lt_of_lt_of_le z3 gg.size
    clear gg x0 x1 x2 x3 x4 x5 x6 x7 x8 x9 x10
    have x0 := HX2.cell 0
    have x1 := HX2.cell 1
    have x2 := HX2.cell 2
    have x3 := HX2.cell 3
    have x4 := HX2.cell 4
    have x5 := HX2.cell 5
    have x6 := HX2.cell 6
    have x7 := HX2.cell 7
    have x8 := HX2.cell 8
    have x9 := HX2.cell 9
    have x10 := HX2.cell 10
    simp at x0 x1 x2 x3 x4 x5 x6 x7 x8 x9 x10
    go_wp2_with fail
    refine (implHolds_any 1 lk ls lvk lvn lvs rk rs rvk rvn rvs A1 _ c1 l _ w1.heap.size (by repeat (first | with_reducible assumption | with_reducible refine RdS.alloc ?_ _ | with_reducible refine RdS.drew ?_ | with_reducible refine RdS.drewN ?_ _ | with_reducible refine RdS.setCell ?_ (by first | (simp; done) | (simp; omega) | omega) _)) (by omega)).mono ?_
    rw [E3.out]
    rintro e w5 ⟨rfl, hb⟩
    have gg : Below w4.heap.size w4 w5 := (by repeat (first | with_reducible exact bel_refl _ | with_reducible assumption | with_reducible refine bel_set ?_ (by first | (simp; done) | (simp; omega) | omega) _ | with_reducible refine bel_alloc ?_ _ | with_reducible refine bel_drew ?_ | with_reducible refine bel_drewN ?_ _ | with_reducible refine bel_trans ?_ (by assumption)))
    clear hb
    replace HX2 := HX2.kept gg
    replace r2 := r2.kept gg
    replace g2 := bel_trans g2 gg
    have z5 := Nat.lt_of_lt_of_le z4 gg.size
    clear gg x0 x1 x2 x3 x4 x5 x6 x7 x8 x9 x10
    have x0 := HX2.cell 0
    have x1 := HX2.cell 1
    have x2 := HX2.cell 2
    have x3 := HX2.cell 3
    have x4 := HX2.cell 4
    have x5 := HX2.cell 5
    have x6 := HX2.cell 6
    have x7 := HX2.cell 7
    have x8 := HX2.cell 8
    have x9 := HX2.cell 9
    have x10 := HX2.cell 10
    simp at x0 x1 x2 x3 x4 x5 x6 x7 x8 x9 x10
    go_wp2_with fail
    refine (implHolds_any 2 lk ls lvk lvn lvs rk rs rvk rvn rvs A1 _ c1 l _ w1.heap.size (by repeat (first | with_reducible assumption | with_reducible refine RdS.alloc ?_ _ | with_reducible refine RdS.drew ?_ | with_reducible refine RdS.drewN ?_ _ | with_reducible refine RdS.setCell ?_ (by first | (simp; done) | (simp; omega) | omega) _)) (by omega)).mono ?_
    rw [E4.out]
    rintro e w6 ⟨rfl, hb⟩
    have gg : Below w5.heap.size w5 w6 := (by repeat (first | with_reducible exact bel_refl _ | with_reducible assumption | with_reducible refine bel_set ?_ (by first | (simp; done) | (simp; omega) | omega) _ | with_reducible refine bel_alloc ?_ _ | with_reducible refine bel_drew ?_ | with_reducible refine bel_drewN ?_ _ | with_reducible refine bel_trans ?_ (by assumption)))
    clear hb
    replace HX2 := HX2.kept gg
    replace r2 := r2.kept gg
    replace g2 := bel_trans g2 gg
    have z6 := Nat.lt_of_lt_of_le z5 gg.size
    clear gg x0 x1 x2 x3 x4 x5 x6 x7 x8 x9 x10
    have x0 := HX2.cell 0
    have x1 := HX2.cell 1
    have x2 := HX2.cell 2
    have x3 := HX2.cell 3
    have x4 := HX2.cell 4
    have x5 := HX2.cell 5
    have x6 := HX2.cell 6
    have x7 := HX2.cell 7
    have x8 := HX2.cell 8
    have x9 := HX2.cell 9
    have x10 := HX2.cell 10
    simp at x0 x1 x2 x3 x4 x5 x6 x7 x8 x9 x10
    go_wp2_with fail
    refine (implHolds_any 3 lk ls lvk lvn lvs rk rs rvk rvn rvs A1 _ c1 l _ w1.heap.size (by repeat (first | with_reducible assumption | with_reducible refine RdS.alloc ?_ _ | with_reducible refine RdS.drew ?_ | with_reducible refine RdS.drewN ?_ _ | with_reducible refine RdS.setCell ?_ (by first | (simp; done) | (simp; omega) | omega) _)) (by omega)).mono ?_
    rw [E5.out]
    rintro e w7 ⟨rfl, hb⟩
    have gg : Below w6.heap.size w6 w7 := (by repeat (first | with_reducible exact bel_refl _ | with_reducible assumption | with_reducible refine bel_set ?_ (by first | (simp; done) | (simp; omega) | omega) _ | with_reducible refine bel_alloc ?_ _ | with_reducible refine bel_drew ?_ | with_reducible refine bel_drewN ?_ _ | with_reducible refine bel_trans ?_ (by assumption)))
    clear hb
    replace HX2 := HX2.kept gg
    replace r2 := r2.kept gg
    replace g2 := bel_trans g2 gg
    have z7 := Nat.lt_of_lt_of_le z6 gg.size
    clear gg x0 x1 x2 x3 x4 x5 x6 x7 x8 x9 x10
    have x0 := HX2.cell 0
    have x1 := HX2.cell 1
    have x2 := HX2.cell 2
    have x3 := HX2.cell 3
    have x4 := HX2.cell 4
    have x5 := HX2.cell 5
    have x6 := HX2.cell 6
    have x7 := HX2.cell 7
    have x8 := HX2.cell 8
    have x9 := HX2.cell 9
    have x10 := HX2.cell 10
    simp at x0 x1 x2 x3 x4 x5 x6 x7 x8 x9 x10
    go_wp2_with fail
    refine (implHolds_any 3 rk rs rvk rvn rvs lk ls lvk lvn lvs A1 _ c1 l _ w1.heap.size (by repeat (first | with_reducible assumption | with_reducible refine RdS.alloc ?_ _ | with_reducible refine RdS.drew ?_ | with_reducible refine RdS.drewN ?_ _ | with_reducible refine RdS.setCell ?_ (by first | (simp; done) | (simp; omega) | omega) _)) (by omega)).mono ?_
    rw [E6.out]
    rintro e w8 ⟨rfl, hb⟩
    have gg : Below w7.heap.size w7 w8 := (by repeat (first | with_reducible exact bel_refl _ | with_reducible assumption | with_reducible refine bel_set ?_ (by first | (simp; done) | (simp; omega) | omega) _ | with_reducible refine bel_alloc ?_ _ | with_reducible refine bel_drew ?_ | with_reducible refine bel_drewN ?_ _ | with_reducible refine bel_trans ?_ (by assumption)))
    clear hb
    replace HX2 := HX2.kept gg
    replace r2 := r2.kept gg
    replace g2 := bel_trans g2 gg
    have z8 := Nat.lt_of_lt_of_le z7 gg.size
    clear gg x0 x1 x2 x3 x4 x5 x6 x7 x8 x9 x10
    have x0 := HX2.cell 0
    have x1 := HX2.cell 1
    have x2 := HX2.cell 2
    have x3 := HX2.cell 3
    have x4 := HX2.cell 4
    have x5 := HX2.cell 5
    have x6 := HX2.cell 6
    have x7 := HX2.cell 7
    have x8 := HX2.cell 8
    have x9 := HX2.cell 9
    have x10 := HX2.cell 10
    simp at x0 x1 x2 x3 x4 x5 x6 x7 x8 x9 x10
    go_wp2_with fail
    go_region_held3 (fun w' => Below w8.heap.size w8 w' ∧ w'.cell? ⟨w1.heap.size, 0, none⟩ = some (.int .i64 op) ∧ w'.cell? ⟨w1.heap.size, 1, none⟩ = some (.int .i64 lk) ∧ w'.cell? ⟨w1.heap.size, 2, none⟩ = some (.string ls) ∧ w'.cell? ⟨w1.heap.size, 3, none⟩ = some (.int .i64 lvk) ∧ w'.cell? ⟨w1.heap.size, 4, none⟩ = some (.int .i64 lvn) ∧ w'.cell? ⟨w1.heap.size, 5, none⟩ = some (.string lvs) ∧ w'.cell? ⟨w1.heap.size, 6, none⟩ = some (.int .i64 rk) ∧ w'.cell? ⟨w1.heap.size, 7, none⟩ = some (.string rs) ∧ w'.cell? ⟨w1.heap.size, 8, none⟩ = some (.int .i64 rvk) ∧ w'.cell? ⟨w1.heap.size, 9, none⟩ = some (.int .i64 rvn) ∧ w'.cell? ⟨w1.heap.size, 10, none⟩ = some (.string rvs)) (((refine (fun hB => ⟨hB, old_cell hB x0, old_cell hB x1, old_cell hB x2, old_cell hB x3, old_cell hB x4, old_cell hB x5, old_cell hB x6, old_cell hB x7, old_cell hB x8, old_cell hB x9, old_cell hB x10⟩ : Below w8.heap.size w8 _ → _) ?_); (repeat (first | exact bel_refl _ | exact bel_drew (bel_refl _) | exact bel_trans (And.left (by assumption)) (by assumption) | assumption))))
      ((first | (go_at_call 55; (with_reducible refine (implHolds_any op lk ls lvk lvn lvs rk rs rvk rvn rvs A1 _ c1 l _ _ (r2.kept (And.left (by assumption))) (by omega)).mono ?_); rw [E7.out]; rintro e wa ⟨rfl, hb⟩) | (go_at_call 54; (with_reducible refine (specHolds_any op lk ls lvk lvn lvs rk rs rvk rvn rvs A1 _ c1 l _ _ (r2.kept (And.left (by assumption))) (by omega)).mono ?_); rw [E7.out]; rintro e wb ⟨rfl, hb⟩) | (go_at_call 49; (with_reducible refine (implCondOk_any op lk ls lvk lvn lvs rk rs rvk rvn rvs _ hq1 hq2 hq3 hq4).mono ?_); rw [E8.out]; rintro e wc ⟨rfl, hb⟩) | (go_at_call 47; (with_reducible refine (specCondOk_any op lk ls lvk lvn lvs rk rs rvk rvn rvs _ hq1 hq2 hq3 hq4).mono ?_); rw [E8.out]; rintro e wd ⟨rfl, hb⟩)))
    rename_i hHeld
    obtain ⟨hB, _⟩ := hHeld
    replace g2 := bel_trans g2 hB
    clear hB E1 E2 E3 E4 E5 E6 E7 E8 HX2 r2 x0 x1 x2 x3 x4 x5 x6 x7 x8 x9 x10
    rcases HC.out with ⟨rfl, rfl, rfl, rfl, rfl⟩ | ⟨rfl, rfl, rfl, rfl, rfl, rfl⟩ | ⟨rfl, rfl, rfl, rfl, rfl, rfl⟩ | ⟨rfl, rfl, rfl, rfl, rfl, rfl⟩ | ⟨rfl, rfl, rfl, rfl, rfl, rfl⟩
    all_goals (go_wp2; go_ret; exact ⟨rfl, g2⟩)

theorem own : ownKnob Try.prog.godebug = none := by kernel_rfl
theorem laidOut : laidOutB Try.prog = true := by kernel_rfl
theorem lifted (os : Os) (started : os.Started) (H : Type) (enc : TypeId × Value → H) :
    ReturnsInHanded {} Try.checked os 14 .any (Rows.fnCondsSpec.pre6 enc Try.prog Try.f14 Rows.fnCondsRow.domain false) (Rows.fnCondsSpec.post enc Try.prog Try.f14 false true false false) := by
  refine returnsInHanded_of_change (C := Try.checked) own started (by kernel_rfl) Try.func14
    (ChangeSpec.witness6 (enc := enc) (C := Try.checked) false ⟨#[], #[.slice none 0 0], []⟩ 8 (by kernel_rfl) (by kernel_rfl) (by kernel_rfl) (by kernel_rfl)) ?_
  intro W base args ds gs before hval0 hW hcnd _
  have hval : ∀ (j : Nat) t v, Try.f14.params[j]? = some t → args[j]? = some v → Value.okWide Try.prog W .any base t v := hval0
  have hW' := hW
  obtain ⟨p, q, hA0, hV, rfl, hfz, hnd⟩ := hW
  have hA : DataW.TrodAll enc Try.prog W 0 (fun _ => true) true Try.f14.params.toList args.toList ds p := hA0
  rw [Try.params14] at hA hval
  obtain ⟨v0, vs0, d0, ds0, p0, q0, hargs, rfl, rfl, h0, r0⟩ := trodAll_cons hA
  obtain ⟨rfl, rfl, rfl⟩ := trodAll_nil r0
  obtain rfl : args = #[v0] := by cases args; simp_all
  obtain ⟨rfl, rfl⟩ := trodVars_none hV
  have lt0 : ∀ x ∈ p0, x.block < W.heap.size := by obtain ⟨m, hm⟩ := h0; exact DataW.trod_lt m _ _ _ hm
  obtain ⟨A0, n0, c0, b0, hv0, hs0⟩ := open_bytes Try.underlying99 Try.underlying5 (by kernel_rfl) (hval 0 99 v0 rfl rfl) h0
  subst hv0
  clear hA0 hval0
  refine (walk A0 n0 c0 b0 W hs0).mono fun e W' ⟨he, bel⟩ => ?_
  subst he
  exact ⟨_, rfl, _, _, _, [], _, [], hW', trodAll_mk1 (shut_bool Try.underlying4 _), (trodAll_cons_mk (Below.trod laidOut (by kernel_rfl) (of_decide_eq_true (by kernel_rfl)) h0 bel lt0) trodAll_mk0), rfl, bel.frame _, fun h => by cases h⟩
theorem over : Rows.fnCondsRow.holds Try.pinned (OpenSpec.ofChange Rows.fnCondsSpec) :=
  OpenClaim.holds_of_wide 14 Try.f14 rfl rfl rfl rfl rfl rfl rfl ⟨rfl, rfl, rfl, rfl, rfl⟩ rfl rfl rfl rfl rfl (by kernel_rfl) Try.func14 (by kernel_rfl)
    (of_decide_eq_true (by kernel_rfl)) (by unfold Func.isWrapper; first | (rw [if_pos (by decide +kernel)]; kernel_rfl) | (rw [if_neg (by decide +kernel)]; exact ⟨rfl, rfl⟩))
    (fun os started H enc _ => lifted os started H enc)
theorem proved : Rows.FnCondsSaid := over
end Go.Proofs.Ytjlfllnjbdddaaa.fnConds
