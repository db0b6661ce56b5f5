/- The order of values in the program: cmp.Compare, cmp.Or, compareVals, LessVal. Each answers what the plain function says and makes at most new blocks. No condition. -/
import Derived.Test.YtgpinhamgdganaaDoorVal
namespace Go.Proofs.YtgpinhamgdganaaDoor
open Go.RowKit
set_option maxRecDepth 100000
set_option maxHeartbeats 2000000

theorem lessV_cmp (a b : Vl) : decide (cmpV a b < 0) = lessV a b := by
  have hs : decide (cmpS a.s b.s < 0) = lessS a.s b.s := by
    unfold cmpS
    cases lessS a.s b.s <;> simp
    cases lessS b.s a.s <;> simp
  unfold cmpV or3 lessV cmpI
  by_cases h1 : a.k < b.k
  · simp [h1]; exact .inl (by omega)
  · by_cases h2 : b.k < a.k
    · simp [h1, h2]; try omega
    · have e : a.k = b.k := by omega
      by_cases h3 : a.n < b.n
      · simp [e, h3]; try omega
      · by_cases h4 : b.n < a.n
        · simp [e, h3, h4]; try omega
        · have e2 : a.n = b.n := by omega
          simp [e, e2, hs]
theorem isNaN_int (x : Int) (w : World) : Calls Tryd.prog 105 #[.int .i64 x] w fun e w' => e = .returned (.bool false) ∧ w = w' := by
  have h : (x != x) = false := by simp
  go_enter Tryd.func105, Tryd.ntmps105
  go_wp2
  go_ret
  exact ⟨rfl, rfl⟩
theorem isNaN_str (x : ByteArray) (w : World) : Calls Tryd.prog 106 #[.string x] w fun e w' => e = .returned (.bool false) ∧ w = w' := by
  have h : (!(x.toList == x.toList)) = false := by simp
  go_enter Tryd.func106, Tryd.ntmps106
  go_wp2
  go_ret
  exact ⟨rfl, rfl⟩
theorem compare_int (x y : Int) (w : World) : Calls Tryd.prog 94 #[.int .i64 x, .int .i64 y] w fun e w' => e = .returned (.int .i64 (cmpI x y)) ∧ w = w' := by
  go_enter Tryd.func94, Tryd.ntmps94
  go_wp2_with (go_at_call 105; refine (isNaN_int _ _).mono ?_; rintro e w' ⟨rfl, rfl⟩)
  all_goals
    go_ret
    refine ⟨ret_int ?_, rfl⟩
    unfold cmpI
    split <;> (try split) <;> first | rfl | omega
theorem compare_str (x y : ByteArray) (w : World) : Calls Tryd.prog 95 #[.string x, .string y] w fun e w' => e = .returned (.int .i64 (cmpS x y)) ∧ w = w' := by
  go_enter Tryd.func95, Tryd.ntmps95
  go_wp2_with (go_at_call 106; refine (isNaN_str _ _).mono ?_; rintro e w' ⟨rfl, rfl⟩)
  all_goals
    go_ret
    refine ⟨ret_int ?_, rfl⟩
    unfold cmpS lessS
    simp_all [bless_irrefl]
    try exact bless_total _ _ ‹_› ‹_›
theorem or_three (a b c : Int) (w : World) (g : Nat) (h0 : w.cell? ⟨g, 0, none⟩ = some (.int .i64 a)) (h1 : w.cell? ⟨g, 1, none⟩ = some (.int .i64 b)) (h2 : w.cell? ⟨g, 2, none⟩ = some (.int .i64 c)) :
    Calls Tryd.prog 93 #[.slice (some ⟨g, 0, none⟩) 3 3] w fun e w' => e = .returned (.int .i64 (or3 a b c)) ∧ w = w' := by
  go_enter Tryd.func93, Tryd.ntmps93
  go_wp2
  go_loop [8] (fun i => ∃ k : Nat, k ≤ 3 ∧ i = .int .i64 k ∧ (1 ≤ k → a = 0) ∧ (2 ≤ k → b = 0) ∧ (3 ≤ k → c = 0)) (fun i => 3 - (intOf i).toNat)
  case atStart => exact ⟨0, by omega, rfl, by omega, by omega, by omega⟩
  case round =>
    obtain ⟨k, hk, rfl, ha, hb, hc⟩ := hrel
    have hk4 : k = 0 ∨ k = 1 ∨ k = 2 ∨ k = 3 := by omega
    have HA := Lib.hid ha; clear ha
    have HB := Lib.hid hb; clear hb
    have HC := Lib.hid hc; clear hc
    rcases hk4 with rfl | rfl | rfl | rfl
    · by_cases hz : a = 0
      · have hz' : (a != 0) = false := by simp [hz]
        have HZ := Lib.hid hz; clear hz
        go_wp2
        go_round
        case rel => exact ⟨1, by omega, by go_num, fun _ => HZ.out, by omega, by omega⟩
        case measure => simp [intOf]
      · have hz' : (a != 0) = true := by simp [hz]
        go_wp2
        go_ret
        exact ⟨ret_int (by unfold or3; rw [if_pos hz]), rfl⟩
    · have e0 := HA.out (by omega)
      have E0 := Lib.hid e0; clear e0
      by_cases hz : b = 0
      · have hz' : (b != 0) = false := by simp [hz]
        have HZ := Lib.hid hz; clear hz
        go_wp2
        go_round
        case rel => exact ⟨2, by omega, by go_num, fun _ => E0.out, fun _ => HZ.out, by omega⟩
        case measure => simp [intOf]
      · have hz' : (b != 0) = true := by simp [hz]
        go_wp2
        go_ret
        exact ⟨ret_int (by unfold or3; rw [E0.out, if_neg (by simp), if_pos hz]), rfl⟩
    · have e0 := HA.out (by omega)
      have e1 := HB.out (by omega)
      have E0 := Lib.hid e0; clear e0
      have E1 := Lib.hid e1; clear e1
      by_cases hz : c = 0
      · have hz' : (c != 0) = false := by simp [hz]
        have HZ := Lib.hid hz; clear hz
        go_wp2
        go_round
        case rel => exact ⟨3, by omega, by go_num, fun _ => E0.out, fun _ => E1.out, fun _ => HZ.out⟩
        case measure => simp [intOf]
      · have hz' : (c != 0) = true := by simp [hz]
        go_wp2
        go_ret
        exact ⟨ret_int (by unfold or3; rw [E0.out, E1.out, if_neg (by simp), if_neg (by simp)]), rfl⟩
    · have e0 := HA.out (by omega)
      have e1 := HB.out (by omega)
      have e2 := HC.out (by omega)
      have E0 := Lib.hid e0; clear e0
      have E1 := Lib.hid e1; clear e1
      have E2 := Lib.hid e2; clear e2
      go_wp2
      go_ret
      exact ⟨ret_int (by unfold or3; rw [E0.out, E1.out, E2.out, if_neg (by simp), if_neg (by simp)]), rfl⟩
theorem compareVals_any (k n : Int) (s : ByteArray) (k2 n2 : Int) (s2 : ByteArray) (w : World) :
    Calls Tryd.prog 68 #[.agg #[.int .i64 k, .int .i64 n, .string s], .agg #[.int .i64 k2, .int .i64 n2, .string s2]] w fun e w' =>
      e = .returned (.int .i64 (cmpV ⟨k, n, s⟩ ⟨k2, n2, s2⟩)) ∧ Below w.heap.size w w' := by
  go_enter Tryd.func68, Tryd.ntmps68
  go_wp2
  refine wp_still 15 (by kernel_rfl) (by kernel_rfl) ?_
  simp only [List.take_succ_cons, List.take_zero, List.drop_succ_cons, List.drop_zero]
  repeat still_step
  still_call ((compare_int _ _ _).mono fun e w' h => ⟨h.1, h.2.symm⟩)
  repeat still_step
  still_call ((compare_int _ _ _).mono fun e w' h => ⟨h.1, h.2.symm⟩)
  repeat still_step
  still_call ((compare_str _ _ _).mono fun e w' h => ⟨h.1, h.2.symm⟩)
  refine wpStill_nil ?_
  go_wp2_with fail
  refine (or_three (cmpI k k2) (cmpI n n2) (cmpS s s2) _ _ (by go_simp) (by go_simp) (by go_simp)).mono ?_
  rintro e w' ⟨rfl, rfl⟩
  go_wp2
  go_ret
  exact ⟨ret_int rfl, bel_drew (bel_alloc (bel_alloc (bel_alloc (bel_refl _) _) _) _)⟩
theorem implLessVal_any (k n : Int) (s : ByteArray) (k2 n2 : Int) (s2 : ByteArray) (w : World) :
    Calls Tryd.prog 38 #[.agg #[.int .i64 k, .int .i64 n, .string s], .agg #[.int .i64 k2, .int .i64 n2, .string s2]] w fun e w' =>
      e = .returned (.bool (lessV ⟨k, n, s⟩ ⟨k2, n2, s2⟩)) ∧ Below w.heap.size w w' := by
  have hc := lessV_cmp ⟨k, n, s⟩ ⟨k2, n2, s2⟩
  have HC := Lib.hid hc; clear hc
  go_enter Tryd.func38, Tryd.ntmps38
  go_wp2_with fail
  refine (compareVals_any _ _ _ _ _ _ _).mono ?_
  rintro e w' ⟨rfl, hb⟩
  go_wp2
  go_ret
  exact ⟨ret_bool HC.out, bel_trans (bel_alloc (bel_alloc (bel_refl _) _) _) hb⟩
end Go.Proofs.YtgpinhamgdganaaDoor
