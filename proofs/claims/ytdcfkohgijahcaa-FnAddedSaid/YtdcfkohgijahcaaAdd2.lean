/- AddVals, SubVals of the reference. Each answers what the plain function says and makes at most new blocks. No condition but the texts' lengths. -/
import Derived.Test.YtdcfkohgijahcaaAdd
namespace Go.Proofs.Ytdcfkohgijahcaa
open Go.RowKit
set_option maxRecDepth 100000
set_option maxHeartbeats 2000000

theorem l2Sum_any (k n : Int) (s : ByteArray) (k2 n2 : Int) (s2 : ByteArray) (x : Int) (w : World) (hs : s.size ≤ 9223372036854775807) (hs2 : s2.size ≤ 9223372036854775807) :
    Calls Try.prog 40 #[.agg #[.int .i64 k, .int .i64 n, .string s], .agg #[.int .i64 k2, .int .i64 n2, .string s2], .int .i64 x] w fun e w' =>
      e = .returned (tupV (sumR ⟨k, n, s⟩ ⟨k2, n2, s2⟩ x)) ∧ Below w.heap.size w w' := by
  rcases Decidable.em (k = 1) with hk | hk
  rcases Decidable.em (k2 = 1) with hk2 | hk2
  · subst hk hk2
    cases hv : valOk ⟨1, n, s⟩
    · have HR := Lib.hid (sumR_no (a := ⟨1, n, s⟩) (b := ⟨1, n2, s2⟩) (x := x) (by simp [areI, hv]))
      have HV := Lib.hid hv; clear hv
      go_enter Try.func40, Try.ntmps40
      go_wp2_with fail
      refine (specValOk_any _ _ _ _ hs).mono ?_
      rw [HV.out]
      rintro e w1 ⟨rfl, hb⟩
      obtain ⟨hc, hf⟩ := bcell hb
      have e0 := old_cell hb (b := w.heap.size + 1 + 1) (o := 0) (v := .int .i64 0) (by go_simp)
      have e1 := old_cell hb (b := w.heap.size + 1 + 1) (o := 1) (v := .int .i64 0) (by go_simp)
      have e2 := old_cell hb (b := w.heap.size + 1 + 1) (o := 2) (v := .string ⟨#[]⟩) (by go_simp)
      have f0 := old_frozen hb (b := w.heap.size + 1 + 1) (o := 0) (by simp) (by go_simp)
      have f1 := old_frozen hb (b := w.heap.size + 1 + 1) (o := 1) (by simp) (by go_simp)
      have f2 := old_frozen hb (b := w.heap.size + 1 + 1) (o := 2) (by simp) (by go_simp)
      have b0 := old_cell hb (b := w.heap.size + 1) (o := 0) (v := .int .i64 1) (by go_simp)
      have b1 := old_cell hb (b := w.heap.size + 1) (o := 1) (v := .int .i64 n2) (by go_simp)
      have b2 := old_cell hb (b := w.heap.size + 1) (o := 2) (v := .string s2) (by go_simp)
      have d0 := old_cell hb (b := w.heap.size + 1 + 1 + 1) (o := 0) (v := .int .i64 1) (by go_simp)
      have d1 := old_cell hb (b := w.heap.size + 1 + 1 + 1) (o := 1) (v := .int .i64 x) (by go_simp)
      have d2 := old_cell hb (b := w.heap.size + 1 + 1 + 1) (o := 2) (v := .string ⟨#[]⟩) (by go_simp)
      clear hc hf
      go_wp2
      refine bodyPost_ret (v := tupV (zeroV, false)) (by simp [results, Try.results40, go_sem, e0, e1, e2, tupV, zeroV]) rfl ⟨by rw [HR.out], ?_⟩
      exact bel_set (bel_set (bel_set (bel_trans (bel_alloc (bel_alloc (bel_alloc (bel_alloc (bel_refl _) _) _) _) _) hb) (by simp; omega) _) (by simp; omega) _) (by simp; omega) _
    · cases hv2 : valOk ⟨1, n2, s2⟩
      · have HR := Lib.hid (sumR_no (a := ⟨1, n, s⟩) (b := ⟨1, n2, s2⟩) (x := x) (by simp [areI, hv2]))
        have HV := Lib.hid hv; clear hv
        have HV2 := Lib.hid hv2; clear hv2
        go_enter Try.func40, Try.ntmps40
        go_wp2_with fail
        refine (specValOk_any _ _ _ _ hs).mono ?_
        rw [HV.out]
        rintro e w1 ⟨rfl, hb⟩
        obtain ⟨hc, hf⟩ := bcell hb
        have e0 := old_cell hb (b := w.heap.size + 1 + 1) (o := 0) (v := .int .i64 0) (by go_simp)
        have e1 := old_cell hb (b := w.heap.size + 1 + 1) (o := 1) (v := .int .i64 0) (by go_simp)
        have e2 := old_cell hb (b := w.heap.size + 1 + 1) (o := 2) (v := .string ⟨#[]⟩) (by go_simp)
        have f0 := old_frozen hb (b := w.heap.size + 1 + 1) (o := 0) (by simp) (by go_simp)
        have f1 := old_frozen hb (b := w.heap.size + 1 + 1) (o := 1) (by simp) (by go_simp)
        have f2 := old_frozen hb (b := w.heap.size + 1 + 1) (o := 2) (by simp) (by go_simp)
        have b0 := old_cell hb (b := w.heap.size + 1) (o := 0) (v := .int .i64 1) (by go_simp)
        have b1 := old_cell hb (b := w.heap.size + 1) (o := 1) (v := .int .i64 n2) (by go_simp)
        have b2 := old_cell hb (b := w.heap.size + 1) (o := 2) (v := .string s2) (by go_simp)
        have d0 := old_cell hb (b := w.heap.size + 1 + 1 + 1) (o := 0) (v := .int .i64 1) (by go_simp)
        have d1 := old_cell hb (b := w.heap.size + 1 + 1 + 1) (o := 1) (v := .int .i64 x) (by go_simp)
        have d2 := old_cell hb (b := w.heap.size + 1 + 1 + 1) (o := 2) (v := .string ⟨#[]⟩) (by go_simp)
        clear hc hf
        go_wp2_with fail
        refine (specValOk_any _ _ _ _ hs2).mono ?_
        rw [HV2.out]
        rintro e w2 ⟨rfl, hb2⟩
        have ff0 := old_frozen hb2 (cell_lt e0) f0
        have ff1 := old_frozen hb2 (cell_lt e1) f1
        have ff2 := old_frozen hb2 (cell_lt e2) f2
        replace e0 := old_cell hb2 e0
        replace e1 := old_cell hb2 e1
        replace e2 := old_cell hb2 e2
        replace b0 := old_cell hb2 b0
        replace b1 := old_cell hb2 b1
        replace b2 := old_cell hb2 b2
        replace d0 := old_cell hb2 d0
        replace d1 := old_cell hb2 d1
        replace d2 := old_cell hb2 d2
        clear f0 f1 f2
        obtain ⟨f0, f1, f2⟩ := And.intro ff0 (And.intro ff1 ff2)
        go_wp2
        refine bodyPost_ret (v := tupV (zeroV, false)) (by simp [results, Try.results40, go_sem, e0, e1, e2, tupV, zeroV]) rfl ⟨by rw [HR.out], ?_⟩
        exact bel_set (bel_set (bel_set (bel_trans (bel_trans (bel_alloc (bel_alloc (bel_alloc (bel_alloc (bel_refl _) _) _) _) _) hb) hb2) (by simp; omega) _) (by simp; omega) _) (by simp; omega) _
      · cases hv3 : valOk ⟨1, x, ⟨#[]⟩⟩
        · have HR := Lib.hid ((sumR_yes (a := ⟨1, n, s⟩) (b := ⟨1, n2, s2⟩) (x := x) (by simp [areI, hv, hv2])).trans (show intR x = (zeroV, false) by unfold intR intV; rw [hv3]; rfl))
          have HV := Lib.hid hv; clear hv
          have HV2 := Lib.hid hv2; clear hv2
          have HV3 := Lib.hid hv3; clear hv3
          go_enter Try.func40, Try.ntmps40
          go_wp2_with fail
          refine (specValOk_any _ _ _ _ hs).mono ?_
          rw [HV.out]
          rintro e w1 ⟨rfl, hb⟩
          obtain ⟨hc, hf⟩ := bcell hb
          have e0 := old_cell hb (b := w.heap.size + 1 + 1) (o := 0) (v := .int .i64 0) (by go_simp)
          have e1 := old_cell hb (b := w.heap.size + 1 + 1) (o := 1) (v := .int .i64 0) (by go_simp)
          have e2 := old_cell hb (b := w.heap.size + 1 + 1) (o := 2) (v := .string ⟨#[]⟩) (by go_simp)
          have f0 := old_frozen hb (b := w.heap.size + 1 + 1) (o := 0) (by simp) (by go_simp)
          have f1 := old_frozen hb (b := w.heap.size + 1 + 1) (o := 1) (by simp) (by go_simp)
          have f2 := old_frozen hb (b := w.heap.size + 1 + 1) (o := 2) (by simp) (by go_simp)
          have b0 := old_cell hb (b := w.heap.size + 1) (o := 0) (v := .int .i64 1) (by go_simp)
          have b1 := old_cell hb (b := w.heap.size + 1) (o := 1) (v := .int .i64 n2) (by go_simp)
          have b2 := old_cell hb (b := w.heap.size + 1) (o := 2) (v := .string s2) (by go_simp)
          have d0 := old_cell hb (b := w.heap.size + 1 + 1 + 1) (o := 0) (v := .int .i64 1) (by go_simp)
          have d1 := old_cell hb (b := w.heap.size + 1 + 1 + 1) (o := 1) (v := .int .i64 x) (by go_simp)
          have d2 := old_cell hb (b := w.heap.size + 1 + 1 + 1) (o := 2) (v := .string ⟨#[]⟩) (by go_simp)
          clear hc hf
          go_wp2_with fail
          refine (specValOk_any _ _ _ _ hs2).mono ?_
          rw [HV2.out]
          rintro e w2 ⟨rfl, hb2⟩
          have ff0 := old_frozen hb2 (cell_lt e0) f0
          have ff1 := old_frozen hb2 (cell_lt e1) f1
          have ff2 := old_frozen hb2 (cell_lt e2) f2
          replace e0 := old_cell hb2 e0
          replace e1 := old_cell hb2 e1
          replace e2 := old_cell hb2 e2
          replace b0 := old_cell hb2 b0
          replace b1 := old_cell hb2 b1
          replace b2 := old_cell hb2 b2
          replace d0 := old_cell hb2 d0
          replace d1 := old_cell hb2 d1
          replace d2 := old_cell hb2 d2
          clear f0 f1 f2
          obtain ⟨f0, f1, f2⟩ := And.intro ff0 (And.intro ff1 ff2)
          go_wp2_with fail
          refine (specValOk_any _ _ _ _ (by simp [ByteArray.size])).mono ?_
          rw [HV3.out]
          rintro e w3 ⟨rfl, hb3⟩
          have ff0 := old_frozen hb3 (cell_lt e0) f0
          have ff1 := old_frozen hb3 (cell_lt e1) f1
          have ff2 := old_frozen hb3 (cell_lt e2) f2
          replace e0 := old_cell hb3 e0
          replace e1 := old_cell hb3 e1
          replace e2 := old_cell hb3 e2
          replace b0 := old_cell hb3 b0
          replace b1 := old_cell hb3 b1
          replace b2 := old_cell hb3 b2
          replace d0 := old_cell hb3 d0
          replace d1 := old_cell hb3 d1
          replace d2 := old_cell hb3 d2
          clear f0 f1 f2
          obtain ⟨f0, f1, f2⟩ := And.intro ff0 (And.intro ff1 ff2)
          go_wp2
          refine bodyPost_ret (v := tupV (zeroV, false)) (by simp [results, Try.results40, go_sem, e0, e1, e2, tupV, zeroV]) rfl ⟨by rw [HR.out], ?_⟩
          exact bel_set (bel_set (bel_set (bel_trans (bel_trans (bel_trans (bel_alloc (bel_alloc (bel_alloc (bel_alloc (bel_refl _) _) _) _) _) hb) hb2) hb3) (by simp; omega) _) (by simp; omega) _) (by simp; omega) _
        · have HR := Lib.hid ((sumR_yes (a := ⟨1, n, s⟩) (b := ⟨1, n2, s2⟩) (x := x) (by simp [areI, hv, hv2])).trans (show intR x = (intV x, true) by unfold intR intV; rw [hv3]; rfl))
          have HV := Lib.hid hv; clear hv
          have HV2 := Lib.hid hv2; clear hv2
          have HV3 := Lib.hid hv3; clear hv3
          go_enter Try.func40, Try.ntmps40
          go_wp2_with fail
          refine (specValOk_any _ _ _ _ hs).mono ?_
          rw [HV.out]
          rintro e w1 ⟨rfl, hb⟩
          obtain ⟨hc, hf⟩ := bcell hb
          have e0 := old_cell hb (b := w.heap.size + 1 + 1) (o := 0) (v := .int .i64 0) (by go_simp)
          have e1 := old_cell hb (b := w.heap.size + 1 + 1) (o := 1) (v := .int .i64 0) (by go_simp)
          have e2 := old_cell hb (b := w.heap.size + 1 + 1) (o := 2) (v := .string ⟨#[]⟩) (by go_simp)
          have f0 := old_frozen hb (b := w.heap.size + 1 + 1) (o := 0) (by simp) (by go_simp)
          have f1 := old_frozen hb (b := w.heap.size + 1 + 1) (o := 1) (by simp) (by go_simp)
          have f2 := old_frozen hb (b := w.heap.size + 1 + 1) (o := 2) (by simp) (by go_simp)
          have b0 := old_cell hb (b := w.heap.size + 1) (o := 0) (v := .int .i64 1) (by go_simp)
          have b1 := old_cell hb (b := w.heap.size + 1) (o := 1) (v := .int .i64 n2) (by go_simp)
          have b2 := old_cell hb (b := w.heap.size + 1) (o := 2) (v := .string s2) (by go_simp)
          have d0 := old_cell hb (b := w.heap.size + 1 + 1 + 1) (o := 0) (v := .int .i64 1) (by go_simp)
          have d1 := old_cell hb (b := w.heap.size + 1 + 1 + 1) (o := 1) (v := .int .i64 x) (by go_simp)
          have d2 := old_cell hb (b := w.heap.size + 1 + 1 + 1) (o := 2) (v := .string ⟨#[]⟩) (by go_simp)
          clear hc hf
          go_wp2_with fail
          refine (specValOk_any _ _ _ _ hs2).mono ?_
          rw [HV2.out]
          rintro e w2 ⟨rfl, hb2⟩
          have ff0 := old_frozen hb2 (cell_lt e0) f0
          have ff1 := old_frozen hb2 (cell_lt e1) f1
          have ff2 := old_frozen hb2 (cell_lt e2) f2
          replace e0 := old_cell hb2 e0
          replace e1 := old_cell hb2 e1
          replace e2 := old_cell hb2 e2
          replace b0 := old_cell hb2 b0
          replace b1 := old_cell hb2 b1
          replace b2 := old_cell hb2 b2
          replace d0 := old_cell hb2 d0
          replace d1 := old_cell hb2 d1
          replace d2 := old_cell hb2 d2
          clear f0 f1 f2
          obtain ⟨f0, f1, f2⟩ := And.intro ff0 (And.intro ff1 ff2)
          go_wp2_with fail
          refine (specValOk_any _ _ _ _ (by simp [ByteArray.size])).mono ?_
          rw [HV3.out]
          rintro e w3 ⟨rfl, hb3⟩
          have ff0 := old_frozen hb3 (cell_lt e0) f0
          have ff1 := old_frozen hb3 (cell_lt e1) f1
          have ff2 := old_frozen hb3 (cell_lt e2) f2
          replace e0 := old_cell hb3 e0
          replace e1 := old_cell hb3 e1
          replace e2 := old_cell hb3 e2
          replace b0 := old_cell hb3 b0
          replace b1 := old_cell hb3 b1
          replace b2 := old_cell hb3 b2
          replace d0 := old_cell hb3 d0
          replace d1 := old_cell hb3 d1
          replace d2 := old_cell hb3 d2
          clear f0 f1 f2
          obtain ⟨f0, f1, f2⟩ := And.intro ff0 (And.intro ff1 ff2)
          go_wp2
          refine bodyPost_ret (v := tupV (intV x, true)) (by simp [results, Try.results40, go_sem, e0, e1, e2, tupV, intV]) rfl ⟨by rw [HR.out], ?_⟩
          exact bel_set (bel_set (bel_set (bel_trans (bel_trans (bel_trans (bel_alloc (bel_alloc (bel_alloc (bel_alloc (bel_refl _) _) _) _) _) hb) hb2) hb3) (by simp; omega) _) (by simp; omega) _) (by simp; omega) _
  · subst hk
    have HR := Lib.hid (sumR_no (a := ⟨1, n, s⟩) (b := ⟨k2, n2, s2⟩) (x := x) (by simp [areI, hk2]))
    have hk' : (k2 != 1) = true := by simp [hk2]
    go_enter Try.func40, Try.ntmps40
    go_wp2
    refine bodyPost_ret (v := tupV (zeroV, false)) (by simp [results, Try.results40, go_sem, tupV, zeroV]) rfl ⟨by rw [HR.out], ?_⟩
    repeat (first | exact bel_refl _ | refine bel_alloc ?_ _ | refine bel_set ?_ (by simp; omega) _ | refine bel_set ?_ (by simp) _)
  · have HR := Lib.hid (sumR_no (a := ⟨k, n, s⟩) (b := ⟨k2, n2, s2⟩) (x := x) (by simp [areI, hk]))
    have hk' : (k != 1) = true := by simp [hk]
    go_enter Try.func40, Try.ntmps40
    go_wp2
    refine bodyPost_ret (v := tupV (zeroV, false)) (by simp [results, Try.results40, go_sem, tupV, zeroV]) rfl ⟨by rw [HR.out], ?_⟩
    repeat (first | exact bel_refl _ | refine bel_alloc ?_ _ | refine bel_set ?_ (by simp; omega) _ | refine bel_set ?_ (by simp) _)
theorem specAddVals_any (k n : Int) (s : ByteArray) (k2 n2 : Int) (s2 : ByteArray) (w : World) (hs : s.size ≤ 9223372036854775807) (hs2 : s2.size ≤ 9223372036854775807) :
    Calls Try.prog 30 #[.agg #[.int .i64 k, .int .i64 n, .string s], .agg #[.int .i64 k2, .int .i64 n2, .string s2]] w fun e w' =>
      e = .returned (tupV (sumR ⟨k, n, s⟩ ⟨k2, n2, s2⟩ (n + n2))) ∧ Below w.heap.size w w' := by
  obtain ⟨rv, ro, hi⟩ : ∃ rv ro, sumR ⟨k, n, s⟩ ⟨k2, n2, s2⟩ (wrap64 (n + n2)) = (rv, ro) := ⟨_, _, rfl⟩
  have hw : sumR ⟨k, n, s⟩ ⟨k2, n2, s2⟩ (n + n2) = (rv, ro) := by
    rw [← hi]
    cases ha : areI ⟨k, n, s⟩ ⟨k2, n2, s2⟩
    · rw [sumR_no ha, sumR_no ha]
    · have hbd := areI_bounds ha
      simp only at hbd
      rw [IntWalk.wrap64_in _ (by omega)]
  have HI := Lib.hid hi; clear hi
  have HW := Lib.hid hw; clear hw
  go_enter Try.func30, Try.ntmps30
  go_wp2_with fail
  refine (l2Sum_any _ _ _ _ _ _ _ _ hs hs2).mono ?_
  rw [HI.out]
  dsimp only [tupV]
  rintro e w1 ⟨rfl, hb⟩
  have e0 := old_cell hb (b := w.heap.size + 1 + 1) (o := 0) (v := .int .i64 0) (by go_simp)
  have e1 := old_cell hb (b := w.heap.size + 1 + 1) (o := 1) (v := .int .i64 0) (by go_simp)
  have e2 := old_cell hb (b := w.heap.size + 1 + 1) (o := 2) (v := .string ⟨#[]⟩) (by go_simp)
  have f0 := old_frozen hb (b := w.heap.size + 1 + 1) (o := 0) (by simp) (by go_simp)
  have f1 := old_frozen hb (b := w.heap.size + 1 + 1) (o := 1) (by simp) (by go_simp)
  have f2 := old_frozen hb (b := w.heap.size + 1 + 1) (o := 2) (by simp) (by go_simp)
  go_wp2
  refine bodyPost_ret (v := tupV (rv, ro)) (by simp [results, Try.results30, go_sem, e0, e1, e2, tupV]) rfl ⟨by rw [HW.out], ?_⟩
  exact bel_set (bel_set (bel_set (bel_trans (bel_alloc (bel_alloc (bel_alloc (bel_refl _) _) _) _) hb) (by simp; omega) _) (by simp; omega) _) (by simp; omega) _
theorem specSubVals_any (k n : Int) (s : ByteArray) (k2 n2 : Int) (s2 : ByteArray) (w : World) (hs : s.size ≤ 9223372036854775807) (hs2 : s2.size ≤ 9223372036854775807) :
    Calls Try.prog 12 #[.agg #[.int .i64 k, .int .i64 n, .string s], .agg #[.int .i64 k2, .int .i64 n2, .string s2]] w fun e w' =>
      e = .returned (tupV (sumR ⟨k, n, s⟩ ⟨k2, n2, s2⟩ (n - n2))) ∧ Below w.heap.size w w' := by
  obtain ⟨rv, ro, hi⟩ : ∃ rv ro, sumR ⟨k, n, s⟩ ⟨k2, n2, s2⟩ (wrap64 (n - n2)) = (rv, ro) := ⟨_, _, rfl⟩
  have hw : sumR ⟨k, n, s⟩ ⟨k2, n2, s2⟩ (n - n2) = (rv, ro) := by
    rw [← hi]
    cases ha : areI ⟨k, n, s⟩ ⟨k2, n2, s2⟩
    · rw [sumR_no ha, sumR_no ha]
    · have hbd := areI_bounds ha
      simp only at hbd
      rw [IntWalk.wrap64_in _ (by omega)]
  have HI := Lib.hid hi; clear hi
  have HW := Lib.hid hw; clear hw
  go_enter Try.func12, Try.ntmps12
  go_wp2_with fail
  refine (l2Sum_any _ _ _ _ _ _ _ _ hs hs2).mono ?_
  rw [HI.out]
  dsimp only [tupV]
  rintro e w1 ⟨rfl, hb⟩
  have e0 := old_cell hb (b := w.heap.size + 1 + 1) (o := 0) (v := .int .i64 0) (by go_simp)
  have e1 := old_cell hb (b := w.heap.size + 1 + 1) (o := 1) (v := .int .i64 0) (by go_simp)
  have e2 := old_cell hb (b := w.heap.size + 1 + 1) (o := 2) (v := .string ⟨#[]⟩) (by go_simp)
  have f0 := old_frozen hb (b := w.heap.size + 1 + 1) (o := 0) (by simp) (by go_simp)
  have f1 := old_frozen hb (b := w.heap.size + 1 + 1) (o := 1) (by simp) (by go_simp)
  have f2 := old_frozen hb (b := w.heap.size + 1 + 1) (o := 2) (by simp) (by go_simp)
  go_wp2
  refine bodyPost_ret (v := tupV (rv, ro)) (by simp [results, Try.results12, go_sem, e0, e1, e2, tupV]) rfl ⟨by rw [HW.out], ?_⟩
  exact bel_set (bel_set (bel_set (bel_trans (bel_alloc (bel_alloc (bel_alloc (bel_refl _) _) _) _) hb) (by simp; omega) _) (by simp; omega) _) (by simp; omega) _
end Go.Proofs.Ytdcfkohgijahcaa
