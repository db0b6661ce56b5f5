/- AddVals, SubVals of the program and of the reference. Each answers what the plain function says and makes at most new blocks. No condition but the texts' lengths. -/
import Derived.Test.YtdcfkohgijahcaaVal
namespace Go.Proofs.Ytdcfkohgijahcaa
open Go.RowKit
set_option maxRecDepth 100000
set_option maxHeartbeats 2000000

def zeroV : Vl := ⟨0, 0, ⟨#[]⟩⟩
def intV (x : Int) : Vl := ⟨1, x, ⟨#[]⟩⟩
def intR (x : Int) : Vl × Bool := if valOk (intV x) = true then (intV x, true) else (zeroV, false)
def sumR (a b : Vl) (x : Int) : Vl × Bool := if a.k = 1 ∧ b.k = 1 ∧ valOk a = true ∧ valOk b = true then intR x else (zeroV, false)
def tupV (r : Vl × Bool) : Value := .tuple #[.agg #[.int .i64 r.1.k, .int .i64 r.1.n, .string r.1.s], .bool r.2]
theorem intVal_any (x : Int) (w : World) :
    Calls Try.prog 42 #[.int .i64 x] w fun e w' => e = .returned (tupV (intR x)) ∧ Below w.heap.size w w' := by
  by_cases hv : valOk ⟨1, x, ⟨#[]⟩⟩ = true
  · have hr : intR x = (intV x, true) := by unfold intR intV; rw [if_pos hv]
    have HR := Lib.hid hr; clear hr
    go_enter Try.func42, Try.ntmps42
    go_wp2_with fail
    refine (implValOk_any _ _ _ _ (by simp [ByteArray.size])).mono ?_
    rw [hv]
    rintro e w1 ⟨rfl, hb⟩
    obtain ⟨hc, hf⟩ := bcell hb
    have hz := hb.size
    simp at hz
    have e0 := old_cell hb (b := w.heap.size) (o := 0) (v := .int .i64 0) (by go_simp)
    have e1 := old_cell hb (b := w.heap.size) (o := 1) (v := .int .i64 0) (by go_simp)
    have e2 := old_cell hb (b := w.heap.size) (o := 2) (v := .string ⟨#[]⟩) (by go_simp)
    go_wp2
    refine bodyPost_ret (v := tupV (intR x)) (by rw [HR.out]; simp [results, Try.results42, go_sem, e0, e1, e2, tupV, intV]) rfl ⟨rfl, ?_⟩
    exact bel_set (bel_set (bel_set (bel_trans (bel_alloc (bel_alloc (bel_refl _) _) _) hb) (by simp) _) (by simp) _) (by simp) _
  · have hv' : valOk ⟨1, x, ⟨#[]⟩⟩ = false := by simpa using hv
    have hr : intR x = (zeroV, false) := by unfold intR intV; rw [if_neg hv]
    have HR := Lib.hid hr; clear hr
    clear hv
    go_enter Try.func42, Try.ntmps42
    go_wp2_with fail
    refine (implValOk_any _ _ _ _ (by simp [ByteArray.size])).mono ?_
    rw [hv']
    rintro e w1 ⟨rfl, hb⟩
    obtain ⟨hc, hf⟩ := bcell hb
    have hz := hb.size
    simp at hz
    have e0 := old_cell hb (b := w.heap.size) (o := 0) (v := .int .i64 0) (by go_simp)
    have e1 := old_cell hb (b := w.heap.size) (o := 1) (v := .int .i64 0) (by go_simp)
    have e2 := old_cell hb (b := w.heap.size) (o := 2) (v := .string ⟨#[]⟩) (by go_simp)
    go_wp2
    refine bodyPost_ret (v := tupV (intR x)) (by rw [HR.out]; simp [results, Try.results42, go_sem, e0, e1, e2, tupV, zeroV]) rfl ⟨rfl, ?_⟩
    exact bel_set (bel_set (bel_set (bel_trans (bel_alloc (bel_alloc (bel_refl _) _) _) hb) (by simp) _) (by simp) _) (by simp) _
def areI (a b : Vl) : Bool := decide (a.k = 1) && (decide (b.k = 1) && (valOk a && valOk b))
theorem areInts_any (k n : Int) (s : ByteArray) (k2 n2 : Int) (s2 : ByteArray) (w : World) (hs : s.size ≤ 9223372036854775807) (hs2 : s2.size ≤ 9223372036854775807) :
    Calls Try.prog 41 #[.agg #[.int .i64 k, .int .i64 n, .string s], .agg #[.int .i64 k2, .int .i64 n2, .string s2]] w fun e w' =>
      e = .returned (.bool (areI ⟨k, n, s⟩ ⟨k2, n2, s2⟩)) ∧ Below w.heap.size w w' := by
  by_cases hk : k = 1
  · by_cases hk2 : k2 = 1
    · subst hk hk2
      cases hv : valOk ⟨1, n, s⟩
      · have HV := Lib.hid hv; clear hv
        go_enter Try.func41, Try.ntmps41
        go_wp2_with fail
        refine (implValOk_any _ _ _ _ hs).mono ?_
        rw [HV.out]
        rintro e w1 ⟨rfl, hb⟩
        go_wp2
        go_ret
        exact ⟨ret_bool (by simp [areI, HV.out]), bel_trans (bel_alloc (bel_alloc (bel_refl _) _) _) hb⟩
      · have HV := Lib.hid hv; clear hv
        go_enter Try.func41, Try.ntmps41
        go_wp2_with fail
        refine (implValOk_any _ _ _ _ hs).mono ?_
        rw [HV.out]
        rintro e w1 ⟨rfl, hb⟩
        obtain ⟨hc, hf⟩ := bcell hb
        go_wp2_with fail
        refine (implValOk_any _ _ _ _ hs2).mono ?_
        rintro e w2 ⟨rfl, hb2⟩
        go_wp2
        go_ret
        exact ⟨ret_bool (by simp [areI, HV.out]), bel_trans (bel_trans (bel_alloc (bel_alloc (bel_refl _) _) _) hb) hb2⟩
    · subst hk
      have hk2' : (k2 == 1) = false := by simp [hk2]
      go_enter Try.func41, Try.ntmps41
      go_wp2
      go_ret
      exact ⟨ret_bool (by simp [areI, hk2]), bel_alloc (bel_alloc (bel_refl _) _) _⟩
  · have hk' : (k == 1) = false := by simp [hk]
    go_enter Try.func41, Try.ntmps41
    go_wp2
    go_ret
    exact ⟨ret_bool (by simp [areI, hk]), bel_alloc (bel_alloc (bel_refl _) _) _⟩
theorem sumR_yes {a b : Vl} {x : Int} (h : areI a b = true) : sumR a b x = intR x := by
  unfold areI at h; unfold sumR
  rw [if_pos (by simpa using h)]
theorem sumR_no {a b : Vl} {x : Int} (h : areI a b = false) : sumR a b x = (zeroV, false) := by
  unfold areI at h; unfold sumR
  rw [if_neg (by intro h2; simp [h2.1, h2.2.1, h2.2.2.1, h2.2.2.2] at h)]
theorem areI_bounds {a b : Vl} (h : areI a b = true) : -1000000000 ≤ a.n ∧ a.n ≤ 1000000000 ∧ -1000000000 ≤ b.n ∧ b.n ≤ 1000000000 := by
  unfold areI at h
  simp only [Bool.and_eq_true, decide_eq_true_eq] at h
  obtain ⟨h1, h2, h3, h4⟩ := h
  unfold valOk at h3 h4
  rw [if_pos h1] at h3
  rw [if_pos h2] at h4
  simp [inB] at h3 h4
  omega
theorem implAddVals_any (k n : Int) (s : ByteArray) (k2 n2 : Int) (s2 : ByteArray) (w : World) (hs : s.size ≤ 9223372036854775807) (hs2 : s2.size ≤ 9223372036854775807) :
    Calls Try.prog 29 #[.agg #[.int .i64 k, .int .i64 n, .string s], .agg #[.int .i64 k2, .int .i64 n2, .string s2]] w fun e w' =>
      e = .returned (tupV (sumR ⟨k, n, s⟩ ⟨k2, n2, s2⟩ (n + n2))) ∧ Below w.heap.size w w' := by
  cases ha : areI ⟨k, n, s⟩ ⟨k2, n2, s2⟩
  · have HR := Lib.hid (sumR_no (x := n + n2) ha)
    have HA := Lib.hid ha; clear ha
    go_enter Try.func29, Try.ntmps29
    go_wp2_with fail
    refine (areInts_any _ _ _ _ _ _ _ hs hs2).mono ?_
    rw [HA.out]
    rintro e w1 ⟨rfl, hb⟩
    obtain ⟨hc, hf⟩ := bcell hb
    have e0 := old_cell hb (b := w.heap.size + 1 + 1) (o := 0) (v := .int .i64 0) (by go_simp)
    have e1 := old_cell hb (b := w.heap.size + 1 + 1) (o := 1) (v := .int .i64 0) (by go_simp)
    have e2 := old_cell hb (b := w.heap.size + 1 + 1) (o := 2) (v := .string ⟨#[]⟩) (by go_simp)
    go_wp2
    refine bodyPost_ret (v := tupV (zeroV, false)) (by simp [results, Try.results29, go_sem, e0, e1, e2, tupV, zeroV]) rfl ⟨by rw [HR.out], ?_⟩
    exact bel_set (bel_set (bel_set (bel_trans (bel_alloc (bel_alloc (bel_alloc (bel_refl _) _) _) _) hb) (by simp; omega) _) (by simp; omega) _) (by simp; omega) _
  · have hbd := areI_bounds ha
    simp only at hbd
    obtain ⟨q1, q2, q3, q4⟩ := hbd
    have HR := Lib.hid (sumR_yes (x := n + n2) ha)
    have HA := Lib.hid ha; clear ha
    obtain ⟨rv, ro, hi⟩ : ∃ rv ro, intR (n + n2) = (rv, ro) := ⟨_, _, rfl⟩
    have HI := Lib.hid hi; clear hi
    go_enter Try.func29, Try.ntmps29
    go_wp2_with fail
    refine (areInts_any _ _ _ _ _ _ _ hs hs2).mono ?_
    rw [HA.out]
    rintro e w1 ⟨rfl, hb⟩
    obtain ⟨hc, hf⟩ := bcell hb
    have e0 := old_cell hb (b := w.heap.size + 1 + 1) (o := 0) (v := .int .i64 0) (by go_simp)
    have e1 := old_cell hb (b := w.heap.size + 1 + 1) (o := 1) (v := .int .i64 0) (by go_simp)
    have e2 := old_cell hb (b := w.heap.size + 1 + 1) (o := 2) (v := .string ⟨#[]⟩) (by go_simp)
    have b0 := old_cell hb (b := w.heap.size) (o := 1) (v := .int .i64 n) (by go_simp)
    have b1 := old_cell hb (b := w.heap.size + 1) (o := 1) (v := .int .i64 n2) (by go_simp)
    have f0 := old_frozen hb (b := w.heap.size + 1 + 1) (o := 0) (by simp) (by go_simp)
    have f1 := old_frozen hb (b := w.heap.size + 1 + 1) (o := 1) (by simp) (by go_simp)
    have f2 := old_frozen hb (b := w.heap.size + 1 + 1) (o := 2) (by simp) (by go_simp)
    have hz := hb.size
    simp at hz
    go_wp2_with fail
    refine (intVal_any _ _).mono ?_
    rw [HI.out]
    dsimp only [tupV]
    rintro e w2 ⟨rfl, hb2⟩
    have c0 := old_cell hb2 e0
    have c1 := old_cell hb2 e1
    have c2 := old_cell hb2 e2
    have g0 := old_frozen hb2 (cell_lt e0) f0
    have g1 := old_frozen hb2 (cell_lt e1) f1
    have g2 := old_frozen hb2 (cell_lt e2) f2
    go_wp2
    refine bodyPost_ret (v := tupV (rv, ro)) (by simp [results, Try.results29, go_sem, c0, c1, c2, tupV]) rfl ⟨by rw [HR.out, HI.out], ?_⟩
    exact bel_set (bel_set (bel_set (bel_trans (bel_trans (bel_alloc (bel_alloc (bel_alloc (bel_refl _) _) _) _) hb) hb2) (by simp; omega) _) (by simp; omega) _) (by simp; omega) _
theorem implSubVals_any (k n : Int) (s : ByteArray) (k2 n2 : Int) (s2 : ByteArray) (w : World) (hs : s.size ≤ 9223372036854775807) (hs2 : s2.size ≤ 9223372036854775807) :
    Calls Try.prog 14 #[.agg #[.int .i64 k, .int .i64 n, .string s], .agg #[.int .i64 k2, .int .i64 n2, .string s2]] w fun e w' =>
      e = .returned (tupV (sumR ⟨k, n, s⟩ ⟨k2, n2, s2⟩ (n - n2))) ∧ Below w.heap.size w w' := by
  cases ha : areI ⟨k, n, s⟩ ⟨k2, n2, s2⟩
  · have HR := Lib.hid (sumR_no (x := n - n2) ha)
    have HA := Lib.hid ha; clear ha
    go_enter Try.func14, Try.ntmps14
    go_wp2_with fail
    refine (areInts_any _ _ _ _ _ _ _ hs hs2).mono ?_
    rw [HA.out]
    rintro e w1 ⟨rfl, hb⟩
    obtain ⟨hc, hf⟩ := bcell hb
    have e0 := old_cell hb (b := w.heap.size + 1 + 1) (o := 0) (v := .int .i64 0) (by go_simp)
    have e1 := old_cell hb (b := w.heap.size + 1 + 1) (o := 1) (v := .int .i64 0) (by go_simp)
    have e2 := old_cell hb (b := w.heap.size + 1 + 1) (o := 2) (v := .string ⟨#[]⟩) (by go_simp)
    go_wp2
    refine bodyPost_ret (v := tupV (zeroV, false)) (by simp [results, Try.results14, go_sem, e0, e1, e2, tupV, zeroV]) rfl ⟨by rw [HR.out], ?_⟩
    exact bel_set (bel_set (bel_set (bel_trans (bel_alloc (bel_alloc (bel_alloc (bel_refl _) _) _) _) hb) (by simp; omega) _) (by simp; omega) _) (by simp; omega) _
  · have hbd := areI_bounds ha
    simp only at hbd
    obtain ⟨q1, q2, q3, q4⟩ := hbd
    have HR := Lib.hid (sumR_yes (x := n - n2) ha)
    have HA := Lib.hid ha; clear ha
    obtain ⟨rv, ro, hi⟩ : ∃ rv ro, intR (n - n2) = (rv, ro) := ⟨_, _, rfl⟩
    have HI := Lib.hid hi; clear hi
    go_enter Try.func14, Try.ntmps14
    go_wp2_with fail
    refine (areInts_any _ _ _ _ _ _ _ hs hs2).mono ?_
    rw [HA.out]
    rintro e w1 ⟨rfl, hb⟩
    obtain ⟨hc, hf⟩ := bcell hb
    have e0 := old_cell hb (b := w.heap.size + 1 + 1) (o := 0) (v := .int .i64 0) (by go_simp)
    have e1 := old_cell hb (b := w.heap.size + 1 + 1) (o := 1) (v := .int .i64 0) (by go_simp)
    have e2 := old_cell hb (b := w.heap.size + 1 + 1) (o := 2) (v := .string ⟨#[]⟩) (by go_simp)
    have b0 := old_cell hb (b := w.heap.size) (o := 1) (v := .int .i64 n) (by go_simp)
    have b1 := old_cell hb (b := w.heap.size + 1) (o := 1) (v := .int .i64 n2) (by go_simp)
    have f0 := old_frozen hb (b := w.heap.size + 1 + 1) (o := 0) (by simp) (by go_simp)
    have f1 := old_frozen hb (b := w.heap.size + 1 + 1) (o := 1) (by simp) (by go_simp)
    have f2 := old_frozen hb (b := w.heap.size + 1 + 1) (o := 2) (by simp) (by go_simp)
    have hz := hb.size
    simp at hz
    go_wp2_with fail
    refine (intVal_any _ _).mono ?_
    rw [HI.out]
    dsimp only [tupV]
    rintro e w2 ⟨rfl, hb2⟩
    have c0 := old_cell hb2 e0
    have c1 := old_cell hb2 e1
    have c2 := old_cell hb2 e2
    have g0 := old_frozen hb2 (cell_lt e0) f0
    have g1 := old_frozen hb2 (cell_lt e1) f1
    have g2 := old_frozen hb2 (cell_lt e2) f2
    go_wp2
    refine bodyPost_ret (v := tupV (rv, ro)) (by simp [results, Try.results14, go_sem, c0, c1, c2, tupV]) rfl ⟨by rw [HR.out, HI.out], ?_⟩
    exact bel_set (bel_set (bel_set (bel_trans (bel_trans (bel_alloc (bel_alloc (bel_alloc (bel_refl _) _) _) _) hb) hb2) (by simp; omega) _) (by simp; omega) _) (by simp; omega) _
end Go.Proofs.Ytdcfkohgijahcaa
