/- The laws' helpers on the struct Arg. Each answers what the plain function says and makes at most new blocks. No condition but lengths. -/
import Derived.Test.YtnncdibojclhnaaDoorValS
import Derived.Test.YtnncdibojclhnaaDoorVal2
import Derived.Test.YtnncdibojclhnaaDoorStep
namespace Go.Proofs.YtnncdibojclhnaaDoor
open Go.RowKit
set_option maxRecDepth 100000
set_option maxHeartbeats 2000000

structure Ag where
  k : Int
  s : ByteArray
  v : Vl
deriving DecidableEq
def aC (a : Ag) : List Value := [.int .i64 a.k, .string a.s, .int .i64 a.v.k, .int .i64 a.v.n, .string a.v.s]
theorem aC_sz : Sz aC 5 := fun _ => rfl
def szA (a : Ag) : Nat := a.s.size + szOf a.v
def goodA (a : Ag) : Prop := a.s.size ≤ 9223372036854775807 ∧ a.v.s.size ≤ 9223372036854775807
def aC_0 : Ag := ⟨0, ByteArray.empty, ⟨0, 0, ByteArray.empty⟩⟩
theorem szArg_any (k : Int) (s : ByteArray) (vk : Int) (vn : Int) (vs : ByteArray) (left : Int) (w : World) (hs : s.size ≤ 9223372036854775807) (hvs : vs.size ≤ 9223372036854775807) (h0 : 0 ≤ left) (h1 : left ≤ 1048576) :
    Calls Tryd.prog 43 #[.agg #[.int .i64 k, .string s, .int .i64 vk, .int .i64 vn, .string vs], .int .i64 left] w fun e w' => e = .returned (.int .i64 (szR left (szA ⟨k, s, ⟨vk, vn, vs⟩⟩))) ∧ Below w.heap.size w w' := by
  by_cases b0 : left < ((s.size : Nat) : Int)
  · have HR := Lib.hid (szR_big (left := left) (t := szA ⟨k, s, ⟨vk, vn, vs⟩⟩) (by simp only [szA, szOf]; omega))
    go_enter Tryd.func43, Tryd.ntmps43
    go_wp2
    go_ret
    exact ⟨ret_int HR.out.symm, (by repeat (first | with_reducible exact bel_refl _ | with_reducible assumption | with_reducible refine bel_set ?_ (by first | (simp; done) | (simp; omega) | omega) _ | with_reducible refine bel_alloc ?_ _ | with_reducible refine bel_drew ?_ | with_reducible refine bel_drewN ?_ _ | with_reducible refine bel_trans ?_ (by assumption)))⟩
  by_cases b1 : left - (s.size : Nat) < (((vs.size) : Nat) : Int)
  · have HR := Lib.hid (szR_big (left := left) (t := szA ⟨k, s, ⟨vk, vn, vs⟩⟩) (by simp only [szA, szOf]; omega))
    have HV1 := Lib.hid (szR_big (left := left - (s.size : Nat)) (t := vs.size) (by first | exact b1 | omega))
    go_enter Tryd.func43, Tryd.ntmps43
    go_wp2_with (first | (go_at_call 9; (with_reducible refine (szVal_any vk vn vs _ _ hvs (by omega) (by omega)).mono ?_); rw [HV1.out]; rintro e w' ⟨rfl, hb1⟩; obtain ⟨hc1, hf1⟩ := bcell hb1))
    go_ret
    exact ⟨ret_int HR.out.symm, (by repeat (first | with_reducible exact bel_refl _ | with_reducible assumption | with_reducible refine bel_set ?_ (by first | (simp; done) | (simp; omega) | omega) _ | with_reducible refine bel_alloc ?_ _ | with_reducible refine bel_drew ?_ | with_reducible refine bel_drewN ?_ _ | with_reducible refine bel_trans ?_ (by assumption)))⟩
  have HR := Lib.hid (szR_fit (left := left) (t := szA ⟨k, s, ⟨vk, vn, vs⟩⟩) (by simp only [szA, szOf]; omega))
  have HV1 := Lib.hid (szR_fit (left := left - (s.size : Nat)) (t := vs.size) (by first | exact b1 | omega))
  go_enter Tryd.func43, Tryd.ntmps43
  go_wp2_with (first | (go_at_call 9; (with_reducible refine (szVal_any vk vn vs _ _ hvs (by omega) (by omega)).mono ?_); rw [HV1.out]; rintro e w' ⟨rfl, hb1⟩; obtain ⟨hc1, hf1⟩ := bcell hb1))
  go_ret
  exact ⟨ret_int (by rw [HR.out]; simp only [szA, szOf]; omega), (by repeat (first | with_reducible exact bel_refl _ | with_reducible assumption | with_reducible refine bel_set ?_ (by first | (simp; done) | (simp; omega) | omega) _ | with_reducible refine bel_alloc ?_ _ | with_reducible refine bel_drew ?_ | with_reducible refine bel_drewN ?_ _ | with_reducible refine bel_trans ?_ (by assumption)))⟩
theorem toArg_any (k : Int) (s : ByteArray) (vk : Int) (vn : Int) (vs : ByteArray) (w : World) :
    Calls Tryd.prog 46 #[.agg #[.int .i64 k, .string s, .int .i64 vk, .int .i64 vn, .string vs]] w fun e w' => e = .returned (.agg #[.int .i64 k, .string s, .int .i64 vk, .int .i64 vn, .string vs]) ∧ Below w.heap.size w w' := by
  go_enter Tryd.func46, Tryd.ntmps46
  go_wp2_with (first | (go_at_call 11; (with_reducible refine (toVal_any vk vn vs _).mono ?_); rintro e w0 ⟨rfl, hb0⟩; obtain ⟨hc0, hf0, hq0⟩ := bcell3 hb0; have hz0 := hb0.size; simp at hz0))
  have e0 := old_cell hb0 (b := w.heap.size + 1) (o := 0) (v := .int .i64 0) (by go_simp)
  have e1 := old_cell hb0 (b := w.heap.size + 1) (o := 1) (v := .string ⟨#[]⟩) (by go_simp)
  have e2 := old_cell hb0 (b := w.heap.size + 1) (o := 2) (v := .int .i64 0) (by go_simp)
  have e3 := old_cell hb0 (b := w.heap.size + 1) (o := 3) (v := .int .i64 0) (by go_simp)
  have e4 := old_cell hb0 (b := w.heap.size + 1) (o := 4) (v := .string ⟨#[]⟩) (by go_simp)
  refine bodyPost_ret (v := .agg #[.int .i64 k, .string s, .int .i64 vk, .int .i64 vn, .string vs]) (by simp [results, Tryd.results46, go_sem, e0, e1, e2, e3, e4]) rfl ⟨rfl, (by repeat (first | with_reducible exact bel_refl _ | with_reducible assumption | with_reducible refine bel_set ?_ (by first | (simp; done) | (simp; omega) | omega) _ | with_reducible refine bel_alloc ?_ _ | with_reducible refine bel_drew ?_ | with_reducible refine bel_drewN ?_ _ | with_reducible refine bel_trans ?_ (by assumption)))⟩
theorem eqArg_any (k : Int) (s : ByteArray) (vk : Int) (vn : Int) (vs : ByteArray) (k2 : Int) (s2 : ByteArray) (vk2 : Int) (vn2 : Int) (vs2 : ByteArray) (w : World) :
    Calls Tryd.prog 79 #[.agg #[.int .i64 k, .string s, .int .i64 vk, .int .i64 vn, .string vs], .agg #[.int .i64 k2, .string s2, .int .i64 vk2, .int .i64 vn2, .string vs2]] w fun e w' => e = .returned (.bool (decide ((⟨k, s, ⟨vk, vn, vs⟩⟩ : Ag) = ⟨k2, s2, ⟨vk2, vn2, vs2⟩⟩))) ∧ Below w.heap.size w w' := by
  obtain ⟨r0, hr0⟩ : ∃ r, decide ((⟨vk, vn, vs⟩ : Vl) = ⟨vk2, vn2, vs2⟩) = r := ⟨_, rfl⟩
  have HR0 := Lib.hid hr0; clear hr0
  go_enter Tryd.func79, Tryd.ntmps79
  go_wp2_with (first | (go_at_call 81; (with_reducible refine (eqVal_any vk vn vs vk2 vn2 vs2 _).mono ?_); rw [HR0.out]; rintro e w0 ⟨rfl, hb0⟩; obtain ⟨hc0, hf0, hq0⟩ := bcell3 hb0))
  all_goals
    go_ret
    refine ⟨ret_bool ?_, (by repeat (first | with_reducible exact bel_refl _ | with_reducible assumption | with_reducible refine bel_set ?_ (by first | (simp; done) | (simp; omega) | omega) _ | with_reducible refine bel_alloc ?_ _ | with_reducible refine bel_drew ?_ | with_reducible refine bel_drewN ?_ _ | with_reducible refine bel_trans ?_ (by assumption)))⟩
    have hR0 := HR0.out
    simp_all [str_eq]
end Go.Proofs.YtnncdibojclhnaaDoor
