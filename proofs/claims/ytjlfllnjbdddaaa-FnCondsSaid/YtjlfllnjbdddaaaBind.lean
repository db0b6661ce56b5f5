/- The laws' helpers on the struct Bind. Each answers what the plain function says and makes at most new blocks. No condition but lengths. -/
import Derived.Test.YtjlfllnjbdddaaaValS
import Derived.Test.YtjlfllnjbdddaaaVal2
import Derived.Test.YtjlfllnjbdddaaaStep
namespace Go.Proofs.Ytjlfllnjbdddaaa
open Go.RowKit
set_option maxRecDepth 100000
set_option maxHeartbeats 2000000

structure Bd where
  s : ByteArray
  v : Vl
deriving DecidableEq
def bC (a : Bd) : List Value := [.string a.s, .int .i64 a.v.k, .int .i64 a.v.n, .string a.v.s]
theorem bC_sz : Sz bC 4 := fun _ => rfl
def szB (a : Bd) : Nat := a.s.size + szOf a.v
def goodB (a : Bd) : Prop := a.s.size ≤ 9223372036854775807 ∧ a.v.s.size ≤ 9223372036854775807
def bC_0 : Bd := ⟨ByteArray.empty, ⟨0, 0, ByteArray.empty⟩⟩
theorem szBind_any (s : ByteArray) (vk : Int) (vn : Int) (vs : ByteArray) (left : Int) (w : World) (hs : s.size ≤ 9223372036854775807) (hvs : vs.size ≤ 9223372036854775807) (h0 : 0 ≤ left) (h1 : left ≤ 1048576) :
    Calls Try.prog 76 #[.agg #[.string s, .int .i64 vk, .int .i64 vn, .string vs], .int .i64 left] w fun e w' => e = .returned (.int .i64 (szR left (szB ⟨s, ⟨vk, vn, vs⟩⟩))) ∧ Below w.heap.size w w' := by
  by_cases b0 : left < ((s.size : Nat) : Int)
  · have HR := Lib.hid (szR_big (left := left) (t := szB ⟨s, ⟨vk, vn, vs⟩⟩) (by simp only [szB, szOf]; omega))
    go_enter Try.func76, Try.ntmps76
    go_wp2
    go_ret
    exact ⟨ret_int HR.out.symm, (by repeat (first | with_reducible exact bel_refl _ | with_reducible assumption | with_reducible refine bel_set ?_ (by first | (simp; done) | (simp; omega) | omega) _ | with_reducible refine bel_alloc ?_ _ | with_reducible refine bel_drew ?_ | with_reducible refine bel_drewN ?_ _ | with_reducible refine bel_trans ?_ (by assumption)))⟩
  by_cases b1 : left - (s.size : Nat) < (((vs.size) : Nat) : Int)
  · have HR := Lib.hid (szR_big (left := left) (t := szB ⟨s, ⟨vk, vn, vs⟩⟩) (by simp only [szB, szOf]; omega))
    have HV1 := Lib.hid (szR_big (left := left - (s.size : Nat)) (t := vs.size) (by first | exact b1 | omega))
    go_enter Try.func76, Try.ntmps76
    go_wp2_with (first | (go_at_call 65; (with_reducible refine (szVal_any vk vn vs _ _ hvs (by omega) (by omega)).mono ?_); rw [HV1.out]; rintro e w' ⟨rfl, hb1⟩; obtain ⟨hc1, hf1⟩ := bcell hb1))
    go_ret
    exact ⟨ret_int HR.out.symm, (by repeat (first | with_reducible exact bel_refl _ | with_reducible assumption | with_reducible refine bel_set ?_ (by first | (simp; done) | (simp; omega) | omega) _ | with_reducible refine bel_alloc ?_ _ | with_reducible refine bel_drew ?_ | with_reducible refine bel_drewN ?_ _ | with_reducible refine bel_trans ?_ (by assumption)))⟩
  have HR := Lib.hid (szR_fit (left := left) (t := szB ⟨s, ⟨vk, vn, vs⟩⟩) (by simp only [szB, szOf]; omega))
  have HV1 := Lib.hid (szR_fit (left := left - (s.size : Nat)) (t := vs.size) (by first | exact b1 | omega))
  go_enter Try.func76, Try.ntmps76
  go_wp2_with (first | (go_at_call 65; (with_reducible refine (szVal_any vk vn vs _ _ hvs (by omega) (by omega)).mono ?_); rw [HV1.out]; rintro e w' ⟨rfl, hb1⟩; obtain ⟨hc1, hf1⟩ := bcell hb1))
  go_ret
  exact ⟨ret_int (by rw [HR.out]; simp only [szB, szOf]; omega), (by repeat (first | with_reducible exact bel_refl _ | with_reducible assumption | with_reducible refine bel_set ?_ (by first | (simp; done) | (simp; omega) | omega) _ | with_reducible refine bel_alloc ?_ _ | with_reducible refine bel_drew ?_ | with_reducible refine bel_drewN ?_ _ | with_reducible refine bel_trans ?_ (by assumption)))⟩
theorem toBind_any (s : ByteArray) (vk : Int) (vn : Int) (vs : ByteArray) (w : World) :
    Calls Try.prog 77 #[.agg #[.string s, .int .i64 vk, .int .i64 vn, .string vs]] w fun e w' => e = .returned (.agg #[.string s, .int .i64 vk, .int .i64 vn, .string vs]) ∧ Below w.heap.size w w' := by
  go_enter Try.func77, Try.ntmps77
  go_wp2_with (first | (go_at_call 68; (with_reducible refine (toVal_any vk vn vs _).mono ?_); rintro e w0 ⟨rfl, hb0⟩; obtain ⟨hc0, hf0, hq0⟩ := bcell3 hb0; have hz0 := hb0.size; simp at hz0))
  have e0 := old_cell hb0 (b := w.heap.size + 1) (o := 0) (v := .string ⟨#[]⟩) (by go_simp)
  have e1 := old_cell hb0 (b := w.heap.size + 1) (o := 1) (v := .int .i64 0) (by go_simp)
  have e2 := old_cell hb0 (b := w.heap.size + 1) (o := 2) (v := .int .i64 0) (by go_simp)
  have e3 := old_cell hb0 (b := w.heap.size + 1) (o := 3) (v := .string ⟨#[]⟩) (by go_simp)
  refine bodyPost_ret (v := .agg #[.string s, .int .i64 vk, .int .i64 vn, .string vs]) (by simp [results, Try.results77, go_sem, e0, e1, e2, e3]) rfl ⟨rfl, (by repeat (first | with_reducible exact bel_refl _ | with_reducible assumption | with_reducible refine bel_set ?_ (by first | (simp; done) | (simp; omega) | omega) _ | with_reducible refine bel_alloc ?_ _ | with_reducible refine bel_drew ?_ | with_reducible refine bel_drewN ?_ _ | with_reducible refine bel_trans ?_ (by assumption)))⟩
theorem eqBind_any (s : ByteArray) (vk : Int) (vn : Int) (vs : ByteArray) (s2 : ByteArray) (vk2 : Int) (vn2 : Int) (vs2 : ByteArray) (w : World) :
    Calls Try.prog 78 #[.agg #[.string s, .int .i64 vk, .int .i64 vn, .string vs], .agg #[.string s2, .int .i64 vk2, .int .i64 vn2, .string vs2]] w fun e w' => e = .returned (.bool (decide ((⟨s, ⟨vk, vn, vs⟩⟩ : Bd) = ⟨s2, ⟨vk2, vn2, vs2⟩⟩))) ∧ Below w.heap.size w w' := by
  obtain ⟨r0, hr0⟩ : ∃ r, decide ((⟨vk, vn, vs⟩ : Vl) = ⟨vk2, vn2, vs2⟩) = r := ⟨_, rfl⟩
  have HR0 := Lib.hid hr0; clear hr0
  go_enter Try.func78, Try.ntmps78
  go_wp2_with (first | (go_at_call 28; (with_reducible refine (eqVal_any vk vn vs vk2 vn2 vs2 _).mono ?_); rw [HR0.out]; rintro e w0 ⟨rfl, hb0⟩; obtain ⟨hc0, hf0, hq0⟩ := bcell3 hb0))
  all_goals
    go_ret
    refine ⟨ret_bool ?_, (by repeat (first | with_reducible exact bel_refl _ | with_reducible assumption | with_reducible refine bel_set ?_ (by first | (simp; done) | (simp; omega) | omega) _ | with_reducible refine bel_alloc ?_ _ | with_reducible refine bel_drew ?_ | with_reducible refine bel_drewN ?_ _ | with_reducible refine bel_trans ?_ (by assumption)))⟩
    have hR0 := HR0.out
    simp_all [str_eq]
end Go.Proofs.Ytjlfllnjbdddaaa
