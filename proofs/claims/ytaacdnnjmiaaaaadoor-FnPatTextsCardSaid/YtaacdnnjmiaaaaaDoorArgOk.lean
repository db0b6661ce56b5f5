/- ArgOk, CondOk, ExprOk of the program and of the reference. Each answers what the plain function says and makes at most new blocks. No condition but lengths. -/
import Derived.Test.YtaacdnnjmiaaaaaDoorArg
import Derived.Test.YtaacdnnjmiaaaaaDoorVar
namespace Go.Proofs.YtaacdnnjmiaaaaaDoor
open Go.RowKit
set_option maxRecDepth 100000
set_option maxHeartbeats 2000000

def zV : Vl := ⟨0, 0, ByteArray.empty⟩
def argOk (a : Ag) : Bool := if a.k = 1 then varOk a.s && decide (a.v = zV) else if a.k = 2 then decide (a.s.size = 0) && valOk a.v else if a.k = 3 then decide (a.s.size = 0) && decide (a.v = zV) else false
theorem toList_nil (s : ByteArray) : s.toList = [] ↔ s.size = 0 := by
  rw [ByteArray.toList_eq, ← size_data]
  exact List.length_eq_zero_iff.symm
theorem zV_iff (k n : Int) (s : ByteArray) : decide ((⟨k, n, s⟩ : Vl) = zV) = (decide (k = 0) && (decide (n = 0) && decide (s.size = 0))) := by
  have h : s = ByteArray.empty ↔ s.size = 0 := by
    constructor
    · rintro rfl; rfl
    · intro h
      have := (str_eq s ByteArray.empty)
      rw [(toList_nil s).2 h] at this
      simpa [ByteArray.toList_eq] using this
  unfold zV
  simp only [Vl.mk.injEq, h]
  by_cases h1 : k = 0 <;> by_cases h2 : n = 0 <;> by_cases h3 : s.size = 0 <;> simp [h1, h2, h3]
theorem implArgOk_any (k : Int) (s : ByteArray) (vk vn : Int) (vs : ByteArray) (w : World) (hs : s.size ≤ 9223372036854775807) (hvs : vs.size ≤ 9223372036854775807) :
    Calls Tryd.prog 12 #[.agg #[.int .i64 k, .string s, .int .i64 vk, .int .i64 vn, .string vs]] w fun e w' => e = .returned (.bool (argOk ⟨k, s, ⟨vk, vn, vs⟩⟩)) ∧ Below w.heap.size w w' := by
  go_enter Tryd.func12, Tryd.ntmps12
  go_wp2_with (first | (go_at_call 26; refine (isVar_any _ _ hs).mono ?_; rintro e w' ⟨rfl, rfl⟩) | (go_at_call 27; refine (implValOk_any _ _ _ _ hvs).mono ?_; rintro e w' ⟨rfl, hb⟩))
  all_goals
    go_ret
    refine ⟨ret_bool ?_, (by repeat (first | with_reducible exact bel_refl _ | with_reducible assumption | with_reducible refine bel_set ?_ (by first | (simp; done) | (simp; omega) | omega) _ | with_reducible refine bel_alloc ?_ _ | with_reducible refine bel_drew ?_ | with_reducible refine bel_drewN ?_ _ | with_reducible refine bel_trans ?_ (by assumption)))⟩
    simp_all [argOk, zV_iff, toList_nil]
theorem specArgOk_any (k : Int) (s : ByteArray) (vk vn : Int) (vs : ByteArray) (w : World) (hs : s.size ≤ 9223372036854775807) (hvs : vs.size ≤ 9223372036854775807) :
    Calls Tryd.prog 13 #[.agg #[.int .i64 k, .string s, .int .i64 vk, .int .i64 vn, .string vs]] w fun e w' => e = .returned (.bool (argOk ⟨k, s, ⟨vk, vn, vs⟩⟩)) ∧ Below w.heap.size w w' := by
  go_enter Tryd.func13, Tryd.ntmps13
  go_wp2_with (first | (go_at_call 28; refine (l5VarOk_any _ _ hs).mono ?_; rintro e w' ⟨rfl, rfl⟩) | (go_at_call 29; refine (specValOk_any _ _ _ _ hvs).mono ?_; rintro e w' ⟨rfl, hb⟩; obtain ⟨hc, hf⟩ := bcell hb))
  all_goals
    go_ret
    refine ⟨ret_bool ?_, (by repeat (first | with_reducible exact bel_refl _ | with_reducible assumption | with_reducible refine bel_set ?_ (by first | (simp; done) | (simp; omega) | omega) _ | with_reducible refine bel_alloc ?_ _ | with_reducible refine bel_drew ?_ | with_reducible refine bel_drewN ?_ _ | with_reducible refine bel_trans ?_ (by assumption)))⟩
    simp_all [argOk, zV_iff, isEmpty_iff, toList_nil]
end Go.Proofs.YtaacdnnjmiaaaaaDoor
