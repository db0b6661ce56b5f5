/- Texts of arguments, of the program and of the reference. Each answers what the plain function says and makes at most new blocks. Conditions: lengths; an argument that is a value is right; the library's table of powers of ten is as its text lays it. -/
import Derived.Test.YtaacdnnjmiaaaaaDoorValText
import Derived.Test.YtaacdnnjmiaaaaaDoorArgOk
namespace Go.Proofs.YtaacdnnjmiaaaaaDoor
open Go.RowKit
set_option maxRecDepth 100000
set_option maxHeartbeats 4000000
def argText (a : Ag) : ByteArray := if a.k = 1 then a.s else if a.k = 2 then rawText a.v else ⟨#[95]⟩
theorem argOk_val {k : Int} {s : ByteArray} {v : Vl} (h : argOk ⟨k, s, v⟩ = true) (hk : k = 2) : valOk v = true := by
  subst hk
  simp [argOk] at h
  exact h.2
theorem specArgText_any (k : Int) (s : ByteArray) (vk vn : Int) (vs : ByteArray) (w : World) (hvs : vs.size ≤ 9223372036854775807) (hok : k = 2 → valOk ⟨vk, vn, vs⟩ = true) :
    Calls Tryd.prog 30 #[.agg #[.int .i64 k, .string s, .int .i64 vk, .int .i64 vn, .string vs]] w fun e w' => e = .returned (.string (argText ⟨k, s, ⟨vk, vn, vs⟩⟩)) ∧ Below w.heap.size w w' := by
  by_cases h1 : k = 1
  · subst h1
    clear hok
    go_enter Tryd.func30, Tryd.ntmps30
    go_wp2
    go_ret
    exact ⟨ret_str (by simp [argText]), (by repeat (first | with_reducible exact bel_refl _ | with_reducible assumption | with_reducible refine bel_set ?_ (by first | (simp; done) | (simp; omega) | omega) _ | with_reducible refine bel_alloc ?_ _ | with_reducible refine bel_drew ?_ | with_reducible refine bel_drewN ?_ _ | with_reducible refine bel_trans ?_ (by assumption)))⟩
  have h1' : (k == 1) = false := by simpa using h1
  by_cases h2 : k = 2
  · have hv := hok h2
    have hn := valOk_num hv
    have hz : vs.size ≤ 4611686018427387904 := by have := valOk_len hv; omega
    have HN := Lib.hid hn
    have HV := Lib.hid hv; clear hv hn hok
    subst h2
    go_enter Tryd.func30, Tryd.ntmps30
    go_wp2_with fail
    refine (l2Text_any vk vn vs _ hz HN.out).mono ?_
    rintro e w1 ⟨rfl, hb⟩
    go_wp2
    go_ret
    exact ⟨ret_str (by simp [argText]), (by repeat (first | with_reducible exact bel_refl _ | with_reducible assumption | with_reducible refine bel_set ?_ (by first | (simp; done) | (simp; omega) | omega) _ | with_reducible refine bel_alloc ?_ _ | with_reducible refine bel_drew ?_ | with_reducible refine bel_drewN ?_ _ | with_reducible refine bel_trans ?_ (by assumption)))⟩
  have h2' : (k == 2) = false := by simpa using h2
  clear hok
  go_enter Tryd.func30, Tryd.ntmps30
  go_wp2
  go_ret
  exact ⟨ret_str (by simp [argText, h1, h2]), (by repeat (first | with_reducible exact bel_refl _ | with_reducible assumption | with_reducible refine bel_set ?_ (by first | (simp; done) | (simp; omega) | omega) _ | with_reducible refine bel_alloc ?_ _ | with_reducible refine bel_drew ?_ | with_reducible refine bel_drewN ?_ _ | with_reducible refine bel_trans ?_ (by assumption)))⟩
theorem implArgText_any (k : Int) (s : ByteArray) (vk vn : Int) (vs : ByteArray) (w : World) (ht : TabT w) (hvs : vs.size ≤ 9223372036854775807) (hok : k = 2 → valOk ⟨vk, vn, vs⟩ = true) :
    Calls Tryd.prog 24 #[.agg #[.int .i64 k, .string s, .int .i64 vk, .int .i64 vn, .string vs]] w fun e w' => e = .returned (.string (argText ⟨k, s, ⟨vk, vn, vs⟩⟩)) ∧ Below w.heap.size w w' := by
  have HT := Lib.hid ht; clear ht
  by_cases h1 : k = 1
  · subst h1
    clear hok
    go_enter Tryd.func24, Tryd.ntmps24
    go_wp2
    go_ret
    exact ⟨ret_str (by simp [argText]), (by repeat (first | with_reducible exact bel_refl _ | with_reducible assumption | with_reducible refine bel_set ?_ (by first | (simp; done) | (simp; omega) | omega) _ | with_reducible refine bel_alloc ?_ _ | with_reducible refine bel_drew ?_ | with_reducible refine bel_drewN ?_ _ | with_reducible refine bel_trans ?_ (by assumption)))⟩
  have h1' : (k == 1) = false := by simpa using h1
  by_cases h2 : k = 2
  · have hv := hok h2
    have hn := valOk_num hv
    have HN := Lib.hid hn
    have HV := Lib.hid hv; clear hv hn hok
    subst h2
    go_enter Tryd.func24, Tryd.ntmps24
    go_wp2_with fail
    refine (implValText_any vk vn vs _ (HT.out.kept (by repeat (first | with_reducible exact bel_refl _ | with_reducible assumption | with_reducible refine bel_set ?_ (by first | (simp; done) | (simp; omega) | omega) _ | with_reducible refine bel_alloc ?_ _ | with_reducible refine bel_drew ?_ | with_reducible refine bel_drewN ?_ _ | with_reducible refine bel_trans ?_ (by assumption)))) (by omega)).mono ?_
    rintro e w1 ⟨rfl, hb⟩
    go_wp2
    go_ret
    exact ⟨ret_str (by simp [argText, valText, HV.out]), (by repeat (first | with_reducible exact bel_refl _ | with_reducible assumption | with_reducible refine bel_set ?_ (by first | (simp; done) | (simp; omega) | omega) _ | with_reducible refine bel_alloc ?_ _ | with_reducible refine bel_drew ?_ | with_reducible refine bel_drewN ?_ _ | with_reducible refine bel_trans ?_ (by assumption)))⟩
  have h2' : (k == 2) = false := by simpa using h2
  clear hok
  go_enter Tryd.func24, Tryd.ntmps24
  go_wp2
  go_ret
  exact ⟨ret_str (by simp [argText, h1, h2]), (by repeat (first | with_reducible exact bel_refl _ | with_reducible assumption | with_reducible refine bel_set ?_ (by first | (simp; done) | (simp; omega) | omega) _ | with_reducible refine bel_alloc ?_ _ | with_reducible refine bel_drew ?_ | with_reducible refine bel_drewN ?_ _ | with_reducible refine bel_trans ?_ (by assumption)))⟩
end Go.Proofs.YtaacdnnjmiaaaaaDoor
