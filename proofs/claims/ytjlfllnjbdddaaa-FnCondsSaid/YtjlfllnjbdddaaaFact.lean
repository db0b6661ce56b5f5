/- Facts: the laws' helpers on them, and FactOk, SameFact, LessFact of the program and of the reference. Each answers what the plain function says and makes at most new blocks. No condition but lengths. -/
import Derived.Test.YtjlfllnjbdddaaaValS
import Derived.Test.YtjlfllnjbdddaaaLess
namespace Go.Proofs.Ytjlfllnjbdddaaa
open Go.RowKit
set_option maxRecDepth 100000
set_option maxHeartbeats 2000000

structure Ft where
  kd : ByteArray
  fs : List Vl
deriving DecidableEq
def factOk (f : Ft) : Bool := nameOk f.kd && (f.fs.all valOk && decide (f.fs.length ≤ 5))
def totF (f : Ft) : Nat := f.kd.size + totV f.fs
theorem szFact_any (kd : ByteArray) (A : Option Addr) (n c : Nat) (left : Int) (xs : List Vl) (w : World) (B : Nat) (hr : RdS vC 3 w B A n xs) (hn : n ≤ 9223372036854775807) (hk : kd.size ≤ 9223372036854775807) (hs : ∀ x ∈ xs, x.s.size ≤ 9223372036854775807) (h0 : 0 ≤ left) (h1 : left ≤ 1048576) :
    Calls Try.prog 36 #[.agg #[.string kd, .slice A n c], .int .i64 left] w fun e w' => e = .returned (.int .i64 (szR left (totF ⟨kd, xs⟩))) ∧ Below w.heap.size w w' := by
  have HS := Lib.hid hs; clear hs
  by_cases hbig : left < (kd.size : Int)
  · have HR := Lib.hid (szR_big (left := left) (t := totF ⟨kd, xs⟩) (by unfold totF; simp; omega))
    go_enter Try.func36, Try.ntmps36
    go_wp2
    go_ret
    exact ⟨ret_int HR.out.symm, (by repeat (first | with_reducible exact bel_refl _ | with_reducible assumption | with_reducible refine bel_set ?_ (by first | (simp; done) | (simp; omega) | omega) _ | with_reducible refine bel_alloc ?_ _ | with_reducible refine bel_drew ?_ | with_reducible refine bel_drewN ?_ _ | with_reducible refine bel_trans ?_ (by assumption)))⟩
  · have hr1 := hr.alloc (.cells #[.string kd, .slice A n c] 60)
    by_cases hfit : (totV xs : Int) ≤ left - kd.size
    · have HV := Lib.hid (szR_fit hfit)
      have HR := Lib.hid (szR_fit (left := left) (t := totF ⟨kd, xs⟩) (by unfold totF; simp; omega))
      go_enter Try.func36, Try.ntmps36
      go_wp2_with (go_at_call 83; refine (szValS_any A n c _ xs _ B hr1 hn HS.out (by omega) (by omega)).mono ?_; rw [HV.out]; rintro e w' ⟨rfl, hb1⟩)
      go_ret
      exact ⟨ret_int (by rw [HR.out]; unfold totF; simp; omega), (by repeat (first | with_reducible exact bel_refl _ | with_reducible assumption | with_reducible refine bel_set ?_ (by first | (simp; done) | (simp; omega) | omega) _ | with_reducible refine bel_alloc ?_ _ | with_reducible refine bel_drew ?_ | with_reducible refine bel_drewN ?_ _ | with_reducible refine bel_trans ?_ (by assumption)))⟩
    · have HV := Lib.hid (szR_big (left := left - kd.size) (t := totV xs) (by omega))
      have HR := Lib.hid (szR_big (left := left) (t := totF ⟨kd, xs⟩) (by unfold totF; simp; omega))
      go_enter Try.func36, Try.ntmps36
      go_wp2_with (go_at_call 83; refine (szValS_any A n c _ xs _ B hr1 hn HS.out (by omega) (by omega)).mono ?_; rw [HV.out]; rintro e w' ⟨rfl, hb1⟩)
      go_ret
      exact ⟨ret_int HR.out.symm, (by repeat (first | with_reducible exact bel_refl _ | with_reducible assumption | with_reducible refine bel_set ?_ (by first | (simp; done) | (simp; omega) | omega) _ | with_reducible refine bel_alloc ?_ _ | with_reducible refine bel_drew ?_ | with_reducible refine bel_drewN ?_ _ | with_reducible refine bel_trans ?_ (by assumption)))⟩
theorem toFact_any (kd : ByteArray) (A : Option Addr) (n c : Nat) (xs : List Vl) (w : World) (B : Nat) (hr : RdS vC 3 w B A n xs) (hn : n ≤ 1048576) :
    Calls Try.prog 38 #[.agg #[.string kd, .slice A n c]] w fun e w' => ∃ v', e = .returned (.agg #[.string kd, v']) ∧ OwnT vC 3 w' w.heap.size 28 v' xs ∧ Below w.heap.size w w' := by
  have hr1 := hr.alloc (.cells #[.string kd, .slice A n c] 60)
  go_enter Try.func38, Try.ntmps38
  go_wp2_with fail
  refine (toValS_any A n c xs _ B (by repeat (first | with_reducible assumption | with_reducible refine RdS.alloc ?_ _ | with_reducible refine RdS.drew ?_ | with_reducible refine RdS.drewN ?_ _ | with_reducible refine RdS.setCell ?_ (by first | (simp; done) | (simp; omega) | omega) _)) hn).mono ?_
  rintro e w' ⟨v', rfl, ho, hb, hs⟩
  obtain ⟨A', c', rfl, hc', _⟩ := ho.form
  obtain ⟨hc, hf, hq⟩ := bcell3 hb
  have hz := hb.size
  simp at hz
  go_wp2
  refine bodyPost_ret (v := .agg #[.string kd, .slice A' xs.length c']) (by simp [results, Try.results38, go_sem, hc]) rfl ⟨_, rfl, ?_, ?_⟩
  · exact (((ho.low (by simp) _).low (by simp) _).low (by simp) _).lower (by simp; omega)
  · exact (by repeat (first | with_reducible exact bel_refl _ | with_reducible assumption | with_reducible refine bel_set ?_ (by first | (simp; done) | (simp; omega) | omega) _ | with_reducible refine bel_alloc ?_ _ | with_reducible refine bel_drew ?_ | with_reducible refine bel_drewN ?_ _ | with_reducible refine bel_trans ?_ (by assumption)))
theorem eqFact_any (k1 k2 : ByteArray) (A1 A2 : Option Addr) (n1 c1 n2 c2 : Nat) (l1 l2 : List Vl) (w : World) (B B2 : Nat) (h1 : RdS vC 3 w B A1 n1 l1) (h2 : RdS vC 3 w B2 A2 n2 l2) (hn : n1 ≤ 4611686018427387904) :
    Calls Try.prog 40 #[.agg #[.string k1, .slice A1 n1 c1], .agg #[.string k2, .slice A2 n2 c2]] w fun e w' => e = .returned (.bool (decide (Ft.mk k1 l1 = Ft.mk k2 l2))) ∧ Below w.heap.size w w' := by
  obtain ⟨r, hr⟩ : ∃ r, decide (l1 = l2) = r := ⟨_, rfl⟩
  have HR := Lib.hid hr; clear hr
  go_enter Try.func40, Try.ntmps40
  go_wp2_with (go_at_call 86; refine (eqValS_any A1 A2 n1 c1 n2 c2 l1 l2 _ _ _ ((h1.alloc _).alloc _) ((h2.alloc _).alloc _) hn).mono ?_; rw [HR.out]; rintro e w' ⟨rfl, hb⟩)
  all_goals
    go_ret
    refine ⟨ret_bool ?_, (by repeat (first | with_reducible exact bel_refl _ | with_reducible assumption | with_reducible refine bel_set ?_ (by first | (simp; done) | (simp; omega) | omega) _ | with_reducible refine bel_alloc ?_ _ | with_reducible refine bel_drew ?_ | with_reducible refine bel_drewN ?_ _ | with_reducible refine bel_trans ?_ (by assumption)))⟩
    have hR := HR.out
    simp_all [str_eq]
end Go.Proofs.Ytjlfllnjbdddaaa
