/- Facts: the laws' helpers on them, and FactOk, SameFact, LessFact of the program and of the reference. Each answers what the plain function says and makes at most new blocks. No condition but lengths. -/
import Derived.Test.YtndhjijcicebkaaValS
import Derived.Test.YtndhjijcicebkaaLess
namespace Go.Proofs.Ytndhjijcicebkaa
open Go.RowKit
set_option maxRecDepth 100000
set_option maxHeartbeats 2000000

structure Ft where
  kd : ByteArray
  fs : List Vl
deriving DecidableEq
def factOk (f : Ft) : Bool := nameOk f.kd && (f.fs.all valOk && decide (f.fs.length ≤ 5))
def totF (f : Ft) : Nat := f.kd.size + totV f.fs
theorem szFact_any (kd : ByteArray) (A : Option Addr) (n c : Nat) (left : Int) (xs : List Vl) (w : World) (B : Nat) (hr : RdS vC 3 w B A n xs) (hn : n ≤ 9223372036854775807) (hk : kd.size ≤ 9223372036854775807) (hs : ∀ x ∈ xs, x.s.size ≤ 9223372036854775807) (h0 : 0 ≤ left) (h1 : left ≤ 1048576) :
    Calls Try.prog 9 #[.agg #[.string kd, .slice A n c], .int .i64 left] w fun e w' => e = .returned (.int .i64 (szR left (totF ⟨kd, xs⟩))) ∧ Below w.heap.size w w' := by
  have HS := Lib.hid hs; clear hs
  by_cases hbig : left < (kd.size : Int)
  · have HR := Lib.hid (szR_big (left := left) (t := totF ⟨kd, xs⟩) (by unfold totF; simp; omega))
    go_enter Try.func9, Try.ntmps9
    go_wp2
    go_ret
    exact ⟨ret_int HR.out.symm, (by repeat (first | with_reducible exact bel_refl _ | with_reducible assumption | with_reducible refine bel_set ?_ (by first | (simp; done) | (simp; omega) | omega) _ | with_reducible refine bel_alloc ?_ _ | with_reducible refine bel_drew ?_ | with_reducible refine bel_drewN ?_ _ | with_reducible refine bel_trans ?_ (by assumption)))⟩
  · have hr1 := hr.alloc (.cells #[.string kd, .slice A n c] 27)
    by_cases hfit : (totV xs : Int) ≤ left - kd.size
    · have HV := Lib.hid (szR_fit hfit)
      have HR := Lib.hid (szR_fit (left := left) (t := totF ⟨kd, xs⟩) (by unfold totF; simp; omega))
      go_enter Try.func9, Try.ntmps9
      go_wp2_with (go_at_call 34; refine (szValS_any A n c _ xs _ B hr1 hn HS.out (by omega) (by omega)).mono ?_; rw [HV.out]; rintro e w' ⟨rfl, hb1⟩)
      go_ret
      exact ⟨ret_int (by rw [HR.out]; unfold totF; simp; omega), (by repeat (first | with_reducible exact bel_refl _ | with_reducible assumption | with_reducible refine bel_set ?_ (by first | (simp; done) | (simp; omega) | omega) _ | with_reducible refine bel_alloc ?_ _ | with_reducible refine bel_drew ?_ | with_reducible refine bel_drewN ?_ _ | with_reducible refine bel_trans ?_ (by assumption)))⟩
    · have HV := Lib.hid (szR_big (left := left - kd.size) (t := totV xs) (by omega))
      have HR := Lib.hid (szR_big (left := left) (t := totF ⟨kd, xs⟩) (by unfold totF; simp; omega))
      go_enter Try.func9, Try.ntmps9
      go_wp2_with (go_at_call 34; refine (szValS_any A n c _ xs _ B hr1 hn HS.out (by omega) (by omega)).mono ?_; rw [HV.out]; rintro e w' ⟨rfl, hb1⟩)
      go_ret
      exact ⟨ret_int HR.out.symm, (by repeat (first | with_reducible exact bel_refl _ | with_reducible assumption | with_reducible refine bel_set ?_ (by first | (simp; done) | (simp; omega) | omega) _ | with_reducible refine bel_alloc ?_ _ | with_reducible refine bel_drew ?_ | with_reducible refine bel_drewN ?_ _ | with_reducible refine bel_trans ?_ (by assumption)))⟩
theorem toFact_any (kd : ByteArray) (A : Option Addr) (n c : Nat) (xs : List Vl) (w : World) (B : Nat) (hr : RdS vC 3 w B A n xs) (hn : n ≤ 1048576) :
    Calls Try.prog 12 #[.agg #[.string kd, .slice A n c]] w fun e w' => ∃ v', e = .returned (.agg #[.string kd, v']) ∧ OwnT vC 3 w' w.heap.size 90 v' xs ∧ Below w.heap.size w w' := by
  have hr1 := hr.alloc (.cells #[.string kd, .slice A n c] 27)
  go_enter Try.func12, Try.ntmps12
  go_wp2_with fail
  refine (toValS_any A n c xs _ B (by repeat (first | with_reducible assumption | with_reducible refine RdS.alloc ?_ _ | with_reducible refine RdS.drew ?_ | with_reducible refine RdS.drewN ?_ _ | with_reducible refine RdS.setCell ?_ (by first | (simp; done) | (simp; omega) | omega) _)) hn).mono ?_
  rintro e w' ⟨v', rfl, ho, hb, hs⟩
  obtain ⟨A', c', rfl, hc', _⟩ := ho.form
  obtain ⟨hc, hf, hq⟩ := bcell3 hb
  have hz := hb.size
  simp at hz
  go_wp2
  refine bodyPost_ret (v := .agg #[.string kd, .slice A' xs.length c']) (by simp [results, Try.results12, go_sem, hc]) rfl ⟨_, rfl, ?_, ?_⟩
  · exact (((ho.low (by simp) _).low (by simp) _).low (by simp) _).lower (by simp; omega)
  · exact (by repeat (first | with_reducible exact bel_refl _ | with_reducible assumption | with_reducible refine bel_set ?_ (by first | (simp; done) | (simp; omega) | omega) _ | with_reducible refine bel_alloc ?_ _ | with_reducible refine bel_drew ?_ | with_reducible refine bel_drewN ?_ _ | with_reducible refine bel_trans ?_ (by assumption)))
theorem eqFact_any (k1 k2 : ByteArray) (A1 A2 : Option Addr) (n1 c1 n2 c2 : Nat) (l1 l2 : List Vl) (w : World) (B B2 : Nat) (h1 : RdS vC 3 w B A1 n1 l1) (h2 : RdS vC 3 w B2 A2 n2 l2) (hn : n1 ≤ 4611686018427387904) :
    Calls Try.prog 15 #[.agg #[.string k1, .slice A1 n1 c1], .agg #[.string k2, .slice A2 n2 c2]] w fun e w' => e = .returned (.bool (decide (Ft.mk k1 l1 = Ft.mk k2 l2))) ∧ Below w.heap.size w w' := by
  obtain ⟨r, hr⟩ : ∃ r, decide (l1 = l2) = r := ⟨_, rfl⟩
  have HR := Lib.hid hr; clear hr
  go_enter Try.func15, Try.ntmps15
  go_wp2_with (go_at_call 44; refine (eqValS_any A1 A2 n1 c1 n2 c2 l1 l2 _ _ _ ((h1.alloc _).alloc _) ((h2.alloc _).alloc _) hn).mono ?_; rw [HR.out]; rintro e w' ⟨rfl, hb⟩)
  all_goals
    go_ret
    refine ⟨ret_bool ?_, (by repeat (first | with_reducible exact bel_refl _ | with_reducible assumption | with_reducible refine bel_set ?_ (by first | (simp; done) | (simp; omega) | omega) _ | with_reducible refine bel_alloc ?_ _ | with_reducible refine bel_drew ?_ | with_reducible refine bel_drewN ?_ _ | with_reducible refine bel_trans ?_ (by assumption)))⟩
    have hR := HR.out
    simp_all [str_eq]
theorem l3Vals_any (A : Option Addr) (n c : Nat) (xs : List Vl) (w : World) (B : Nat) (hr : RdS vC 3 w B A n xs) (hn : n ≤ 4611686018427387904) (hs : ∀ x ∈ xs, x.s.size ≤ 9223372036854775807) :
    Calls Try.prog 64 #[.slice A n c] w fun e w' => e = .returned (.bool (xs.all valOk && decide (xs.length ≤ 5))) ∧ Below w.heap.size w w' := by
  have HL := Lib.hid hr.len
  have HS := Lib.hid hs; clear hs
  go_enter Try.func64, Try.ntmps64
  go_wp2
  go_loopw [3] (fun i wr => ∃ k : Nat, k ≤ n ∧ i = .int .i64 k ∧ (xs.take k).all valOk = true ∧ Below w.heap.size w wr) (fun i _ => n - (intOf i).toNat)
  case atStart => exact ⟨0, Nat.zero_le _, rfl, rfl, bel_refl _⟩
  case round =>
    obtain ⟨k, hk, rfl, ha, hbel⟩ := hrel
    have HA := Lib.hid ha; clear ha
    by_cases hlt : k < n
    · obtain ⟨b, o, rfl, hb, hc⟩ := (hr.kept hbel).2.val (by omega)
      obtain ⟨x, y, s, he, c0, c1, c2⟩ := hc k hlt
      clear hc
      have hkl : k < xs.length := by rw [HL.out]; exact hlt
      have hss : s.size ≤ 9223372036854775807 := by
        have := HS.out (xs[k]'hkl) (List.getElem_mem _)
        rw [he] at this; exact this
      have HE := Lib.hid he; clear he
      obtain ⟨r, hv⟩ : ∃ r, valOk ⟨x, y, s⟩ = r := ⟨_, rfl⟩
      have HV := Lib.hid hv; clear hv
      cases r
      all_goals
        go_wp2_with (go_at_call 83; refine (specValOk_any _ _ _ _ hss).mono ?_; rw [HV.out]; rintro e w' ⟨rfl, hb1⟩)
      · go_ret
        refine ⟨ret_bool ?_, (by repeat (first | with_reducible exact bel_refl _ | with_reducible assumption | with_reducible refine bel_set ?_ (by first | (simp; done) | (simp; omega) | omega) _ | with_reducible refine bel_alloc ?_ _ | with_reducible refine bel_drew ?_ | with_reducible refine bel_drewN ?_ _ | with_reducible refine bel_trans ?_ (by assumption)))⟩
        rw [eq_comm, Bool.and_eq_false_iff]
        left
        rw [List.all_eq_false]
        exact ⟨xs[k]'hkl, List.getElem_mem _, by rw [HE.out, HV.out]; simp⟩
      · go_roundw
        case rel => exact ⟨k + 1, by omega, by go_num, by rw [List.take_succ_eq_append_getElem hkl, List.all_append, HA.out]; simp [HE.out, HV.out], bel_trans hbel hb1⟩
        case measure => simp [intOf]; omega
    · have hall : xs.all valOk = true := by rw [← HA.out, List.take_of_length_le (by rw [HL.out]; omega)]
      have HX := Lib.hid hall; clear hall
      go_wp2
      go_ret
      refine ⟨ret_bool ?_, hbel⟩
      rw [HX.out, HL.out]
      simp
      try omega
theorem specFactOk_any (kd : ByteArray) (A : Option Addr) (n c : Nat) (xs : List Vl) (w : World) (B : Nat) (hr : RdS vC 3 w B A n xs) (hn : n ≤ 4611686018427387904) (hk : kd.size ≤ 9223372036854775807) (hs : ∀ x ∈ xs, x.s.size ≤ 9223372036854775807) :
    Calls Try.prog 36 #[.agg #[.string kd, .slice A n c]] w fun e w' => e = .returned (.bool (factOk ⟨kd, xs⟩)) ∧ Below w.heap.size w w' := by
  have HS := Lib.hid hs; clear hs
  obtain ⟨r1, hr1⟩ : ∃ r, nameOk kd = r := ⟨_, rfl⟩
  obtain ⟨r2, hr2⟩ : ∃ r, (xs.all valOk && decide (xs.length ≤ 5)) = r := ⟨_, rfl⟩
  have HR1 := Lib.hid hr1; clear hr1
  have HR2 := Lib.hid hr2; clear hr2
  go_enter Try.func36, Try.ntmps36
  go_wp2_with (first | (go_at_call 63; refine (specNameOk_any _ _ hk).mono ?_; rw [HR1.out]; rintro e w' ⟨rfl, rfl⟩) | (go_at_call 64; refine (l3Vals_any A n c xs _ _ (hr.alloc _) hn HS.out).mono ?_; rw [HR2.out]; rintro e w' ⟨rfl, hb⟩))
  all_goals
    go_ret
    refine ⟨ret_bool ?_, (by repeat (first | with_reducible exact bel_refl _ | with_reducible assumption | with_reducible refine bel_set ?_ (by first | (simp; done) | (simp; omega) | omega) _ | with_reducible refine bel_alloc ?_ _ | with_reducible refine bel_drew ?_ | with_reducible refine bel_drewN ?_ _ | with_reducible refine bel_trans ?_ (by assumption)))⟩
    unfold factOk
    rw [HR1.out, HR2.out]
    simp_all
theorem implFactOk_any (kd : ByteArray) (A : Option Addr) (n c : Nat) (xs : List Vl) (w : World) (B : Nat) (hr : RdS vC 3 w B A n xs) (hn : n ≤ 4611686018427387904) (hk : kd.size ≤ 9223372036854775807) (hs : ∀ x ∈ xs, x.s.size ≤ 9223372036854775807) :
    Calls Try.prog 41 #[.agg #[.string kd, .slice A n c]] w fun e w' => e = .returned (.bool (factOk ⟨kd, xs⟩)) ∧ Below w.heap.size w w' := by
  have HL := Lib.hid hr.len
  have HS := Lib.hid hs; clear hs
  cases hr1 : nameOk kd
  · have HT := Lib.hid (show factOk ⟨kd, xs⟩ = false by unfold factOk; rw [hr1]; rfl)
    have HR1 := Lib.hid hr1; clear hr1
    go_enter Try.func41, Try.ntmps41
    go_wp2_with (go_at_call 67; refine (implNameOk_any _ _ hk).mono ?_; rw [HR1.out]; rintro e w' ⟨rfl, rfl⟩)
    go_ret
    exact ⟨ret_bool HT.out.symm, (by repeat (first | with_reducible exact bel_refl _ | with_reducible assumption | with_reducible refine bel_set ?_ (by first | (simp; done) | (simp; omega) | omega) _ | with_reducible refine bel_alloc ?_ _ | with_reducible refine bel_drew ?_ | with_reducible refine bel_drewN ?_ _ | with_reducible refine bel_trans ?_ (by assumption)))⟩
  · by_cases h5 : (5 : Int) < (n : Int)
    · have HT := Lib.hid (show factOk ⟨kd, xs⟩ = false by unfold factOk; rw [decide_eq_false (by simp only; rw [HL.out]; omega)]; simp)
      have HR1 := Lib.hid hr1; clear hr1
      go_enter Try.func41, Try.ntmps41
      go_wp2_with (go_at_call 67; refine (implNameOk_any _ _ hk).mono ?_; rw [HR1.out]; rintro e w' ⟨rfl, rfl⟩)
      go_ret
      exact ⟨ret_bool HT.out.symm, (by repeat (first | with_reducible exact bel_refl _ | with_reducible assumption | with_reducible refine bel_set ?_ (by first | (simp; done) | (simp; omega) | omega) _ | with_reducible refine bel_alloc ?_ _ | with_reducible refine bel_drew ?_ | with_reducible refine bel_drewN ?_ _ | with_reducible refine bel_trans ?_ (by assumption)))⟩
    · have HT := Lib.hid (show factOk ⟨kd, xs⟩ = xs.all valOk by unfold factOk; rw [hr1, decide_eq_true (by simp only; rw [HL.out]; omega)]; simp)
      have HR1 := Lib.hid hr1; clear hr1
      go_enter Try.func41, Try.ntmps41
      go_wp2_with (go_at_call 67; refine (implNameOk_any _ _ hk).mono ?_; rw [HR1.out]; rintro e w' ⟨rfl, rfl⟩)
      go_loopw [18] (fun i wr => ∃ k : Nat, k ≤ n ∧ i = .int .i64 k ∧ (xs.take k).all valOk = true ∧ Below w.heap.size w wr) (fun i _ => n - (intOf i).toNat)
      case atStart => exact ⟨0, Nat.zero_le _, rfl, rfl, (by repeat (first | with_reducible exact bel_refl _ | with_reducible assumption | with_reducible refine bel_set ?_ (by first | (simp; done) | (simp; omega) | omega) _ | with_reducible refine bel_alloc ?_ _ | with_reducible refine bel_drew ?_ | with_reducible refine bel_drewN ?_ _ | with_reducible refine bel_trans ?_ (by assumption)))⟩
      case round =>
        obtain ⟨k, hk, rfl, ha, hbel⟩ := hrel
        have HA := Lib.hid ha; clear ha
        by_cases hlt : k < n
        · obtain ⟨b, o, rfl, hb, hc⟩ := (hr.kept hbel).2.val (by omega)
          obtain ⟨x, y, s, he, c0, c1, c2⟩ := hc k hlt
          clear hc
          have hkl : k < xs.length := by rw [HL.out]; exact hlt
          have hss : s.size ≤ 9223372036854775807 := by
            have := HS.out (xs[k]'hkl) (List.getElem_mem _)
            rw [he] at this; exact this
          have HE := Lib.hid he; clear he
          obtain ⟨r, hv⟩ : ∃ r, valOk ⟨x, y, s⟩ = r := ⟨_, rfl⟩
          have HV := Lib.hid hv; clear hv
          cases r
          all_goals
            go_wp2_with (go_at_call 68; refine (implValOk_any _ _ _ _ hss).mono ?_; rw [HV.out]; rintro e w' ⟨rfl, hb1⟩)
          · go_ret
            refine ⟨ret_bool ?_, (by repeat (first | with_reducible exact bel_refl _ | with_reducible assumption | with_reducible refine bel_set ?_ (by first | (simp; done) | (simp; omega) | omega) _ | with_reducible refine bel_alloc ?_ _ | with_reducible refine bel_drew ?_ | with_reducible refine bel_drewN ?_ _ | with_reducible refine bel_trans ?_ (by assumption)))⟩
            rw [HT.out, eq_comm, List.all_eq_false]
            exact ⟨xs[k]'hkl, List.getElem_mem _, by rw [HE.out, HV.out]; simp⟩
          · go_roundw
            case rel => exact ⟨k + 1, by omega, by go_num, by rw [List.take_succ_eq_append_getElem hkl, List.all_append, HA.out]; simp [HE.out, HV.out], bel_trans (bel_alloc hbel _) hb1⟩
            case measure => simp [intOf]; omega
        · have hall : xs.all valOk = true := by rw [← HA.out, List.take_of_length_le (by rw [HL.out]; omega)]
          have HX := Lib.hid hall; clear hall
          go_wp2
          go_ret
          exact ⟨ret_bool (by rw [HT.out, HX.out]), hbel⟩
end Go.Proofs.Ytndhjijcicebkaa
