import Derived.Test.YtcbbefibebkfgaaGreatDoorVal
import Derived.Test.YtcbbefibebkfgaaGreatDoorValS
/- The order of values in the program: cmp.Compare, cmp.Or, compareVals, LessVal. Each answers what the plain function says and makes at most new blocks. No condition. -/
namespace Go.Proofs.YtcbbefibebkfgaaGreatDoor
open Go.RowKit
set_option maxRecDepth 100000
set_option maxHeartbeats 2000000

theorem lessV_cmp (a b : Vl) : decide (cmpV a b < 0) = lessV a b := by
  have hs : decide (cmpS a.s b.s < 0) = lessS a.s b.s := by
    unfold cmpS
    cases lessS a.s b.s <;> simp
    cases lessS b.s a.s <;> simp
  unfold cmpV or3 lessV cmpI
  by_cases h1 : a.k < b.k
  · simp [h1]; exact .inl (by omega)
  · by_cases h2 : b.k < a.k
    · simp [h1, h2]; try omega
    · have e : a.k = b.k := by omega
      by_cases h3 : a.n < b.n
      · simp [e, h3]; try omega
      · by_cases h4 : b.n < a.n
        · simp [e, h3, h4]; try omega
        · have e2 : a.n = b.n := by omega
          simp [e, e2, hs]
end Go.Proofs.YtcbbefibebkfgaaGreatDoor

/- Facts: the laws' helpers on them, and FactOk, SameFact, LessFact of the program and of the reference. Each answers what the plain function says and makes at most new blocks. No condition but lengths. -/
namespace Go.Proofs.YtcbbefibebkfgaaGreatDoor
open Go.RowKit
set_option maxRecDepth 100000
set_option maxHeartbeats 2000000

structure Ft where
  kd : ByteArray
  fs : List Vl
deriving DecidableEq
def factOk (f : Ft) : Bool := nameOk f.kd && (f.fs.all valOk && decide (f.fs.length ≤ 5))
def totF (f : Ft) : Nat := f.kd.size + totV f.fs
theorem l3Vals_any (A : Option Addr) (n c : Nat) (xs : List Vl) (w : World) (B : Nat) (hr : RdS vC 3 w B A n xs) (hn : n ≤ 4611686018427387904) (hs : ∀ x ∈ xs, x.s.size ≤ 9223372036854775807) :
    Calls Tryz.prog 25 #[.slice A n c] w fun e w' => e = .returned (.bool (xs.all valOk && decide (xs.length ≤ 5))) ∧ Below w.heap.size w w' := by
  have HL := Lib.hid hr.len
  have HS := Lib.hid hs; clear hs
  go_enter Tryz.func25, Tryz.ntmps25
  go_wp2
  go_loopw [3] (fun i wr => ∃ k : Nat, k ≤ n ∧ i = .int .i64 k ∧ (xs.take k).all valOk = true ∧ Below w.heap.size w wr) (fun i _ => n - (intOf i).toNat)
  case atStart => exact ⟨0, Nat.zero_le _, rfl, rfl, bel_refl _⟩
  case round =>
    obtain ⟨k, hk, rfl, ha, hbel⟩ := hrel
    have HA := Lib.hid ha; clear ha
    by_cases hlt : k < n
    · obtain ⟨b, o, rfl, hb, hc⟩ := (hr.kept hbel).2.val (by omega)
      obtain ⟨x, y, s, he, c0, c1, c2⟩ := hc k hlt
      clear hc
      have hkl : k < xs.length := by rw [HL.out]; exact hlt
      have hss : s.size ≤ 9223372036854775807 := by
        have := HS.out (xs[k]'hkl) (List.getElem_mem _)
        rw [he] at this; exact this
      have HE := Lib.hid he; clear he
      obtain ⟨r, hv⟩ : ∃ r, valOk ⟨x, y, s⟩ = r := ⟨_, rfl⟩
      have HV := Lib.hid hv; clear hv
      cases r
      all_goals
        go_wp2_with (go_at_call 59; refine (specValOk_any _ _ _ _ hss).mono ?_; rw [HV.out]; rintro e w' ⟨rfl, hb1⟩)
      · go_ret
        refine ⟨ret_bool ?_, (by repeat (first | with_reducible exact bel_refl _ | with_reducible assumption | with_reducible refine bel_set ?_ (by first | (simp; done) | (simp; omega) | omega) _ | with_reducible refine bel_alloc ?_ _ | with_reducible refine bel_drew ?_ | with_reducible refine bel_drewN ?_ _ | with_reducible refine bel_trans ?_ (by assumption)))⟩
        rw [eq_comm, Bool.and_eq_false_iff]
        left
        rw [List.all_eq_false]
        exact ⟨xs[k]'hkl, List.getElem_mem _, by rw [HE.out, HV.out]; simp⟩
      · go_roundw
        case rel => exact ⟨k + 1, by omega, by go_num, by rw [List.take_succ_eq_append_getElem hkl, List.all_append, HA.out]; simp [HE.out, HV.out], bel_trans hbel hb1⟩
        case measure => simp [intOf]; omega
    · have hall : xs.all valOk = true := by rw [← HA.out, List.take_of_length_le (by rw [HL.out]; omega)]
      have HX := Lib.hid hall; clear hall
      go_wp2
      go_ret
      refine ⟨ret_bool ?_, hbel⟩
      rw [HX.out, HL.out]
      simp
      try omega
theorem specFactOk_any (kd : ByteArray) (A : Option Addr) (n c : Nat) (xs : List Vl) (w : World) (B : Nat) (hr : RdS vC 3 w B A n xs) (hn : n ≤ 4611686018427387904) (hk : kd.size ≤ 9223372036854775807) (hs : ∀ x ∈ xs, x.s.size ≤ 9223372036854775807) :
    Calls Tryz.prog 8 #[.agg #[.string kd, .slice A n c]] w fun e w' => e = .returned (.bool (factOk ⟨kd, xs⟩)) ∧ Below w.heap.size w w' := by
  have HS := Lib.hid hs; clear hs
  obtain ⟨r1, hr1⟩ : ∃ r, nameOk kd = r := ⟨_, rfl⟩
  obtain ⟨r2, hr2⟩ : ∃ r, (xs.all valOk && decide (xs.length ≤ 5)) = r := ⟨_, rfl⟩
  have HR1 := Lib.hid hr1; clear hr1
  have HR2 := Lib.hid hr2; clear hr2
  go_enter Tryz.func8, Tryz.ntmps8
  go_wp2_with (first | (go_at_call 24; refine (specNameOk_any _ _ hk).mono ?_; rw [HR1.out]; rintro e w' ⟨rfl, rfl⟩) | (go_at_call 25; refine (l3Vals_any A n c xs _ _ (hr.alloc _) hn HS.out).mono ?_; rw [HR2.out]; rintro e w' ⟨rfl, hb⟩))
  all_goals
    go_ret
    refine ⟨ret_bool ?_, (by repeat (first | with_reducible exact bel_refl _ | with_reducible assumption | with_reducible refine bel_set ?_ (by first | (simp; done) | (simp; omega) | omega) _ | with_reducible refine bel_alloc ?_ _ | with_reducible refine bel_drew ?_ | with_reducible refine bel_drewN ?_ _ | with_reducible refine bel_trans ?_ (by assumption)))⟩
    unfold factOk
    rw [HR1.out, HR2.out]
    simp_all
theorem implFactOk_any (kd : ByteArray) (A : Option Addr) (n c : Nat) (xs : List Vl) (w : World) (B : Nat) (hr : RdS vC 3 w B A n xs) (hn : n ≤ 4611686018427387904) (hk : kd.size ≤ 9223372036854775807) (hs : ∀ x ∈ xs, x.s.size ≤ 9223372036854775807) :
    Calls Tryz.prog 9 #[.agg #[.string kd, .slice A n c]] w fun e w' => e = .returned (.bool (factOk ⟨kd, xs⟩)) ∧ Below w.heap.size w w' := by
  have HL := Lib.hid hr.len
  have HS := Lib.hid hs; clear hs
  cases hr1 : nameOk kd
  · have HT := Lib.hid (show factOk ⟨kd, xs⟩ = false by unfold factOk; rw [hr1]; rfl)
    have HR1 := Lib.hid hr1; clear hr1
    go_enter Tryz.func9, Tryz.ntmps9
    go_wp2_with (go_at_call 26; refine (implNameOk_any _ _ hk).mono ?_; rw [HR1.out]; rintro e w' ⟨rfl, rfl⟩)
    go_ret
    exact ⟨ret_bool HT.out.symm, (by repeat (first | with_reducible exact bel_refl _ | with_reducible assumption | with_reducible refine bel_set ?_ (by first | (simp; done) | (simp; omega) | omega) _ | with_reducible refine bel_alloc ?_ _ | with_reducible refine bel_drew ?_ | with_reducible refine bel_drewN ?_ _ | with_reducible refine bel_trans ?_ (by assumption)))⟩
  · by_cases h5 : (5 : Int) < (n : Int)
    · have HT := Lib.hid (show factOk ⟨kd, xs⟩ = false by unfold factOk; rw [decide_eq_false (by simp only; rw [HL.out]; omega)]; simp)
      have HR1 := Lib.hid hr1; clear hr1
      go_enter Tryz.func9, Tryz.ntmps9
      go_wp2_with (go_at_call 26; refine (implNameOk_any _ _ hk).mono ?_; rw [HR1.out]; rintro e w' ⟨rfl, rfl⟩)
      go_ret
      exact ⟨ret_bool HT.out.symm, (by repeat (first | with_reducible exact bel_refl _ | with_reducible assumption | with_reducible refine bel_set ?_ (by first | (simp; done) | (simp; omega) | omega) _ | with_reducible refine bel_alloc ?_ _ | with_reducible refine bel_drew ?_ | with_reducible refine bel_drewN ?_ _ | with_reducible refine bel_trans ?_ (by assumption)))⟩
    · have HT := Lib.hid (show factOk ⟨kd, xs⟩ = xs.all valOk by unfold factOk; rw [hr1, decide_eq_true (by simp only; rw [HL.out]; omega)]; simp)
      have HR1 := Lib.hid hr1; clear hr1
      go_enter Tryz.func9, Tryz.ntmps9
      go_wp2_with (go_at_call 26; refine (implNameOk_any _ _ hk).mono ?_; rw [HR1.out]; rintro e w' ⟨rfl, rfl⟩)
      go_loopw [18] (fun i wr => ∃ k : Nat, k ≤ n ∧ i = .int .i64 k ∧ (xs.take k).all valOk = true ∧ Below w.heap.size w wr) (fun i _ => n - (intOf i).toNat)
      case atStart => exact ⟨0, Nat.zero_le _, rfl, rfl, (by repeat (first | with_reducible exact bel_refl _ | with_reducible assumption | with_reducible refine bel_set ?_ (by first | (simp; done) | (simp; omega) | omega) _ | with_reducible refine bel_alloc ?_ _ | with_reducible refine bel_drew ?_ | with_reducible refine bel_drewN ?_ _ | with_reducible refine bel_trans ?_ (by assumption)))⟩
      case round =>
        obtain ⟨k, hk, rfl, ha, hbel⟩ := hrel
        have HA := Lib.hid ha; clear ha
        by_cases hlt : k < n
        · obtain ⟨b, o, rfl, hb, hc⟩ := (hr.kept hbel).2.val (by omega)
          obtain ⟨x, y, s, he, c0, c1, c2⟩ := hc k hlt
          clear hc
          have hkl : k < xs.length := by rw [HL.out]; exact hlt
          have hss : s.size ≤ 9223372036854775807 := by
            have := HS.out (xs[k]'hkl) (List.getElem_mem _)
            rw [he] at this; exact this
          have HE := Lib.hid he; clear he
          obtain ⟨r, hv⟩ : ∃ r, valOk ⟨x, y, s⟩ = r := ⟨_, rfl⟩
          have HV := Lib.hid hv; clear hv
          cases r
          all_goals
            go_wp2_with (go_at_call 27; refine (implValOk_any _ _ _ _ hss).mono ?_; rw [HV.out]; rintro e w' ⟨rfl, hb1⟩)
          · go_ret
            refine ⟨ret_bool ?_, (by repeat (first | with_reducible exact bel_refl _ | with_reducible assumption | with_reducible refine bel_set ?_ (by first | (simp; done) | (simp; omega) | omega) _ | with_reducible refine bel_alloc ?_ _ | with_reducible refine bel_drew ?_ | with_reducible refine bel_drewN ?_ _ | with_reducible refine bel_trans ?_ (by assumption)))⟩
            rw [HT.out, eq_comm, List.all_eq_false]
            exact ⟨xs[k]'hkl, List.getElem_mem _, by rw [HE.out, HV.out]; simp⟩
          · go_roundw
            case rel => exact ⟨k + 1, by omega, by go_num, by rw [List.take_succ_eq_append_getElem hkl, List.all_append, HA.out]; simp [HE.out, HV.out], bel_trans (bel_alloc hbel _) hb1⟩
            case measure => simp [intOf]; omega
        · have hall : xs.all valOk = true := by rw [← HA.out, List.take_of_length_le (by rw [HL.out]; omega)]
          have HX := Lib.hid hall; clear hall
          go_wp2
          go_ret
          exact ⟨ret_bool (by rw [HT.out, HX.out]), hbel⟩
end Go.Proofs.YtcbbefibebkfgaaGreatDoor
