/- Patterns: the laws' helpers on them, and PatOk of the program and of the reference. Each answers what the plain function says and makes at most new blocks. No condition but lengths. -/
import Derived.Test.YtaacdnnjmiaaaaaDoorArgS
import Derived.Test.YtaacdnnjmiaaaaaDoorArgOk
namespace Go.Proofs.YtaacdnnjmiaaaaaDoor
open Go.RowKit
set_option maxRecDepth 100000
set_option maxHeartbeats 2000000

structure Pt where
  kd : ByteArray
  fs : List Ag
  no : Bool
deriving DecidableEq
def patOk (p : Pt) : Bool := nameOk p.kd && (p.fs.all argOk && decide (p.fs.length ≤ 5))
def totP (f : Pt) : Nat := f.kd.size + totA f.fs
theorem implPatOk_any (kd : ByteArray) (A : Option Addr) (n c : Nat) (xs : List Ag) (no : Bool) (w : World) (B : Nat) (hr : RdS aC 5 w B A n xs) (hn : n ≤ 4611686018427387904) (hk : kd.size ≤ 9223372036854775807) (hs : ∀ x ∈ xs, goodA x) :
    Calls Tryd.prog 9 #[.agg #[.string kd, .slice A n c, .bool no]] w fun e w' => e = .returned (.bool (patOk ⟨kd, xs, no⟩)) ∧ Below w.heap.size w w' := by
  have HL := Lib.hid hr.len
  have HS := Lib.hid hs; clear hs
  cases hr1 : nameOk kd
  · have HT := Lib.hid (show patOk ⟨kd, xs, no⟩ = false by unfold patOk; rw [hr1]; rfl)
    have HR1 := Lib.hid hr1; clear hr1
    go_enter Tryd.func9, Tryd.ntmps9
    go_wp2_with (go_at_call 22; refine (implNameOk_any _ _ hk).mono ?_; rw [HR1.out]; rintro e w' ⟨rfl, rfl⟩)
    go_ret
    exact ⟨ret_bool HT.out.symm, (by repeat (first | with_reducible exact bel_refl _ | with_reducible assumption | with_reducible refine bel_set ?_ (by first | (simp; done) | (simp; omega) | omega) _ | with_reducible refine bel_alloc ?_ _ | with_reducible refine bel_drew ?_ | with_reducible refine bel_drewN ?_ _ | with_reducible refine bel_trans ?_ (by assumption)))⟩
  · by_cases h5 : (5 : Int) < (n : Int)
    · have HT := Lib.hid (show patOk ⟨kd, xs, no⟩ = false by unfold patOk; rw [decide_eq_false (by simp only; rw [HL.out]; omega)]; simp)
      have HR1 := Lib.hid hr1; clear hr1
      go_enter Tryd.func9, Tryd.ntmps9
      go_wp2_with (go_at_call 22; refine (implNameOk_any _ _ hk).mono ?_; rw [HR1.out]; rintro e w' ⟨rfl, rfl⟩)
      go_ret
      exact ⟨ret_bool HT.out.symm, (by repeat (first | with_reducible exact bel_refl _ | with_reducible assumption | with_reducible refine bel_set ?_ (by first | (simp; done) | (simp; omega) | omega) _ | with_reducible refine bel_alloc ?_ _ | with_reducible refine bel_drew ?_ | with_reducible refine bel_drewN ?_ _ | with_reducible refine bel_trans ?_ (by assumption)))⟩
    · have HT := Lib.hid (show patOk ⟨kd, xs, no⟩ = xs.all argOk by unfold patOk; rw [hr1, decide_eq_true (by simp only; rw [HL.out]; omega)]; simp)
      have HR1 := Lib.hid hr1; clear hr1
      go_enter Tryd.func9, Tryd.ntmps9
      go_wp2_with (go_at_call 22; refine (implNameOk_any _ _ hk).mono ?_; rw [HR1.out]; rintro e w' ⟨rfl, rfl⟩)
      go_loopw [18] (fun i wr => ∃ k : Nat, k ≤ n ∧ i = .int .i64 k ∧ (xs.take k).all argOk = true ∧ Below w.heap.size w wr) (fun i _ => n - (intOf i).toNat)
      case atStart => exact ⟨0, Nat.zero_le _, rfl, rfl, (by repeat (first | with_reducible exact bel_refl _ | with_reducible assumption | with_reducible refine bel_set ?_ (by first | (simp; done) | (simp; omega) | omega) _ | with_reducible refine bel_alloc ?_ _ | with_reducible refine bel_drew ?_ | with_reducible refine bel_drewN ?_ _ | with_reducible refine bel_trans ?_ (by assumption)))⟩
      case round =>
        obtain ⟨k, hk, rfl, ha, hbel⟩ := hrel
        have HA := Lib.hid ha; clear ha
        by_cases hlt : k < n
        · obtain ⟨b, o, rfl, hb, hc⟩ := (hr.kept hbel).2.arg_ (by omega)
          obtain ⟨x, s, y, z, vs, he, c0, c1, c2, c3, c4⟩ := hc k hlt
          clear hc
          have hkl : k < xs.length := by rw [HL.out]; exact hlt
          obtain ⟨hss, hvs⟩ : s.size ≤ 9223372036854775807 ∧ vs.size ≤ 9223372036854775807 := by
            have := HS.out (xs[k]'hkl) (List.getElem_mem _)
            rw [he] at this; exact this
          have HE := Lib.hid he; clear he
          obtain ⟨r, hv⟩ : ∃ r, argOk ⟨x, s, ⟨y, z, vs⟩⟩ = r := ⟨_, rfl⟩
          have HV := Lib.hid hv; clear hv
          cases r
          all_goals
            go_wp2_with (go_at_call 12; refine (implArgOk_any _ _ _ _ _ _ hss hvs).mono ?_; rw [HV.out]; rintro e w' ⟨rfl, hb1⟩)
          · go_ret
            refine ⟨ret_bool ?_, (by repeat (first | with_reducible exact bel_refl _ | with_reducible assumption | with_reducible refine bel_set ?_ (by first | (simp; done) | (simp; omega) | omega) _ | with_reducible refine bel_alloc ?_ _ | with_reducible refine bel_drew ?_ | with_reducible refine bel_drewN ?_ _ | with_reducible refine bel_trans ?_ (by assumption)))⟩
            rw [HT.out, eq_comm, List.all_eq_false]
            exact ⟨xs[k]'hkl, List.getElem_mem _, by rw [HE.out, HV.out]; simp⟩
          · go_roundw
            case rel => exact ⟨k + 1, by omega, by go_num, by rw [List.take_succ_eq_append_getElem hkl, List.all_append, HA.out]; simp [HE.out, HV.out], bel_trans (bel_alloc hbel _) hb1⟩
            case measure => simp [intOf]; omega
        · have hall : xs.all argOk = true := by rw [← HA.out, List.take_of_length_le (by rw [HL.out]; omega)]
          have HX := Lib.hid hall; clear hall
          go_wp2
          go_ret
          exact ⟨ret_bool (by rw [HT.out, HX.out]), hbel⟩
theorem specPatOk_any (kd : ByteArray) (A : Option Addr) (n c : Nat) (xs : List Ag) (no : Bool) (w : World) (B : Nat) (hr : RdS aC 5 w B A n xs) (hn : n ≤ 4611686018427387904) (hk : kd.size ≤ 9223372036854775807) (hs : ∀ x ∈ xs, goodA x) :
    Calls Tryd.prog 10 #[.agg #[.string kd, .slice A n c, .bool no]] w fun e w' => e = .returned (.bool (patOk ⟨kd, xs, no⟩)) ∧ Below w.heap.size w w' := by
  have hk' := hk
  have HL := Lib.hid hr.len
  have HS := Lib.hid hs; clear hs
  obtain ⟨r1, hr1⟩ : ∃ r, nameOk kd = r := ⟨_, rfl⟩
  have HR1 := Lib.hid hr1; clear hr1
  go_enter Tryd.func10, Tryd.ntmps10
  go_wp2
  go_loopw [3] (fun i wr => ∃ k : Nat, k ≤ n ∧ i = .int .i64 k ∧ (xs.take k).all argOk = true ∧ Below w.heap.size w wr ∧ wr.cell? ⟨w.heap.size, 0, none⟩ = some (.string kd) ∧ wr.cell? ⟨w.heap.size, 1, none⟩ = some (.slice A n c)) (fun i _ => n - (intOf i).toNat)
  case atStart => exact ⟨0, Nat.zero_le _, rfl, rfl, (by repeat (first | with_reducible exact bel_refl _ | with_reducible assumption | with_reducible refine bel_set ?_ (by first | (simp; done) | (simp; omega) | omega) _ | with_reducible refine bel_alloc ?_ _ | with_reducible refine bel_drew ?_ | with_reducible refine bel_drewN ?_ _ | with_reducible refine bel_trans ?_ (by assumption))), by go_simp, by go_simp⟩
  case round =>
    obtain ⟨k, hk, rfl, ha, hbel, d0, d1⟩ := hrel
    have HA := Lib.hid ha; clear ha
    by_cases hlt : k < n
    · obtain ⟨b, o, rfl, hb, hc⟩ := (hr.kept hbel).2.arg_ (by omega)
      obtain ⟨x, s, y, z, vs, he, c0, c1, c2, c3, c4⟩ := hc k hlt
      clear hc
      have hkl : k < xs.length := by rw [HL.out]; exact hlt
      obtain ⟨hss, hvs⟩ : s.size ≤ 9223372036854775807 ∧ vs.size ≤ 9223372036854775807 := by
        have := HS.out (xs[k]'hkl) (List.getElem_mem _)
        rw [he] at this; exact this
      have HE := Lib.hid he; clear he
      obtain ⟨r, hv⟩ : ∃ r, argOk ⟨x, s, ⟨y, z, vs⟩⟩ = r := ⟨_, rfl⟩
      have HV := Lib.hid hv; clear hv
      cases r
      all_goals
        go_wp2_with (go_at_call 13; refine (specArgOk_any _ _ _ _ _ _ hss hvs).mono ?_; rw [HV.out]; rintro e w' ⟨rfl, hb1⟩)
      · go_ret
        refine ⟨ret_bool ?_, (by repeat (first | with_reducible exact bel_refl _ | with_reducible assumption | with_reducible refine bel_set ?_ (by first | (simp; done) | (simp; omega) | omega) _ | with_reducible refine bel_alloc ?_ _ | with_reducible refine bel_drew ?_ | with_reducible refine bel_drewN ?_ _ | with_reducible refine bel_trans ?_ (by assumption)))⟩
        have hall : xs.all argOk = false := by rw [List.all_eq_false]; exact ⟨xs[k]'hkl, List.getElem_mem _, by rw [HE.out, HV.out]; simp⟩
        unfold patOk
        rw [hall]
        simp
      · go_roundw
        case rel => exact ⟨k + 1, by omega, by go_num, by rw [List.take_succ_eq_append_getElem hkl, List.all_append, HA.out]; simp [HE.out, HV.out], bel_trans hbel hb1, old_cell hb1 d0, old_cell hb1 d1⟩
        case measure => simp [intOf]; omega
    · have hall : xs.all argOk = true := by rw [← HA.out, List.take_of_length_le (by rw [HL.out]; omega)]
      have HX := Lib.hid (show patOk ⟨kd, xs, no⟩ = (r1 && decide ((n : Int) ≤ 5)) by unfold patOk; rw [HR1.out, hall]; simp only; rw [HL.out]; simp; congr 1; simp; omega)
      clear hall
      cases r1
      all_goals
        go_wp2_with (go_at_call 23; refine (specNameOk_any _ _ hk').mono ?_; rw [HR1.out]; rintro e w' ⟨rfl, rfl⟩)
        go_ret
        exact ⟨ret_bool (by rw [HX.out]; simp), (by repeat (first | with_reducible exact bel_refl _ | with_reducible assumption | with_reducible refine bel_set ?_ (by first | (simp; done) | (simp; omega) | omega) _ | with_reducible refine bel_alloc ?_ _ | with_reducible refine bel_drew ?_ | with_reducible refine bel_drewN ?_ _ | with_reducible refine bel_trans ?_ (by assumption)))⟩
end Go.Proofs.YtaacdnnjmiaaaaaDoor
