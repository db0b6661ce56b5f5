import Derived.Test.YtgcjhicpkmhbaaaDoorPkValText
import Derived.Test.YtgcjhicpkmhbaaaDoorPlainParse
import Derived.Lib.AtoiErrMem
/- The program's reading of a number. Conditions: the text's length; the library's variables are as its text lays them. -/
namespace Go.Proofs.YtgcjhicpkmhbaaaDoor
open Go.RowKit
set_option maxRecDepth 100000
set_option maxHeartbeats 4000000
def restT (L : List UInt8) : List UInt8 := if L.head? = some 45 then L.tail else L
def numOf (L : List UInt8) : Int := if 1 ≤ (restT L).length ∧ (restT L).length ≤ 10 then (Lib.atoi L).getD 0 else 0
def VarE (w : World) : Prop := ∃ tp p, w.var? Tryd.prog "strconv.ErrSyntax" = some #[.iface tp p]
theorem trim_rest (L : List UInt8) : Lib.trimPrefix L [45] = restT L := by
  unfold Lib.trimPrefix restT Lib.hasPrefix
  cases L with
  | nil => rfl
  | cons a t =>
    by_cases h : a = 45
    · subst h; simp
    · have h3 : ¬ ((45 : UInt8) = a) := fun e => h e.symm
      simp [h, h3]
theorem atoi_okB (s : ByteArray) (m : Int) (hl : s.size ≤ 18) (h : Lib.atoi s.data.toList = some m) (w : World) : Calls Tryd.prog 66 #[.string s] w fun e w' => e = .returned (.tuple #[.int .i64 m, .nilIface]) ∧ Below w.heap.size w w' := by
  refine (Tryd.strconv_Atoi s m hl h w).mono ?_
  rintro e w' ⟨rfl, t, rfl⟩
  exact ⟨rfl, Lib.bytesWorld_below _ _ _⟩
theorem parseNumber_any (s : ByteArray) (w : World) (hs : s.size ≤ 9223372036854775807) (ht : TabT w) (hv : VarE w) :
    Calls Tryd.prog 50 #[.string s, .int .i64 10] w fun e w' => (∃ b, e = .returned (.tuple #[.int .i64 (numOf s.data.toList), .bool b])) ∧ Below w.heap.size w w' := by
  have HT := Lib.hid ht; have HVV := Lib.hid hv; clear ht hv
  obtain ⟨r, hr⟩ : ∃ r, restT s.data.toList = r := ⟨_, rfl⟩
  have hrl : r.length ≤ s.size ∧ s.size ≤ r.length + 1 := by
    rw [← hr, ← size_data]
    unfold restT
    split
    · rw [List.length_tail]; omega
    · omega
  have HTR := Lib.hid (show Lib.trimPrefix s.data.toList [45] = r from (trim_rest _).trans hr)
  by_cases h1 : 1 ≤ r.length ∧ r.length ≤ 10
  case neg =>
    have HN := Lib.hid (show numOf s.data.toList = 0 by unfold numOf; rw [hr, if_neg h1])
    clear hr
    by_cases h2 : r.length < 1
    · have h3 : ((r.length : Int) < 1) := by omega
      go_enter Tryd.func50, Tryd.ntmps50
      go_wp2_with (go_at_call 65; refine (Tryd.strings_TrimPrefix s ⟨#[45]⟩ _).mono ?_; rw [HTR.out]; rintro e w' ⟨rfl, rfl⟩)
      refine bodyPost_ret (v := .tuple #[.int .i64 0, .bool false]) (by simp [results, Tryd.results50, go_sem]; try rfl) rfl ⟨⟨_, by rw [HN.out]⟩, (by repeat (first | with_reducible exact bel_refl _ | with_reducible assumption | with_reducible refine bel_set ?_ (by first | (simp; done) | (simp; omega) | omega) _ | with_reducible refine bel_alloc ?_ _ | with_reducible refine bel_drew ?_ | with_reducible refine bel_drewN ?_ _ | with_reducible refine bel_trans ?_ (by assumption)))⟩
    · have h3 : ¬ ((r.length : Int) < 1) := by omega
      have h4 : ((10 : Int) < (r.length : Int)) := by omega
      go_enter Tryd.func50, Tryd.ntmps50
      go_wp2_with (go_at_call 65; refine (Tryd.strings_TrimPrefix s ⟨#[45]⟩ _).mono ?_; rw [HTR.out]; rintro e w' ⟨rfl, rfl⟩)
      refine bodyPost_ret (v := .tuple #[.int .i64 0, .bool false]) (by simp [results, Tryd.results50, go_sem]; try rfl) rfl ⟨⟨_, by rw [HN.out]⟩, (by repeat (first | with_reducible exact bel_refl _ | with_reducible assumption | with_reducible refine bel_set ?_ (by first | (simp; done) | (simp; omega) | omega) _ | with_reducible refine bel_alloc ?_ _ | with_reducible refine bel_drew ?_ | with_reducible refine bel_drewN ?_ _ | with_reducible refine bel_trans ?_ (by assumption)))⟩
  have h3 : ¬ ((r.length : Int) < 1) := by omega
  have h4 : ¬ ((10 : Int) < (r.length : Int)) := by omega
  have hsz : s.size ≤ 18 := by omega
  cases ha : Lib.atoi s.data.toList with
  | none =>
    have HN := Lib.hid (show numOf s.data.toList = 0 by unfold numOf; rw [hr, if_pos h1, ha]; rfl)
    have HA := Lib.hid ha
    clear ha hr h1
    go_enter Tryd.func50, Tryd.ntmps50
    go_wp2_with (go_at_call 65; refine (Tryd.strings_TrimPrefix s ⟨#[45]⟩ _).mono ?_; rw [HTR.out]; rintro e w' ⟨rfl, rfl⟩)
    obtain ⟨tp, p, hvar⟩ := HVV.out
    refine (Tryd.strconv_Atoi_err_var s hsz HA.out tp p _ hvar).mono ?_
    rintro e w2 ⟨N, rfl, _, _, hb⟩
    go_wp2
    refine bodyPost_ret (v := .tuple #[.int .i64 0, .bool false]) (by simp [results, Tryd.results50, go_sem]; try rfl) rfl ⟨⟨_, by rw [HN.out]⟩, (by repeat (first | with_reducible exact bel_refl _ | with_reducible assumption | with_reducible refine bel_set ?_ (by first | (simp; done) | (simp; omega) | omega) _ | with_reducible refine bel_alloc ?_ _ | with_reducible refine bel_drew ?_ | with_reducible refine bel_drewN ?_ _ | with_reducible refine bel_trans ?_ (by assumption)))⟩
  | some m =>
    have hbd := Lib.atoi_bound ha (by rw [size_data]; exact hsz)
    have HN := Lib.hid (show numOf s.data.toList = m by unfold numOf; rw [hr, if_pos h1, ha]; rfl)
    have HA := Lib.hid ha
    clear ha hr h1
    go_enter Tryd.func50, Tryd.ntmps50
    go_wp2_with (go_at_call 65; refine (Tryd.strings_TrimPrefix s ⟨#[45]⟩ _).mono ?_; rw [HTR.out]; rintro e w' ⟨rfl, rfl⟩)
    refine (atoi_okB s m hsz HA.out _).mono ?_
    rintro e w2 ⟨rfl, hb⟩
    go_wp2_with fail
    refine (Tryd.strconv_Itoa m (by omega) (by omega) _ (HT.out.kept (by repeat (first | with_reducible exact bel_refl _ | with_reducible assumption | with_reducible refine bel_set ?_ (by first | (simp; done) | (simp; omega) | omega) _ | with_reducible refine bel_alloc ?_ _ | with_reducible refine bel_drew ?_ | with_reducible refine bel_drewN ?_ _ | with_reducible refine bel_trans ?_ (by assumption))))).mono ?_
    rintro e w3 ⟨rfl, k, os, rfl⟩
    have hb3 := grow_below (w := w2) k os
    go_wp2
    refine bodyPost_ret (v := .tuple #[.int .i64 m, .bool ((⟨(Lib.itoa m).toArray⟩ : ByteArray).toList == s.toList)]) (by simp [results, Tryd.results50, go_sem]; try rfl) rfl ⟨⟨_, by rw [HN.out]⟩, bel_trans hb hb3⟩
end Go.Proofs.YtgcjhicpkmhbaaaDoor
