import Derived.Test.YtcbbefibebkfgaaGreatDoorPkFact
/- SameFact and LessFact of the program and of the reference. Each answers what the plain function says and makes at most new blocks. No condition but lengths. -/
namespace Go.Proofs.YtcbbefibebkfgaaGreatDoor
open Go.RowKit
set_option maxRecDepth 100000
set_option maxHeartbeats 2000000

theorem vl_eq {x y x2 y2 : Int} {s s2 : ByteArray} (h1 : x = x2) (h2 : y = y2) (h3 : s.toList = s2.toList) : Vl.mk x y s = Vl.mk x2 y2 s2 := by
  have := str_eq s s2
  simp_all
theorem equalVals_any (A1 A2 : Option Addr) (n1 c1 n2 c2 : Nat) (l1 l2 : List Vl) (w : World) (B B2 : Nat) (h1 : RdS vC 3 w B A1 n1 l1) (h2 : RdS vC 3 w B2 A2 n2 l2) (hn : n1 ≤ 4611686018427387904) :
    Calls Tryz.prog 38 #[.slice A1 n1 c1, .slice A2 n2 c2] w fun e w' => e = .returned (.bool (decide (l1 = l2))) ∧ Below w.heap.size w w' := by
  have hl1 := h1.len
  have hl2 := h2.len
  by_cases hn : n1 = n2
  · subst hn
    have H1 := Lib.hid hl1; clear hl1
    have H2 := Lib.hid hl2; clear hl2
    go_enter Tryz.func38, Tryz.ntmps38
    go_wp2
    go_loopw [13] (fun i wr => ∃ k : Nat, k ≤ n1 ∧ i = .int .i64 k ∧ Same l1 l2 k ∧ Below w.heap.size w wr) (fun i _ => n1 - (intOf i).toNat)
    case atStart => exact ⟨0, Nat.zero_le _, rfl, Same.zero _ _, bel_refl _⟩
    case round =>
      obtain ⟨k, hk, rfl, ht, hbel⟩ := hrel
      have HT := Lib.hid ht; clear ht
      by_cases hlt : k < n1
      · obtain ⟨b1, o1, rfl, hb1, hc1⟩ := (h1.kept hbel).2.val (by omega)
        obtain ⟨b2, o2, rfl, hb2, hc2⟩ := (h2.kept hbel).2.val (by omega)
        obtain ⟨x, y, s, he, p0, p1, p2⟩ := hc1 k hlt
        obtain ⟨x2, y2, s2, he2, q0, q1, q2⟩ := hc2 k hlt
        have HE := Lib.hid he; clear he hc1
        have HE2 := Lib.hid he2; clear he2 hc2
        have hk0 : (0:Int) ≤ (k : Int) := by omega
        have hk1 : (k:Int) < (n1 : Int) := by omega
        go_wp2_with fail
        refine wp_still 8 (by kernel_rfl) (by kernel_rfl) ?_
        simp only [List.take_succ_cons, List.take_zero, List.drop_succ_cons, List.drop_zero]
        repeat still_step
        refine wpStill_nil ?_
        go_wp2
        case roundEnd =>
          go_roundw
          case rel => exact ⟨k + 1, by omega, by go_num, HT.out.succ (by rw [H1.out]; exact hlt) (by rw [H2.out]; exact hlt) (by rw [HE.out, HE2.out]; exact vl_eq (by assumption) (by assumption) (by assumption)), bel_drew hbel⟩
          case measure => simp [intOf]; omega
        all_goals
          go_ret
          refine ⟨ret_bool ?_, bel_drew hbel⟩
          rw [eq_comm, decide_eq_false_iff_not]
          rintro rfl
          have hh := HE.out.symm.trans HE2.out
          simp only [Vl.mk.injEq] at hh
          simp_all
      · go_wp2
        go_ret
        refine ⟨ret_bool ?_, hbel⟩
        rw [eq_comm, decide_eq_true_eq]
        exact HT.out.full (H1.out.trans H2.out.symm) (by rw [H1.out]; omega)
  · go_enter Tryz.func38, Tryz.ntmps38
    go_wp2
    go_ret
    refine ⟨ret_bool ?_, bel_refl _⟩
    rw [eq_comm, decide_eq_false_iff_not]
    rintro rfl
    omega
theorem implSameFact_any (k1 k2 : ByteArray) (A1 A2 : Option Addr) (n1 c1 n2 c2 : Nat) (l1 l2 : List Vl) (w : World) (B B2 : Nat) (h1 : RdS vC 3 w B A1 n1 l1) (h2 : RdS vC 3 w B2 A2 n2 l2) (hn : n1 ≤ 4611686018427387904) :
    Calls Tryz.prog 13 #[.agg #[.string k1, .slice A1 n1 c1], .agg #[.string k2, .slice A2 n2 c2]] w fun e w' => e = .returned (.bool (decide (Ft.mk k1 l1 = Ft.mk k2 l2))) ∧ Below w.heap.size w w' := by
  obtain ⟨r, hr⟩ : ∃ r, decide (l1 = l2) = r := ⟨_, rfl⟩
  have HR := Lib.hid hr; clear hr
  by_cases hk : k1 = k2
  · subst hk
    have hkk : (k1.toList == k1.toList) = true := by simp
    go_enter Tryz.func13, Tryz.ntmps13
    go_wp2_with (go_at_call 38; refine (equalVals_any A1 A2 n1 c1 n2 c2 l1 l2 _ _ _ ((h1.alloc _).alloc _) ((h2.alloc _).alloc _) hn).mono ?_; rw [HR.out]; rintro e w' ⟨rfl, hb⟩)
    go_ret
    refine ⟨ret_bool ?_, (by repeat (first | with_reducible exact bel_refl _ | with_reducible assumption | with_reducible refine bel_set ?_ (by first | (simp; done) | (simp; omega) | omega) _ | with_reducible refine bel_alloc ?_ _ | with_reducible refine bel_drew ?_ | with_reducible refine bel_drewN ?_ _ | with_reducible refine bel_trans ?_ (by assumption)))⟩
    rw [← HR.out]
    simp
  · have hkk : (k1.toList == k2.toList) = false := by rw [str_eq, decide_eq_false hk]
    have HK := Lib.hid hk; clear hk
    go_enter Tryz.func13, Tryz.ntmps13
    go_wp2_with fail
    go_ret
    exact ⟨ret_bool (by rw [eq_comm, decide_eq_false_iff_not]; intro h; exact HK.out (by injection h)), (by repeat (first | with_reducible exact bel_refl _ | with_reducible assumption | with_reducible refine bel_set ?_ (by first | (simp; done) | (simp; omega) | omega) _ | with_reducible refine bel_alloc ?_ _ | with_reducible refine bel_drew ?_ | with_reducible refine bel_drewN ?_ _ | with_reducible refine bel_trans ?_ (by assumption)))⟩
end Go.Proofs.YtcbbefibebkfgaaGreatDoor

/- LessFact of the program and of the reference. Each answers what the plain function says and makes at most new blocks. No condition but lengths. -/
namespace Go.Proofs.YtcbbefibebkfgaaGreatDoor
open Go.RowKit
set_option maxRecDepth 100000
set_option maxHeartbeats 2000000

def lessVs : List Vl → List Vl → Bool
  | a :: x, b :: y => if a = b then lessVs x y else lessV a b
  | _, _ => false
def lessF (a b : Ft) : Bool := if a.kd ≠ b.kd then lessS a.kd b.kd else if a.fs.length ≠ b.fs.length then decide (a.fs.length < b.fs.length) else lessVs a.fs b.fs
theorem lessVs_step {l1 l2 : List Vl} {k : Nat} (h1 : k < l1.length) (h2 : k < l2.length) (he : l1[k] = l2[k]) : lessVs (l1.drop k) (l2.drop k) = lessVs (l1.drop (k + 1)) (l2.drop (k + 1)) := by
  rw [List.drop_eq_getElem_cons h1, List.drop_eq_getElem_cons h2, lessVs, if_pos he]
theorem lessVs_stop {l1 l2 : List Vl} {k : Nat} (h1 : k < l1.length) (h2 : k < l2.length) (he : l1[k] ≠ l2[k]) : lessVs (l1.drop k) (l2.drop k) = lessV l1[k] l2[k] := by
  rw [List.drop_eq_getElem_cons h1, List.drop_eq_getElem_cons h2, lessVs, if_neg he]
theorem lessVs_end {l1 l2 : List Vl} {k : Nat} (h1 : l1.length ≤ k) : lessVs (l1.drop k) (l2.drop k) = false := by
  rw [List.drop_eq_nil_of_le h1]
  rfl
def cmpVs : List Vl → List Vl → Int
  | a :: x, b :: y => if cmpV a b = 0 then cmpVs x y else cmpV a b
  | _, _ => 0
theorem cmpVs_step {l1 l2 : List Vl} {k : Nat} (h1 : k < l1.length) (h2 : k < l2.length) (he : cmpV l1[k] l2[k] = 0) : cmpVs (l1.drop k) (l2.drop k) = cmpVs (l1.drop (k + 1)) (l2.drop (k + 1)) := by
  rw [List.drop_eq_getElem_cons h1, List.drop_eq_getElem_cons h2, cmpVs, if_pos he]
theorem cmpVs_stop {l1 l2 : List Vl} {k : Nat} (h1 : k < l1.length) (h2 : k < l2.length) (he : cmpV l1[k] l2[k] ≠ 0) : cmpVs (l1.drop k) (l2.drop k) = cmpV l1[k] l2[k] := by
  rw [List.drop_eq_getElem_cons h1, List.drop_eq_getElem_cons h2, cmpVs, if_neg he]
theorem cmpVs_end {l1 l2 : List Vl} {k : Nat} (h1 : l1.length ≤ k) : cmpVs (l1.drop k) (l2.drop k) = 0 := by
  rw [List.drop_eq_nil_of_le h1]
  rfl
theorem lessS_irrefl (a : ByteArray) : lessS a a = false := bless_irrefl _
theorem lessS_total {a b : ByteArray} (h1 : lessS a b = false) (h2 : lessS b a = false) : a = b := by
  have h3 := bless_total a.toList b.toList h1
  have h4 : a.toList = b.toList := by
    apply Decidable.byContradiction
    intro hne
    have := h3 hne
    unfold lessS at h2
    rw [h2] at this
    cases this
  have := str_eq a b
  rw [h4] at this
  simpa using this
theorem cmpI_zero {x y : Int} : cmpI x y = 0 ↔ x = y := by
  unfold cmpI
  by_cases h1 : x < y
  · simp [h1]; omega
  · by_cases h2 : y < x
    · simp [h1, h2]; omega
    · simp [h1, h2]; omega
theorem cmpS_zero {x y : ByteArray} : cmpS x y = 0 ↔ x = y := by
  unfold cmpS
  constructor
  · intro h
    cases h1 : lessS x y
    · cases h2 : lessS y x
      · exact lessS_total h1 h2
      · simp [h1, h2] at h
    · simp [h1] at h
  · rintro rfl
    simp [lessS_irrefl]
theorem or3_zero {a b c : Int} : or3 a b c = 0 ↔ a = 0 ∧ b = 0 ∧ c = 0 := by
  unfold or3
  split
  · constructor
    · intro h; contradiction
    · intro h; exact absurd h.1 (by assumption)
  · split
    · constructor
      · intro h; contradiction
      · intro h; exact absurd h.2.1 (by assumption)
    · constructor
      · intro h; exact ⟨by simp_all, by simp_all, h⟩
      · intro h; exact h.2.2
theorem cmpV_zero {a b : Vl} : cmpV a b = 0 ↔ a = b := by
  unfold cmpV
  rw [or3_zero, cmpI_zero, cmpI_zero, cmpS_zero]
  cases a; cases b
  simp
theorem cmpVs_less : ∀ (l1 l2 : List Vl), decide (cmpVs l1 l2 < 0) = lessVs l1 l2
  | [], _ => by simp [cmpVs, lessVs]
  | _ :: _, [] => by simp [cmpVs, lessVs]
  | a :: x, b :: y => by
    unfold cmpVs lessVs
    by_cases h : a = b
    · rw [if_pos (cmpV_zero.2 h), if_pos h, cmpVs_less x y]
    · rw [if_neg (fun e => h (cmpV_zero.1 e)), if_neg h, lessV_cmp]
theorem cmpS_less (a b : ByteArray) : decide (cmpS a b < 0) = lessS a b := by
  unfold cmpS
  cases lessS a b <;> simp
  cases lessS b a <;> simp
def or2 (a b : Int) : Int := if a ≠ 0 then a else b
end Go.Proofs.YtcbbefibebkfgaaGreatDoor
