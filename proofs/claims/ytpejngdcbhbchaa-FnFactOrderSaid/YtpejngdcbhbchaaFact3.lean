/- LessFact of the program and of the reference. Each answers what the plain function says and makes at most new blocks. No condition but lengths. -/
import Derived.Test.YtpejngdcbhbchaaFact2
namespace Go.Proofs.Ytpejngdcbhbchaa
open Go.RowKit
set_option maxRecDepth 100000
set_option maxHeartbeats 2000000

def lessVs : List Vl → List Vl → Bool
  | a :: x, b :: y => if a = b then lessVs x y else lessV a b
  | _, _ => false
def lessF (a b : Ft) : Bool := if a.kd ≠ b.kd then lessS a.kd b.kd else if a.fs.length ≠ b.fs.length then decide (a.fs.length < b.fs.length) else lessVs a.fs b.fs
theorem lessVs_step {l1 l2 : List Vl} {k : Nat} (h1 : k < l1.length) (h2 : k < l2.length) (he : l1[k] = l2[k]) : lessVs (l1.drop k) (l2.drop k) = lessVs (l1.drop (k + 1)) (l2.drop (k + 1)) := by
  rw [List.drop_eq_getElem_cons h1, List.drop_eq_getElem_cons h2, lessVs, if_pos he]
theorem lessVs_stop {l1 l2 : List Vl} {k : Nat} (h1 : k < l1.length) (h2 : k < l2.length) (he : l1[k] ≠ l2[k]) : lessVs (l1.drop k) (l2.drop k) = lessV l1[k] l2[k] := by
  rw [List.drop_eq_getElem_cons h1, List.drop_eq_getElem_cons h2, lessVs, if_neg he]
theorem lessVs_end {l1 l2 : List Vl} {k : Nat} (h1 : l1.length ≤ k) : lessVs (l1.drop k) (l2.drop k) = false := by
  rw [List.drop_eq_nil_of_le h1]
  rfl
def cmpVs : List Vl → List Vl → Int
  | a :: x, b :: y => if cmpV a b = 0 then cmpVs x y else cmpV a b
  | _, _ => 0
theorem cmpVs_step {l1 l2 : List Vl} {k : Nat} (h1 : k < l1.length) (h2 : k < l2.length) (he : cmpV l1[k] l2[k] = 0) : cmpVs (l1.drop k) (l2.drop k) = cmpVs (l1.drop (k + 1)) (l2.drop (k + 1)) := by
  rw [List.drop_eq_getElem_cons h1, List.drop_eq_getElem_cons h2, cmpVs, if_pos he]
theorem cmpVs_stop {l1 l2 : List Vl} {k : Nat} (h1 : k < l1.length) (h2 : k < l2.length) (he : cmpV l1[k] l2[k] ≠ 0) : cmpVs (l1.drop k) (l2.drop k) = cmpV l1[k] l2[k] := by
  rw [List.drop_eq_getElem_cons h1, List.drop_eq_getElem_cons h2, cmpVs, if_neg he]
theorem cmpVs_end {l1 l2 : List Vl} {k : Nat} (h1 : l1.length ≤ k) : cmpVs (l1.drop k) (l2.drop k) = 0 := by
  rw [List.drop_eq_nil_of_le h1]
  rfl
theorem lessS_irrefl (a : ByteArray) : lessS a a = false := bless_irrefl _
theorem lessS_total {a b : ByteArray} (h1 : lessS a b = false) (h2 : lessS b a = false) : a = b := by
  have h3 := bless_total a.toList b.toList h1
  have h4 : a.toList = b.toList := by
    apply Decidable.byContradiction
    intro hne
    have := h3 hne
    unfold lessS at h2
    rw [h2] at this
    cases this
  have := str_eq a b
  rw [h4] at this
  simpa using this
theorem cmpI_zero {x y : Int} : cmpI x y = 0 ↔ x = y := by
  unfold cmpI
  by_cases h1 : x < y
  · simp [h1]; omega
  · by_cases h2 : y < x
    · simp [h1, h2]; omega
    · simp [h1, h2]; omega
theorem cmpS_zero {x y : ByteArray} : cmpS x y = 0 ↔ x = y := by
  unfold cmpS
  constructor
  · intro h
    cases h1 : lessS x y
    · cases h2 : lessS y x
      · exact lessS_total h1 h2
      · simp [h1, h2] at h
    · simp [h1] at h
  · rintro rfl
    simp [lessS_irrefl]
theorem or3_zero {a b c : Int} : or3 a b c = 0 ↔ a = 0 ∧ b = 0 ∧ c = 0 := by
  unfold or3
  split
  · constructor
    · intro h; contradiction
    · intro h; exact absurd h.1 (by assumption)
  · split
    · constructor
      · intro h; contradiction
      · intro h; exact absurd h.2.1 (by assumption)
    · constructor
      · intro h; exact ⟨by simp_all, by simp_all, h⟩
      · intro h; exact h.2.2
theorem cmpV_zero {a b : Vl} : cmpV a b = 0 ↔ a = b := by
  unfold cmpV
  rw [or3_zero, cmpI_zero, cmpI_zero, cmpS_zero]
  cases a; cases b
  simp
theorem cmpVs_less : ∀ (l1 l2 : List Vl), decide (cmpVs l1 l2 < 0) = lessVs l1 l2
  | [], _ => by simp [cmpVs, lessVs]
  | _ :: _, [] => by simp [cmpVs, lessVs]
  | a :: x, b :: y => by
    unfold cmpVs lessVs
    by_cases h : a = b
    · rw [if_pos (cmpV_zero.2 h), if_pos h, cmpVs_less x y]
    · rw [if_neg (fun e => h (cmpV_zero.1 e)), if_neg h, lessV_cmp]
theorem cmpS_less (a b : ByteArray) : decide (cmpS a b < 0) = lessS a b := by
  unfold cmpS
  cases lessS a b <;> simp
  cases lessS b a <;> simp
theorem specLessFact_any (k1 k2 : ByteArray) (A1 A2 : Option Addr) (n1 c1 n2 c2 : Nat) (l1 l2 : List Vl) (w : World) (B B2 : Nat) (h1 : RdS vC 3 w B A1 n1 l1) (h2 : RdS vC 3 w B2 A2 n2 l2) (hn : n1 ≤ 4611686018427387904) (hn2 : n2 ≤ 4611686018427387904) :
    Calls Try.prog 24 #[.agg #[.string k1, .slice A1 n1 c1], .agg #[.string k2, .slice A2 n2 c2]] w fun e w' => e = .returned (.bool (lessF ⟨k1, l1⟩ ⟨k2, l2⟩)) ∧ Below w.heap.size w w' := by
  have hl1 := h1.len
  have hl2 := h2.len
  by_cases hk : k1 = k2
  · subst hk
    have hkk : (k1.toList == k1.toList) = true := by simp
    have hkk2 : (!(k1.toList == k1.toList)) = false := by simp
    by_cases hnn : n1 = n2
    · subst hnn
      have HT := Lib.hid (show lessF ⟨k1, l1⟩ ⟨k1, l2⟩ = lessVs (l1.drop 0) (l2.drop 0) by unfold lessF; rw [if_neg (by simp), if_neg (by simp only; rw [hl1, hl2]; simp)]; rfl)
      have H1 := Lib.hid hl1; clear hl1
      have H2 := Lib.hid hl2; clear hl2
      go_enter Try.func24, Try.ntmps24
      go_wp2
      go_loopw [5] (fun i wr => ∃ k : Nat, k ≤ n1 ∧ i = .int .i64 k ∧ lessVs (l1.drop 0) (l2.drop 0) = lessVs (l1.drop k) (l2.drop k) ∧ Below w.heap.size w wr ∧ wr.cell? ⟨w.heap.size, 1, none⟩ = some (.slice A1 n1 c1) ∧ wr.cell? ⟨w.heap.size + 1, 1, none⟩ = some (.slice A2 n1 c2)) (fun i _ => n1 - (intOf i).toNat)
      case atStart => exact ⟨0, Nat.zero_le _, rfl, rfl, (by repeat (first | with_reducible exact bel_refl _ | with_reducible assumption | with_reducible refine bel_set ?_ (by first | (simp; done) | (simp; omega) | omega) _ | with_reducible refine bel_alloc ?_ _ | with_reducible refine bel_drew ?_ | with_reducible refine bel_drewN ?_ _ | with_reducible refine bel_trans ?_ (by assumption))), by go_simp, by go_simp⟩
      case round =>
        obtain ⟨k, hk, rfl, ht, hbel, d1, d2⟩ := hrel
        have HTT := Lib.hid ht; clear ht
        by_cases hlt : k < n1
        · obtain ⟨b1, o1, rfl, hb1, hc1⟩ := (h1.kept hbel).2.val (by omega)
          obtain ⟨b2, o2, rfl, hb2, hc2⟩ := (h2.kept hbel).2.val (by omega)
          obtain ⟨x, y, s, he, p0, p1, p2⟩ := hc1 k hlt
          obtain ⟨x2, y2, s2, he2, q0, q1, q2⟩ := hc2 k hlt
          have HE := Lib.hid he; clear he hc1
          have HE2 := Lib.hid he2; clear he2 hc2
          have hk0 : (0:Int) ≤ (k : Int) := by omega
          have hk1 : (k:Int) < (n1 : Int) := by omega
          go_wp2_with fail
          refine wp_still 10 (by kernel_rfl) (by kernel_rfl) ?_
          simp only [List.take_succ_cons, List.take_zero, List.drop_succ_cons, List.drop_zero]
          repeat still_step
          refine wpStill_nil ?_
          go_wp2_with fail
          case roundEnd =>
            go_roundw
            case rel => exact ⟨k + 1, by omega, by go_num, by rw [HTT.out, lessVs_step (by rw [H1.out]; exact hlt) (by rw [H2.out]; exact hlt) (by rw [HE.out, HE2.out]; exact vl_eq (by assumption) (by assumption) (by assumption))], bel_drew hbel, by go_simp, by go_simp⟩
            case measure => simp [intOf]; omega
          all_goals
            have hst : lessVs (l1.drop k) (l2.drop k) = lessV ⟨x, y, s⟩ ⟨x2, y2, s2⟩ := by
              rw [lessVs_stop (by rw [H1.out]; exact hlt) (by rw [H2.out]; exact hlt) (by rw [HE.out, HE2.out]; intro hh; simp only [Vl.mk.injEq] at hh; simp_all), HE.out, HE2.out]
            have HST := Lib.hid hst; clear hst
            refine wp_still 10 (by kernel_rfl) (by kernel_rfl) ?_
            simp only [List.take_succ_cons, List.take_zero, List.drop_succ_cons, List.drop_zero]
            repeat still_step
            refine wpStill_nil ?_
            go_wp2_with (go_at_call 54; refine (specLessVal_any _ _ _ _ _ _ _).mono ?_; rintro e w' ⟨rfl, hb⟩)
            go_ret
            exact ⟨ret_bool (by rw [HT.out, HTT.out, HST.out]; try simp_all), (by repeat (first | with_reducible exact bel_refl _ | with_reducible assumption | with_reducible refine bel_set ?_ (by first | (simp; done) | (simp; omega) | omega) _ | with_reducible refine bel_alloc ?_ _ | with_reducible refine bel_drew ?_ | with_reducible refine bel_drewN ?_ _ | with_reducible refine bel_trans ?_ (by assumption)))⟩
        · have hen := lessVs_end (l1 := l1) (l2 := l2) (k := k) (by rw [H1.out]; omega)
          have HEN := Lib.hid hen; clear hen
          go_wp2
          go_ret
          exact ⟨ret_bool (by rw [HT.out, HTT.out, HEN.out]), hbel⟩
    · have HT := Lib.hid (show lessF ⟨k1, l1⟩ ⟨k1, l2⟩ = decide ((n1 : Int) < (n2 : Int)) by unfold lessF; rw [if_neg (by simp), if_pos (by simp only; rw [hl1, hl2]; exact hnn)]; simp only; rw [hl1, hl2]; simp)
      go_enter Try.func24, Try.ntmps24
      go_wp2
      go_ret
      exact ⟨ret_bool (by rw [HT.out]; simp), (by repeat (first | with_reducible exact bel_refl _ | with_reducible assumption | with_reducible refine bel_set ?_ (by first | (simp; done) | (simp; omega) | omega) _ | with_reducible refine bel_alloc ?_ _ | with_reducible refine bel_drew ?_ | with_reducible refine bel_drewN ?_ _ | with_reducible refine bel_trans ?_ (by assumption)))⟩
  · have hkk : (k1.toList == k2.toList) = false := by rw [str_eq, decide_eq_false hk]
    have hkk2 : (!(k1.toList == k2.toList)) = true := by rw [hkk]; rfl
    have HT := Lib.hid (show lessF ⟨k1, l1⟩ ⟨k2, l2⟩ = lessS k1 k2 by unfold lessF; rw [if_pos (by simpa using hk)])
    clear hk
    go_enter Try.func24, Try.ntmps24
    go_wp2
    go_ret
    exact ⟨ret_bool (by rw [HT.out]; rfl), (by repeat (first | with_reducible exact bel_refl _ | with_reducible assumption | with_reducible refine bel_set ?_ (by first | (simp; done) | (simp; omega) | omega) _ | with_reducible refine bel_alloc ?_ _ | with_reducible refine bel_drew ?_ | with_reducible refine bel_drewN ?_ _ | with_reducible refine bel_trans ?_ (by assumption)))⟩
def or2 (a b : Int) : Int := if a ≠ 0 then a else b
theorem or_two (a b : Int) (w : World) (g : Nat) (h0 : w.cell? ⟨g, 0, none⟩ = some (.int .i64 a)) (h1 : w.cell? ⟨g, 1, none⟩ = some (.int .i64 b)) :
    Calls Try.prog 48 #[.slice (some ⟨g, 0, none⟩) 2 2] w fun e w' => e = .returned (.int .i64 (or2 a b)) ∧ w = w' := by
  go_enter Try.func48, Try.ntmps48
  go_wp2
  go_loop [8] (fun i => ∃ k : Nat, k ≤ 2 ∧ i = .int .i64 k ∧ (1 ≤ k → a = 0) ∧ (2 ≤ k → b = 0)) (fun i => 2 - (intOf i).toNat)
  case atStart => exact ⟨0, by omega, rfl, by omega, by omega⟩
  case round =>
    obtain ⟨k, hk, rfl, ha, hb⟩ := hrel
    have hk4 : k = 0 ∨ k = 1 ∨ k = 2 := by omega
    have HA := Lib.hid ha; clear ha
    have HB := Lib.hid hb; clear hb
    rcases hk4 with rfl | rfl | rfl
    · by_cases hz : a = 0
      · have hz' : (a != 0) = false := by simp [hz]
        have HZ := Lib.hid hz; clear hz
        go_wp2
        go_round
        case rel => exact ⟨1, by omega, by go_num, fun _ => HZ.out, by omega⟩
        case measure => simp [intOf]
      · have hz' : (a != 0) = true := by simp [hz]
        go_wp2
        go_ret
        exact ⟨ret_int (by unfold or2; rw [if_pos hz]), rfl⟩
    · have e0 := HA.out (by omega)
      have E0 := Lib.hid e0; clear e0
      by_cases hz : b = 0
      · have hz' : (b != 0) = false := by simp [hz]
        have HZ := Lib.hid hz; clear hz
        go_wp2
        go_round
        case rel => exact ⟨2, by omega, by go_num, fun _ => E0.out, fun _ => HZ.out⟩
        case measure => simp [intOf]
      · have hz' : (b != 0) = true := by simp [hz]
        go_wp2
        go_ret
        exact ⟨ret_int (by unfold or2; rw [E0.out, if_neg (by simp)]), rfl⟩
    · have e0 := HA.out (by omega)
      have e1 := HB.out (by omega)
      have E0 := Lib.hid e0; clear e0
      have E1 := Lib.hid e1; clear e1
      go_wp2
      go_ret
      exact ⟨ret_int (by unfold or2; rw [E0.out, E1.out, if_neg (by simp)]), rfl⟩
theorem compareFunc_any (A1 A2 : Option Addr) (n1 c1 c2 : Nat) (l1 l2 : List Vl) (w : World) (B B2 : Nat) (h1 : RdS vC 3 w B A1 n1 l1) (h2 : RdS vC 3 w B2 A2 n1 l2) (hn : n1 ≤ 4611686018427387904) :
    Calls Try.prog 51 #[.slice A1 n1 c1, .slice A2 n1 c2, .func (.func 52) #[] #[]] w fun e w' => e = .returned (.int .i64 (cmpVs l1 l2)) ∧ Below w.heap.size w w' := by
  have H1 := Lib.hid h1.len
  have H2 := Lib.hid h2.len
  have HT := Lib.hid (show cmpVs l1 l2 = cmpVs (l1.drop 0) (l2.drop 0) from rfl)
  go_enter Try.func51, Try.ntmps51
  go_wp2
  go_loopw [13] (fun i wr => ∃ k : Nat, k ≤ n1 ∧ i = .int .i64 k ∧ cmpVs (l1.drop 0) (l2.drop 0) = cmpVs (l1.drop k) (l2.drop k) ∧ Below w.heap.size w wr) (fun i _ => n1 - (intOf i).toNat)
  case atStart => exact ⟨0, Nat.zero_le _, rfl, rfl, bel_refl _⟩
  case round =>
    obtain ⟨k, hk, rfl, ht, hbel⟩ := hrel
    have HTT := Lib.hid ht; clear ht
    by_cases hlt : k < n1
    · obtain ⟨b1, o1, rfl, hb1, hc1⟩ := (h1.kept hbel).2.val (by omega)
      obtain ⟨b2, o2, rfl, hb2, hc2⟩ := (h2.kept hbel).2.val (by omega)
      obtain ⟨x, y, s, he, p0, p1, p2⟩ := hc1 k hlt
      obtain ⟨x2, y2, s2, he2, q0, q1, q2⟩ := hc2 k hlt
      have HE := Lib.hid he; clear he hc1
      have HE2 := Lib.hid he2; clear he2 hc2
      have hb2' : b2 < wr.heap.size := Nat.lt_of_lt_of_le hb2 (h2.kept hbel).1
      by_cases hz : cmpV ⟨x, y, s⟩ ⟨x2, y2, s2⟩ = 0
      · have hst : cmpVs (l1.drop k) (l2.drop k) = cmpVs (l1.drop (k + 1)) (l2.drop (k + 1)) := cmpVs_step (by rw [H1.out]; exact hlt) (by rw [H2.out]; exact hlt) (by rw [HE.out, HE2.out]; exact hz)
        have HST := Lib.hid hst; clear hst
        have HZ := Lib.hid hz; clear hz
        go_wp2_with (go_at_call 52; refine (compareVals_any _ _ _ _ _ _ _).mono ?_; rw [HZ.out]; rintro e w' ⟨rfl, hb⟩)
        go_roundw
        case rel => exact ⟨k + 1, by omega, by go_num, HTT.out.trans HST.out, bel_trans (bel_alloc (bel_alloc hbel _) _) hb⟩
        case measure => simp [intOf]; omega
      · have hst : cmpVs (l1.drop k) (l2.drop k) = cmpV ⟨x, y, s⟩ ⟨x2, y2, s2⟩ := by rw [cmpVs_stop (by rw [H1.out]; exact hlt) (by rw [H2.out]; exact hlt) (by rw [HE.out, HE2.out]; exact hz), HE.out, HE2.out]
        have HST := Lib.hid hst; clear hst
        obtain ⟨z, hz2⟩ : ∃ z, cmpV ⟨x, y, s⟩ ⟨x2, y2, s2⟩ = z := ⟨_, rfl⟩
        have hzz : (z != 0) = true := by rw [← hz2]; simpa using hz
        have HZ := Lib.hid hz2; clear hz2 hz
        go_wp2_with (go_at_call 52; refine (compareVals_any _ _ _ _ _ _ _).mono ?_; rw [HZ.out]; rintro e w' ⟨rfl, hb⟩)
        go_ret
        exact ⟨ret_int (by rw [HT.out, HTT.out, HST.out, HZ.out]), (by repeat (first | with_reducible exact bel_refl _ | with_reducible assumption | with_reducible refine bel_set ?_ (by first | (simp; done) | (simp; omega) | omega) _ | with_reducible refine bel_alloc ?_ _ | with_reducible refine bel_drew ?_ | with_reducible refine bel_drewN ?_ _ | with_reducible refine bel_trans ?_ (by assumption)))⟩
    · have hen := cmpVs_end (l1 := l1) (l2 := l2) (k := k) (by rw [H1.out]; omega)
      have HEN := Lib.hid hen; clear hen
      go_wp2
      go_ret
      exact ⟨ret_int (by rw [HT.out, HTT.out, HEN.out]), hbel⟩
theorem implLessFact_any (k1 k2 : ByteArray) (A1 A2 : Option Addr) (n1 c1 n2 c2 : Nat) (l1 l2 : List Vl) (w : World) (B B2 : Nat) (h1 : RdS vC 3 w B A1 n1 l1) (h2 : RdS vC 3 w B2 A2 n2 l2) (hn : n1 ≤ 4611686018427387904) (hn2 : n2 ≤ 4611686018427387904) :
    Calls Try.prog 22 #[.agg #[.string k1, .slice A1 n1 c1], .agg #[.string k2, .slice A2 n2 c2]] w fun e w' => e = .returned (.bool (lessF ⟨k1, l1⟩ ⟨k2, l2⟩)) ∧ Below w.heap.size w w' := by
  have hl1 := h1.len
  have hl2 := h2.len
  by_cases hz : or2 (cmpS k1 k2) (cmpI n1 n2) = 0
  · have hk : k1 = k2 ∧ n1 = n2 := by
      unfold or2 at hz
      by_cases hc : cmpS k1 k2 = 0
      · rw [if_neg (by simpa using hc)] at hz
        exact ⟨cmpS_zero.1 hc, by have := cmpI_zero.1 hz; omega⟩
      · rw [if_pos hc] at hz; exact absurd hz hc
    obtain ⟨rfl, rfl⟩ := hk
    have HT := Lib.hid (show decide (cmpVs l1 l2 < 0) = lessF ⟨k1, l1⟩ ⟨k1, l2⟩ by unfold lessF; rw [if_neg (by simp), if_neg (by simp only; rw [hl1, hl2]; simp)]; exact cmpVs_less _ _)
    have HZ := Lib.hid hz; clear hz hl1 hl2
    go_enter Try.func22, Try.ntmps22
    go_wp2
    refine wp_still 12 (by kernel_rfl) (by kernel_rfl) ?_
    simp only [List.take_succ_cons, List.take_zero, List.drop_succ_cons, List.drop_zero]
    repeat still_step
    still_call ((compare_str _ _ _).mono fun e w' h => ⟨h.1, h.2.symm⟩)
    repeat still_step
    still_call ((compare_int _ _ _).mono fun e w' h => ⟨h.1, h.2.symm⟩)
    repeat still_step
    refine wpStill_nil ?_
    go_wp2_with fail
    refine (or_two (cmpS k1 k1) (cmpI n1 n1) _ _ (by go_simp) (by go_simp)).mono ?_
    rw [HZ.out]
    rintro e w' ⟨rfl, rfl⟩
    go_wp2_with (go_at_call 51; refine (compareFunc_any A1 A2 n1 c1 c2 l1 l2 _ _ _ (((h1.alloc _).alloc _).alloc _).drew (((h2.alloc _).alloc _).alloc _).drew hn).mono ?_; rintro e w' ⟨rfl, hb⟩)
    go_ret
    exact ⟨ret_bool HT.out, (by repeat (first | with_reducible exact bel_refl _ | with_reducible assumption | with_reducible refine bel_set ?_ (by first | (simp; done) | (simp; omega) | omega) _ | with_reducible refine bel_alloc ?_ _ | with_reducible refine bel_drew ?_ | with_reducible refine bel_drewN ?_ _ | with_reducible refine bel_trans ?_ (by assumption)))⟩
  · have HT := Lib.hid (show decide (or2 (cmpS k1 k2) (cmpI n1 n2) < 0) = lessF ⟨k1, l1⟩ ⟨k2, l2⟩ by
      unfold or2 at hz ⊢
      unfold lessF
      by_cases hc : cmpS k1 k2 = 0
      · have := cmpS_zero.1 hc
        rw [if_neg (by simpa using hc)] at hz ⊢
        rw [if_neg (by simpa using this)]
        have hne : n1 ≠ n2 := fun e => hz (cmpI_zero.2 (by omega))
        rw [if_pos (by simp only; rw [hl1, hl2]; exact hne)]
        simp only
        rw [hl1, hl2]
        unfold cmpI
        by_cases h : n1 < n2
        · rw [if_pos (by omega)]; simp [h]
        · rw [if_neg (by omega), if_pos (by omega)]; simp [h]
      · rw [if_pos hc, if_pos (fun e => hc (cmpS_zero.2 e)), cmpS_less])
    obtain ⟨z, hz2⟩ : ∃ z, or2 (cmpS k1 k2) (cmpI n1 n2) = z := ⟨_, rfl⟩
    have hzz : (z == 0) = false := by rw [← hz2]; simpa using hz
    have HZ := Lib.hid hz2; clear hz2 hz hl1 hl2
    go_enter Try.func22, Try.ntmps22
    go_wp2
    refine wp_still 12 (by kernel_rfl) (by kernel_rfl) ?_
    simp only [List.take_succ_cons, List.take_zero, List.drop_succ_cons, List.drop_zero]
    repeat still_step
    still_call ((compare_str _ _ _).mono fun e w' h => ⟨h.1, h.2.symm⟩)
    repeat still_step
    still_call ((compare_int _ _ _).mono fun e w' h => ⟨h.1, h.2.symm⟩)
    repeat still_step
    refine wpStill_nil ?_
    go_wp2_with fail
    refine (or_two (cmpS k1 k2) (cmpI n1 n2) _ _ (by go_simp) (by go_simp)).mono ?_
    rw [HZ.out]
    rintro e w' ⟨rfl, rfl⟩
    go_wp2
    go_ret
    exact ⟨ret_bool (by rw [← HT.out, HZ.out]), (by repeat (first | with_reducible exact bel_refl _ | with_reducible assumption | with_reducible refine bel_set ?_ (by first | (simp; done) | (simp; omega) | omega) _ | with_reducible refine bel_alloc ?_ _ | with_reducible refine bel_drew ?_ | with_reducible refine bel_drewN ?_ _ | with_reducible refine bel_trans ?_ (by assumption)))⟩
end Go.Proofs.Ytpejngdcbhbchaa
