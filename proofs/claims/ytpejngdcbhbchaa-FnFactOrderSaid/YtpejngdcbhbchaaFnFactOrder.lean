/- The law FnFactOrder returns true at every input, and leaves what it was given as it was. No condition. -/
import Derived.Test.YtpejngdcbhbchaaPlainFact
import Derived.Test.YtpejngdcbhbchaaFact3
import Derived.Test.YtpejngdcbhbchaaDraw3b
import Derived.Test.YtpejngdcbhbchaaAt
import Derived.Test.YtpejngdcbhbchaaRows
import Derived.Test.YtpejngdcbhbchaaRead
namespace Go.Proofs.Ytpejngdcbhbchaa.fnFactOrder
open Go.ChangeShapes Go.WideShapes Go.ChangeAt Go.RowKit
open Go.ChangeMaps (open_string shut_string)
set_option linter.unusedVariables false
set_option maxRecDepth 100000
set_option maxHeartbeats 20000000

theorem walk (A : Option Addr) (n c : Nat) (code : List UInt8) (W : World) (hs : n ≤ c ∧ c ≤ maxLen ∧ RdB W W.heap.size A n code) :
    Calls Try.prog 5 #[.slice A n c] W fun e w' => e = .returned (.bool true) ∧ Below W.heap.size W w' := by
  obtain ⟨hnc, _, hr⟩ := hs
  by_cases hbig : (1048576 : Int) < n
  · go_enter Try.func5, Try.ntmps5
    go_wp2_with fail
    refine (big_any _ _ _ _).mono ?_
    rw [decide_eq_true hbig]
    rintro e w' ⟨rfl, rfl⟩
    go_wp2
    go_ret
    exact ⟨rfl, Below.refl _ _⟩
  · go_enter Try.func5, Try.ntmps5
    go_wp2_with fail
    refine (big_any _ _ _ _).mono ?_
    rw [decide_eq_false (by omega)]
    rintro e w' ⟨rfl, rfl⟩
    go_wp2_with fail
    refine (DrawThree_any A n c code W _ hr (Nat.le_refl _) (by omega)).mono ?_
    rintro e w1 ⟨k1, A1, c1, l1, k2, A2, c2, l2, k3, A3, c3, l3, ⟨hl1, hl2, hl3⟩, rfl, ⟨r1, r2, r3⟩, gW⟩
    have tri := lessF_tri ⟨k1, l1⟩ ⟨k2, l2⟩
    rcases tri with ⟨h1, h2, h3⟩ | ⟨h1, h2, h3⟩ | ⟨h3, h1⟩
    · have H1 := Lib.hid h1; have H2 := Lib.hid h2; have H3 := Lib.hid (decide_eq_false h3); clear h2 h3
      obtain ⟨z, hz⟩ : ∃ z, lessF ⟨k2, l2⟩ ⟨k3, l3⟩ = z := ⟨_, rfl⟩
      cases z
      · have H4 := Lib.hid hz; clear hz h1
        go_wp2_with fail
        refine (implLessFact_any k1 k2 A1 A2 _ c1 _ c2 l1 l2 _ w1.heap.size w1.heap.size (by repeat (first | with_reducible assumption | with_reducible refine RdS.alloc ?_ _ | with_reducible refine RdS.drew ?_ | with_reducible refine RdS.drewN ?_ _ | with_reducible refine RdS.setCell ?_ (by first | (simp; done) | (simp; omega) | omega) _)) (by repeat (first | with_reducible assumption | with_reducible refine RdS.alloc ?_ _ | with_reducible refine RdS.drew ?_ | with_reducible refine RdS.drewN ?_ _ | with_reducible refine RdS.setCell ?_ (by first | (simp; done) | (simp; omega) | omega) _)) (by omega) (by omega)).mono ?_
        rw [H1.out]
        rintro e w2 ⟨rfl, hb⟩
        have g_2 : Below w1.heap.size w1 w2 := (by repeat (first | with_reducible exact bel_refl _ | with_reducible assumption | with_reducible refine bel_set ?_ (by first | (simp; done) | (simp; omega) | omega) _ | with_reducible refine bel_alloc ?_ _ | with_reducible refine bel_drew ?_ | with_reducible refine bel_drewN ?_ _ | with_reducible refine bel_trans ?_ (by assumption)))
        have b1_0 := old_cell hb (b := w1.heap.size) (o := 0) (v := .string k1) (by go_simp)
        have b1_1 := old_cell hb (b := w1.heap.size) (o := 1) (v := .slice A1 l1.length c1) (by go_simp)
        replace r1 := r1.kept g_2
        have b2_0 := old_cell hb (b := w1.heap.size + 1) (o := 0) (v := .string k2) (by go_simp)
        have b2_1 := old_cell hb (b := w1.heap.size + 1) (o := 1) (v := .slice A2 l2.length c2) (by go_simp)
        replace r2 := r2.kept g_2
        have b3_0 := old_cell hb (b := w1.heap.size + 1 + 1) (o := 0) (v := .string k3) (by go_simp)
        have b3_1 := old_cell hb (b := w1.heap.size + 1 + 1) (o := 1) (v := .slice A3 l3.length c3) (by go_simp)
        replace r3 := r3.kept g_2
        replace gW := bel_trans gW g_2
        clear hb g_2
        go_wp2_with fail
        refine (implLessFact_any k2 k1 A2 A1 _ c2 _ c1 l2 l1 _ w1.heap.size w1.heap.size r2 r1 (by omega) (by omega)).mono ?_
        rw [H2.out]
        rintro e w3 ⟨rfl, hb⟩
        replace b1_0 := old_cell hb b1_0
        replace b1_1 := old_cell hb b1_1
        replace r1 := r1.kept hb
        replace b2_0 := old_cell hb b2_0
        replace b2_1 := old_cell hb b2_1
        replace r2 := r2.kept hb
        replace b3_0 := old_cell hb b3_0
        replace b3_1 := old_cell hb b3_1
        replace r3 := r3.kept hb
        replace gW := bel_trans gW hb
        clear hb
        go_wp2_with fail
        refine (implSameFact_any k1 k2 A1 A2 _ c1 _ c2 l1 l2 _ w1.heap.size w1.heap.size r1 r2 (by omega)).mono ?_
        rw [H3.out]
        rintro e w4 ⟨rfl, hb⟩
        replace b1_0 := old_cell hb b1_0
        replace b1_1 := old_cell hb b1_1
        replace r1 := r1.kept hb
        replace b2_0 := old_cell hb b2_0
        replace b2_1 := old_cell hb b2_1
        replace r2 := r2.kept hb
        replace b3_0 := old_cell hb b3_0
        replace b3_1 := old_cell hb b3_1
        replace r3 := r3.kept hb
        replace gW := bel_trans gW hb
        clear hb
        go_wp2_with fail
        refine (specLessFact_any k1 k2 A1 A2 _ c1 _ c2 l1 l2 _ w1.heap.size w1.heap.size r1 r2 (by omega) (by omega)).mono ?_
        rw [H1.out]
        rintro e w5 ⟨rfl, hb⟩
        replace b1_0 := old_cell hb b1_0
        replace b1_1 := old_cell hb b1_1
        replace r1 := r1.kept hb
        replace b2_0 := old_cell hb b2_0
        replace b2_1 := old_cell hb b2_1
        replace r2 := r2.kept hb
        replace b3_0 := old_cell hb b3_0
        replace b3_1 := old_cell hb b3_1
        replace r3 := r3.kept hb
        replace gW := bel_trans gW hb
        clear hb
        go_wp2_with fail
        refine (implLessFact_any k2 k3 A2 A3 _ c2 _ c3 l2 l3 _ w1.heap.size w1.heap.size r2 r3 (by omega) (by omega)).mono ?_
        rw [H4.out]
        rintro e w6 ⟨rfl, hb⟩
        replace b1_0 := old_cell hb b1_0
        replace b1_1 := old_cell hb b1_1
        replace r1 := r1.kept hb
        replace b2_0 := old_cell hb b2_0
        replace b2_1 := old_cell hb b2_1
        replace r2 := r2.kept hb
        replace b3_0 := old_cell hb b3_0
        replace b3_1 := old_cell hb b3_1
        replace r3 := r3.kept hb
        replace gW := bel_trans gW hb
        clear hb
        go_wp2
        go_ret
        exact ⟨rfl, gW⟩
      · have H5 := Lib.hid (lessF_trans h1 hz)
        have H4 := Lib.hid hz; clear hz h1
        go_wp2_with fail
        refine (implLessFact_any k1 k2 A1 A2 _ c1 _ c2 l1 l2 _ w1.heap.size w1.heap.size (by repeat (first | with_reducible assumption | with_reducible refine RdS.alloc ?_ _ | with_reducible refine RdS.drew ?_ | with_reducible refine RdS.drewN ?_ _ | with_reducible refine RdS.setCell ?_ (by first | (simp; done) | (simp; omega) | omega) _)) (by repeat (first | with_reducible assumption | with_reducible refine RdS.alloc ?_ _ | with_reducible refine RdS.drew ?_ | with_reducible refine RdS.drewN ?_ _ | with_reducible refine RdS.setCell ?_ (by first | (simp; done) | (simp; omega) | omega) _)) (by omega) (by omega)).mono ?_
        rw [H1.out]
        rintro e w2 ⟨rfl, hb⟩
        have g_2 : Below w1.heap.size w1 w2 := (by repeat (first | with_reducible exact bel_refl _ | with_reducible assumption | with_reducible refine bel_set ?_ (by first | (simp; done) | (simp; omega) | omega) _ | with_reducible refine bel_alloc ?_ _ | with_reducible refine bel_drew ?_ | with_reducible refine bel_drewN ?_ _ | with_reducible refine bel_trans ?_ (by assumption)))
        have b1_0 := old_cell hb (b := w1.heap.size) (o := 0) (v := .string k1) (by go_simp)
        have b1_1 := old_cell hb (b := w1.heap.size) (o := 1) (v := .slice A1 l1.length c1) (by go_simp)
        replace r1 := r1.kept g_2
        have b2_0 := old_cell hb (b := w1.heap.size + 1) (o := 0) (v := .string k2) (by go_simp)
        have b2_1 := old_cell hb (b := w1.heap.size + 1) (o := 1) (v := .slice A2 l2.length c2) (by go_simp)
        replace r2 := r2.kept g_2
        have b3_0 := old_cell hb (b := w1.heap.size + 1 + 1) (o := 0) (v := .string k3) (by go_simp)
        have b3_1 := old_cell hb (b := w1.heap.size + 1 + 1) (o := 1) (v := .slice A3 l3.length c3) (by go_simp)
        replace r3 := r3.kept g_2
        replace gW := bel_trans gW g_2
        clear hb g_2
        go_wp2_with fail
        refine (implLessFact_any k2 k1 A2 A1 _ c2 _ c1 l2 l1 _ w1.heap.size w1.heap.size r2 r1 (by omega) (by omega)).mono ?_
        rw [H2.out]
        rintro e w3 ⟨rfl, hb⟩
        replace b1_0 := old_cell hb b1_0
        replace b1_1 := old_cell hb b1_1
        replace r1 := r1.kept hb
        replace b2_0 := old_cell hb b2_0
        replace b2_1 := old_cell hb b2_1
        replace r2 := r2.kept hb
        replace b3_0 := old_cell hb b3_0
        replace b3_1 := old_cell hb b3_1
        replace r3 := r3.kept hb
        replace gW := bel_trans gW hb
        clear hb
        go_wp2_with fail
        refine (implSameFact_any k1 k2 A1 A2 _ c1 _ c2 l1 l2 _ w1.heap.size w1.heap.size r1 r2 (by omega)).mono ?_
        rw [H3.out]
        rintro e w4 ⟨rfl, hb⟩
        replace b1_0 := old_cell hb b1_0
        replace b1_1 := old_cell hb b1_1
        replace r1 := r1.kept hb
        replace b2_0 := old_cell hb b2_0
        replace b2_1 := old_cell hb b2_1
        replace r2 := r2.kept hb
        replace b3_0 := old_cell hb b3_0
        replace b3_1 := old_cell hb b3_1
        replace r3 := r3.kept hb
        replace gW := bel_trans gW hb
        clear hb
        go_wp2_with fail
        refine (specLessFact_any k1 k2 A1 A2 _ c1 _ c2 l1 l2 _ w1.heap.size w1.heap.size r1 r2 (by omega) (by omega)).mono ?_
        rw [H1.out]
        rintro e w5 ⟨rfl, hb⟩
        replace b1_0 := old_cell hb b1_0
        replace b1_1 := old_cell hb b1_1
        replace r1 := r1.kept hb
        replace b2_0 := old_cell hb b2_0
        replace b2_1 := old_cell hb b2_1
        replace r2 := r2.kept hb
        replace b3_0 := old_cell hb b3_0
        replace b3_1 := old_cell hb b3_1
        replace r3 := r3.kept hb
        replace gW := bel_trans gW hb
        clear hb
        go_wp2_with fail
        refine (implLessFact_any k2 k3 A2 A3 _ c2 _ c3 l2 l3 _ w1.heap.size w1.heap.size r2 r3 (by omega) (by omega)).mono ?_
        rw [H4.out]
        rintro e w6 ⟨rfl, hb⟩
        replace b1_0 := old_cell hb b1_0
        replace b1_1 := old_cell hb b1_1
        replace r1 := r1.kept hb
        replace b2_0 := old_cell hb b2_0
        replace b2_1 := old_cell hb b2_1
        replace r2 := r2.kept hb
        replace b3_0 := old_cell hb b3_0
        replace b3_1 := old_cell hb b3_1
        replace r3 := r3.kept hb
        replace gW := bel_trans gW hb
        clear hb
        go_wp2_with fail
        refine (implLessFact_any k1 k3 A1 A3 _ c1 _ c3 l1 l3 _ w1.heap.size w1.heap.size r1 r3 (by omega) (by omega)).mono ?_
        rw [H5.out]
        rintro e w7 ⟨rfl, hb⟩
        replace b1_0 := old_cell hb b1_0
        replace b1_1 := old_cell hb b1_1
        replace r1 := r1.kept hb
        replace b2_0 := old_cell hb b2_0
        replace b2_1 := old_cell hb b2_1
        replace r2 := r2.kept hb
        replace b3_0 := old_cell hb b3_0
        replace b3_1 := old_cell hb b3_1
        replace r3 := r3.kept hb
        replace gW := bel_trans gW hb
        clear hb
        go_wp2
        go_ret
        exact ⟨rfl, gW⟩
    · have H1 := Lib.hid h1; have H2 := Lib.hid h2; have H3 := Lib.hid (decide_eq_false h3); clear h1 h2 h3
      go_wp2_with fail
      refine (implLessFact_any k1 k2 A1 A2 _ c1 _ c2 l1 l2 _ w1.heap.size w1.heap.size (by repeat (first | with_reducible assumption | with_reducible refine RdS.alloc ?_ _ | with_reducible refine RdS.drew ?_ | with_reducible refine RdS.drewN ?_ _ | with_reducible refine RdS.setCell ?_ (by first | (simp; done) | (simp; omega) | omega) _)) (by repeat (first | with_reducible assumption | with_reducible refine RdS.alloc ?_ _ | with_reducible refine RdS.drew ?_ | with_reducible refine RdS.drewN ?_ _ | with_reducible refine RdS.setCell ?_ (by first | (simp; done) | (simp; omega) | omega) _)) (by omega) (by omega)).mono ?_
      rw [H1.out]
      rintro e w2 ⟨rfl, hb⟩
      have g_2 : Below w1.heap.size w1 w2 := (by repeat (first | with_reducible exact bel_refl _ | with_reducible assumption | with_reducible refine bel_set ?_ (by first | (simp; done) | (simp; omega) | omega) _ | with_reducible refine bel_alloc ?_ _ | with_reducible refine bel_drew ?_ | with_reducible refine bel_drewN ?_ _ | with_reducible refine bel_trans ?_ (by assumption)))
      have b1_0 := old_cell hb (b := w1.heap.size) (o := 0) (v := .string k1) (by go_simp)
      have b1_1 := old_cell hb (b := w1.heap.size) (o := 1) (v := .slice A1 l1.length c1) (by go_simp)
      replace r1 := r1.kept g_2
      have b2_0 := old_cell hb (b := w1.heap.size + 1) (o := 0) (v := .string k2) (by go_simp)
      have b2_1 := old_cell hb (b := w1.heap.size + 1) (o := 1) (v := .slice A2 l2.length c2) (by go_simp)
      replace r2 := r2.kept g_2
      have b3_0 := old_cell hb (b := w1.heap.size + 1 + 1) (o := 0) (v := .string k3) (by go_simp)
      have b3_1 := old_cell hb (b := w1.heap.size + 1 + 1) (o := 1) (v := .slice A3 l3.length c3) (by go_simp)
      replace r3 := r3.kept g_2
      replace gW := bel_trans gW g_2
      clear hb g_2
      go_wp2_with fail
      refine (implLessFact_any k2 k1 A2 A1 _ c2 _ c1 l2 l1 _ w1.heap.size w1.heap.size r2 r1 (by omega) (by omega)).mono ?_
      rw [H2.out]
      rintro e w3 ⟨rfl, hb⟩
      replace b1_0 := old_cell hb b1_0
      replace b1_1 := old_cell hb b1_1
      replace r1 := r1.kept hb
      replace b2_0 := old_cell hb b2_0
      replace b2_1 := old_cell hb b2_1
      replace r2 := r2.kept hb
      replace b3_0 := old_cell hb b3_0
      replace b3_1 := old_cell hb b3_1
      replace r3 := r3.kept hb
      replace gW := bel_trans gW hb
      clear hb
      go_wp2_with fail
      refine (implSameFact_any k1 k2 A1 A2 _ c1 _ c2 l1 l2 _ w1.heap.size w1.heap.size r1 r2 (by omega)).mono ?_
      rw [H3.out]
      rintro e w4 ⟨rfl, hb⟩
      replace b1_0 := old_cell hb b1_0
      replace b1_1 := old_cell hb b1_1
      replace r1 := r1.kept hb
      replace b2_0 := old_cell hb b2_0
      replace b2_1 := old_cell hb b2_1
      replace r2 := r2.kept hb
      replace b3_0 := old_cell hb b3_0
      replace b3_1 := old_cell hb b3_1
      replace r3 := r3.kept hb
      replace gW := bel_trans gW hb
      clear hb
      go_wp2_with fail
      refine (specLessFact_any k1 k2 A1 A2 _ c1 _ c2 l1 l2 _ w1.heap.size w1.heap.size r1 r2 (by omega) (by omega)).mono ?_
      rw [H1.out]
      rintro e w5 ⟨rfl, hb⟩
      replace b1_0 := old_cell hb b1_0
      replace b1_1 := old_cell hb b1_1
      replace r1 := r1.kept hb
      replace b2_0 := old_cell hb b2_0
      replace b2_1 := old_cell hb b2_1
      replace r2 := r2.kept hb
      replace b3_0 := old_cell hb b3_0
      replace b3_1 := old_cell hb b3_1
      replace r3 := r3.kept hb
      replace gW := bel_trans gW hb
      clear hb
      go_wp2
      go_ret
      exact ⟨rfl, gW⟩
    · have H1 := Lib.hid h1
      have H2 := Lib.hid (show lessF ⟨k2, l2⟩ ⟨k1, l1⟩ = false by rw [← h3]; rw [← h3] at h1; exact h1)
      have H3 := Lib.hid (decide_eq_true h3); clear h1 h3
      go_wp2_with fail
      refine (implLessFact_any k1 k2 A1 A2 _ c1 _ c2 l1 l2 _ w1.heap.size w1.heap.size (by repeat (first | with_reducible assumption | with_reducible refine RdS.alloc ?_ _ | with_reducible refine RdS.drew ?_ | with_reducible refine RdS.drewN ?_ _ | with_reducible refine RdS.setCell ?_ (by first | (simp; done) | (simp; omega) | omega) _)) (by repeat (first | with_reducible assumption | with_reducible refine RdS.alloc ?_ _ | with_reducible refine RdS.drew ?_ | with_reducible refine RdS.drewN ?_ _ | with_reducible refine RdS.setCell ?_ (by first | (simp; done) | (simp; omega) | omega) _)) (by omega) (by omega)).mono ?_
      rw [H1.out]
      rintro e w2 ⟨rfl, hb⟩
      have g_2 : Below w1.heap.size w1 w2 := (by repeat (first | with_reducible exact bel_refl _ | with_reducible assumption | with_reducible refine bel_set ?_ (by first | (simp; done) | (simp; omega) | omega) _ | with_reducible refine bel_alloc ?_ _ | with_reducible refine bel_drew ?_ | with_reducible refine bel_drewN ?_ _ | with_reducible refine bel_trans ?_ (by assumption)))
      have b1_0 := old_cell hb (b := w1.heap.size) (o := 0) (v := .string k1) (by go_simp)
      have b1_1 := old_cell hb (b := w1.heap.size) (o := 1) (v := .slice A1 l1.length c1) (by go_simp)
      replace r1 := r1.kept g_2
      have b2_0 := old_cell hb (b := w1.heap.size + 1) (o := 0) (v := .string k2) (by go_simp)
      have b2_1 := old_cell hb (b := w1.heap.size + 1) (o := 1) (v := .slice A2 l2.length c2) (by go_simp)
      replace r2 := r2.kept g_2
      have b3_0 := old_cell hb (b := w1.heap.size + 1 + 1) (o := 0) (v := .string k3) (by go_simp)
      have b3_1 := old_cell hb (b := w1.heap.size + 1 + 1) (o := 1) (v := .slice A3 l3.length c3) (by go_simp)
      replace r3 := r3.kept g_2
      replace gW := bel_trans gW g_2
      clear hb g_2
      go_wp2_with fail
      refine (implLessFact_any k2 k1 A2 A1 _ c2 _ c1 l2 l1 _ w1.heap.size w1.heap.size r2 r1 (by omega) (by omega)).mono ?_
      rw [H2.out]
      rintro e w3 ⟨rfl, hb⟩
      replace b1_0 := old_cell hb b1_0
      replace b1_1 := old_cell hb b1_1
      replace r1 := r1.kept hb
      replace b2_0 := old_cell hb b2_0
      replace b2_1 := old_cell hb b2_1
      replace r2 := r2.kept hb
      replace b3_0 := old_cell hb b3_0
      replace b3_1 := old_cell hb b3_1
      replace r3 := r3.kept hb
      replace gW := bel_trans gW hb
      clear hb
      go_wp2_with fail
      refine (implSameFact_any k1 k2 A1 A2 _ c1 _ c2 l1 l2 _ w1.heap.size w1.heap.size r1 r2 (by omega)).mono ?_
      rw [H3.out]
      rintro e w4 ⟨rfl, hb⟩
      replace b1_0 := old_cell hb b1_0
      replace b1_1 := old_cell hb b1_1
      replace r1 := r1.kept hb
      replace b2_0 := old_cell hb b2_0
      replace b2_1 := old_cell hb b2_1
      replace r2 := r2.kept hb
      replace b3_0 := old_cell hb b3_0
      replace b3_1 := old_cell hb b3_1
      replace r3 := r3.kept hb
      replace gW := bel_trans gW hb
      clear hb
      go_wp2_with fail
      refine (specLessFact_any k1 k2 A1 A2 _ c1 _ c2 l1 l2 _ w1.heap.size w1.heap.size r1 r2 (by omega) (by omega)).mono ?_
      rw [H1.out]
      rintro e w5 ⟨rfl, hb⟩
      replace b1_0 := old_cell hb b1_0
      replace b1_1 := old_cell hb b1_1
      replace r1 := r1.kept hb
      replace b2_0 := old_cell hb b2_0
      replace b2_1 := old_cell hb b2_1
      replace r2 := r2.kept hb
      replace b3_0 := old_cell hb b3_0
      replace b3_1 := old_cell hb b3_1
      replace r3 := r3.kept hb
      replace gW := bel_trans gW hb
      clear hb
      go_wp2
      go_ret
      exact ⟨rfl, gW⟩

theorem own : ownKnob Try.prog.godebug = none := by kernel_rfl
theorem laidOut : laidOutB Try.prog = true := by kernel_rfl
theorem lifted (os : Os) (started : os.Started) (H : Type) (enc : TypeId × Value → H) :
    ReturnsInHanded {} Try.checked os 5 .any (Rows.fnFactOrderSpec.pre6 enc Try.prog Try.f5 Rows.fnFactOrderRow.domain false) (Rows.fnFactOrderSpec.post enc Try.prog Try.f5 false true false false) := by
  refine returnsInHanded_of_change (C := Try.checked) own started (by kernel_rfl) Try.func5
    (ChangeSpec.witness6 (enc := enc) (C := Try.checked) false ⟨#[], #[.slice none 0 0], []⟩ 8 (by kernel_rfl) (by kernel_rfl) (by kernel_rfl) (by kernel_rfl)) ?_
  intro W base args ds gs before hval0 hW hcnd _
  have hval : ∀ (j : Nat) t v, Try.f5.params[j]? = some t → args[j]? = some v → Value.okWide Try.prog W .any base t v := hval0
  have hW' := hW
  obtain ⟨p, q, hA0, hV, rfl, hfz, hnd⟩ := hW
  have hA : DataW.TrodAll enc Try.prog W 0 (fun _ => true) true Try.f5.params.toList args.toList ds p := hA0
  rw [Try.params5] at hA hval
  obtain ⟨v0, vs0, d0, ds0, p0, q0, hargs, rfl, rfl, h0, r0⟩ := trodAll_cons hA
  obtain ⟨rfl, rfl, rfl⟩ := trodAll_nil r0
  obtain rfl : args = #[v0] := by cases args; simp_all
  obtain ⟨rfl, rfl⟩ := trodVars_none hV
  have lt0 : ∀ x ∈ p0, x.block < W.heap.size := by obtain ⟨m, hm⟩ := h0; exact DataW.trod_lt m _ _ _ hm
  obtain ⟨A0, n0, c0, b0, hv0, hs0⟩ := open_bytes Try.underlying22 Try.underlying5 (by kernel_rfl) (hval 0 22 v0 rfl rfl) h0
  subst hv0
  clear hA0 hval0
  refine (walk A0 n0 c0 b0 W hs0).mono fun e W' ⟨he, bel⟩ => ?_
  subst he
  exact ⟨_, rfl, _, _, _, [], _, [], hW', trodAll_mk1 (shut_bool Try.underlying4 _), (trodAll_cons_mk (Below.trod laidOut (by kernel_rfl) (of_decide_eq_true (by kernel_rfl)) h0 bel lt0) trodAll_mk0), rfl, bel.frame _, fun h => by cases h⟩
theorem over : Rows.fnFactOrderRow.holds Try.pinned (OpenSpec.ofChange Rows.fnFactOrderSpec) :=
  OpenClaim.holds_of_wide 5 Try.f5 rfl rfl rfl rfl rfl rfl rfl ⟨rfl, rfl, rfl, rfl, rfl⟩ rfl rfl rfl rfl rfl (by kernel_rfl) Try.func5 (by kernel_rfl)
    (of_decide_eq_true (by kernel_rfl)) (by unfold Func.isWrapper; first | (rw [if_pos (by decide +kernel)]; kernel_rfl) | (rw [if_neg (by decide +kernel)]; exact ⟨rfl, rfl⟩))
    (fun os started H enc _ => lifted os started H enc)
theorem proved : Rows.FnFactOrderSaid := over
end Go.Proofs.Ytpejngdcbhbchaa.fnFactOrder
