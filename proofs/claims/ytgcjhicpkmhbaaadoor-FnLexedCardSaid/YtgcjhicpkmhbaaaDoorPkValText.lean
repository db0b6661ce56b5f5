import Derived.Test.YtgcjhicpkmhbaaaDoorPkNumT
import Derived.Test.YtgcjhicpkmhbaaaDoorShelfT
import Derived.Test.YtgcjhicpkmhbaaaDoorDoorT
import Derived.Test.YtgcjhicpkmhbaaaDoorTokenOk
/- Texts of values and tokens, of the program and of the reference. Each answers what the plain function says and makes at most new blocks. Conditions: lengths; the library's table of powers of ten is as its text lays it. -/
namespace Go.Proofs.YtgcjhicpkmhbaaaDoor
open Go.RowKit
set_option maxRecDepth 100000
set_option maxHeartbeats 4000000
def quoteT (s : ByteArray) : ByteArray := (⟨#[39]⟩ ++ s) ++ ⟨#[39]⟩
def rawText (v : Vl) : ByteArray := if v.k = 1 then numT v.n else quoteT v.s
def valText (v : Vl) : ByteArray := if valOk v then rawText v else ⟨#[]⟩
def tokenText (t : Vl) : ByteArray := if tokenOk t then (if t.k = 1 then numT t.n else if t.k = 4 then quoteT t.s else t.s) else ⟨#[]⟩
theorem grow_below {w : World} (k : Nat) (os : Array Obj) : Below w.heap.size w (Go.Sort.grow (w.drewN k) os) :=
  ⟨rfl, rfl, rfl, by simp [Go.Sort.grow, World.drewN], fun i hi => by simp [Go.Sort.grow, World.drewN, Array.getElem?_append, hi]⟩
theorem itoa_any (n : Int) (w : World) (ht : TabT w) (h0 : -1000000000 ≤ n) (h1 : n ≤ 1000000000) : Calls Tryd.prog 34 #[.int .i64 n] w fun e w' => e = .returned (.string (numT n)) ∧ Below w.heap.size w w' := by
  refine (Tryd.strconv_Itoa n (by omega) (by omega) w ht).mono ?_
  rintro e w' ⟨rfl, k, os, rfl⟩
  exact ⟨rfl, grow_below k os⟩
theorem valOk_num {k n : Int} {s : ByteArray} (h : valOk ⟨k, n, s⟩ = true) (hk : k = 1) : -1000000000 ≤ n ∧ n ≤ 1000000000 := by
  subst hk
  simp [valOk, inB] at h
  omega
theorem tokenOk_num {k n : Int} {s : ByteArray} (h : tokenOk ⟨k, n, s⟩ = true) (hk : k = 1) : -1000000000 ≤ n ∧ n ≤ 1000000000 := by
  subst hk
  simp [tokenOk, inB] at h
  omega
theorem word_len {s : ByteArray} {m : Int} (h : word s m = true) : (s.size : Int) ≤ m := by
  unfold word at h
  simp at h
  omega
theorem valOk_len {k n : Int} {s : ByteArray} (h : valOk ⟨k, n, s⟩ = true) : s.size ≤ 20 := by
  unfold valOk at h
  simp only at h
  split at h
  · simp only [Bool.and_eq_true, decide_eq_true_eq] at h; omega
  · split at h
    · simp at h; have := word_len h.2; omega
    · cases h
theorem tokenOk_len {k n : Int} {s : ByteArray} (h : tokenOk ⟨k, n, s⟩ = true) (hk : k = 4) : s.size ≤ 20 := by
  subst hk
  simp [tokenOk] at h
  have := word_len h.2
  omega
theorem specTokenText_any (k n : Int) (s : ByteArray) (w : World) (hs : s.size ≤ 9223372036854775807) :
    Calls Tryd.prog 62 #[.agg #[.int .i64 k, .int .i64 n, .string s]] w fun e w' => e = .returned (.string (tokenText ⟨k, n, s⟩)) ∧ Below w.heap.size w w' := by
  obtain ⟨r, hr⟩ : ∃ r, tokenOk ⟨k, n, s⟩ = r := ⟨_, rfl⟩
  have HR := Lib.hid hr
  cases r
  · clear hr
    go_enter Tryd.func62, Tryd.ntmps62
    go_wp2_with fail
    refine (specTokenOk_any k n s _ hs).mono ?_
    rw [HR.out]
    rintro e w1 ⟨rfl, hb⟩
    go_wp2
    go_ret
    exact ⟨ret_str (by simp [tokenText, HR.out]), (by repeat (first | with_reducible exact bel_refl _ | with_reducible assumption | with_reducible refine bel_set ?_ (by first | (simp; done) | (simp; omega) | omega) _ | with_reducible refine bel_alloc ?_ _ | with_reducible refine bel_drew ?_ | with_reducible refine bel_drewN ?_ _ | with_reducible refine bel_trans ?_ (by assumption)))⟩
  · have hn := tokenOk_num hr
    have HN := Lib.hid hn; clear hn
    have hz := tokenOk_len hr
    clear hr
    go_enter Tryd.func62, Tryd.ntmps62
    go_wp2_with fail
    refine (specTokenOk_any k n s _ hs).mono ?_
    rw [HR.out]
    rintro e w1 ⟨rfl, hb⟩
    have g1 : Below w.heap.size w w1 := (by repeat (first | with_reducible exact bel_refl _ | with_reducible assumption | with_reducible refine bel_set ?_ (by first | (simp; done) | (simp; omega) | omega) _ | with_reducible refine bel_alloc ?_ _ | with_reducible refine bel_drew ?_ | with_reducible refine bel_drewN ?_ _ | with_reducible refine bel_trans ?_ (by assumption)))
    have c0 := old_cell hb (b := w.heap.size) (o := 0) (v := .int .i64 k) (by go_simp)
    have c1 := old_cell hb (b := w.heap.size) (o := 1) (v := .int .i64 n) (by go_simp)
    have c2 := old_cell hb (b := w.heap.size) (o := 2) (v := .string s) (by go_simp)
    clear hb
    by_cases hk : k = 1
    · obtain ⟨h0, h1⟩ := HN.out hk
      subst hk
      clear HN hz
      go_wp2_with fail
      refine (l2Num_any n _ h0 h1).mono ?_
      rintro e w2 ⟨rfl, hb⟩
      go_wp2
      go_ret
      exact ⟨ret_str (by simp [tokenText, HR.out]), (by repeat (first | with_reducible exact bel_refl _ | with_reducible assumption | with_reducible refine bel_set ?_ (by first | (simp; done) | (simp; omega) | omega) _ | with_reducible refine bel_alloc ?_ _ | with_reducible refine bel_drew ?_ | with_reducible refine bel_drewN ?_ _ | with_reducible refine bel_trans ?_ (by assumption)))⟩
    · have hk' : (k == 1) = false := by simpa using hk
      by_cases hk4 : k = 4
      · have hzz := hz hk4
        subst hk4
        clear HN hz
        go_wp2
        go_ret
        exact ⟨ret_str (by simp [tokenText, HR.out, quoteT]), (by repeat (first | with_reducible exact bel_refl _ | with_reducible assumption | with_reducible refine bel_set ?_ (by first | (simp; done) | (simp; omega) | omega) _ | with_reducible refine bel_alloc ?_ _ | with_reducible refine bel_drew ?_ | with_reducible refine bel_drewN ?_ _ | with_reducible refine bel_trans ?_ (by assumption)))⟩
      · have hk4' : (k == 4) = false := by simpa using hk4
        clear HN hz
        go_wp2
        go_ret
        exact ⟨ret_str (by simp [tokenText, HR.out, hk, hk4]), (by repeat (first | with_reducible exact bel_refl _ | with_reducible assumption | with_reducible refine bel_set ?_ (by first | (simp; done) | (simp; omega) | omega) _ | with_reducible refine bel_alloc ?_ _ | with_reducible refine bel_drew ?_ | with_reducible refine bel_drewN ?_ _ | with_reducible refine bel_trans ?_ (by assumption)))⟩
theorem implTokenText_any (k n : Int) (s : ByteArray) (w : World) (ht : TabT w) (hs : s.size ≤ 9223372036854775807) :
    Calls Tryd.prog 15 #[.agg #[.int .i64 k, .int .i64 n, .string s]] w fun e w' => e = .returned (.string (tokenText ⟨k, n, s⟩)) ∧ Below w.heap.size w w' := by
  obtain ⟨r, hr⟩ : ∃ r, tokenOk ⟨k, n, s⟩ = r := ⟨_, rfl⟩
  have HR := Lib.hid hr
  have HT := Lib.hid ht; clear ht
  cases r
  · clear hr
    go_enter Tryd.func15, Tryd.ntmps15
    go_wp2_with fail
    refine (implTokenOk_any k n s _ hs).mono ?_
    rw [HR.out]
    rintro e w1 ⟨rfl, hb⟩
    go_wp2
    go_ret
    exact ⟨ret_str (by simp [tokenText, HR.out]), (by repeat (first | with_reducible exact bel_refl _ | with_reducible assumption | with_reducible refine bel_set ?_ (by first | (simp; done) | (simp; omega) | omega) _ | with_reducible refine bel_alloc ?_ _ | with_reducible refine bel_drew ?_ | with_reducible refine bel_drewN ?_ _ | with_reducible refine bel_trans ?_ (by assumption)))⟩
  · have hn := tokenOk_num hr
    have HN := Lib.hid hn; clear hn
    have hz := tokenOk_len hr
    clear hr
    go_enter Tryd.func15, Tryd.ntmps15
    go_wp2_with fail
    refine (implTokenOk_any k n s _ hs).mono ?_
    rw [HR.out]
    rintro e w1 ⟨rfl, hb⟩
    have g1 : Below w.heap.size w w1 := (by repeat (first | with_reducible exact bel_refl _ | with_reducible assumption | with_reducible refine bel_set ?_ (by first | (simp; done) | (simp; omega) | omega) _ | with_reducible refine bel_alloc ?_ _ | with_reducible refine bel_drew ?_ | with_reducible refine bel_drewN ?_ _ | with_reducible refine bel_trans ?_ (by assumption)))
    have c0 := old_cell hb (b := w.heap.size) (o := 0) (v := .int .i64 k) (by go_simp)
    have c1 := old_cell hb (b := w.heap.size) (o := 1) (v := .int .i64 n) (by go_simp)
    have c2 := old_cell hb (b := w.heap.size) (o := 2) (v := .string s) (by go_simp)
    clear hb
    by_cases hk : k = 1
    · obtain ⟨h0, h1⟩ := HN.out hk
      subst hk
      clear HN hz
      go_wp2_with fail
      refine (itoa_any n _ (HT.out.kept (by repeat (first | with_reducible exact bel_refl _ | with_reducible assumption | with_reducible refine bel_set ?_ (by first | (simp; done) | (simp; omega) | omega) _ | with_reducible refine bel_alloc ?_ _ | with_reducible refine bel_drew ?_ | with_reducible refine bel_drewN ?_ _ | with_reducible refine bel_trans ?_ (by assumption)))) h0 h1).mono ?_
      rintro e w2 ⟨rfl, hb⟩
      go_wp2
      go_ret
      exact ⟨ret_str (by simp [tokenText, HR.out]), (by repeat (first | with_reducible exact bel_refl _ | with_reducible assumption | with_reducible refine bel_set ?_ (by first | (simp; done) | (simp; omega) | omega) _ | with_reducible refine bel_alloc ?_ _ | with_reducible refine bel_drew ?_ | with_reducible refine bel_drewN ?_ _ | with_reducible refine bel_trans ?_ (by assumption)))⟩
    · have hk' : (k == 1) = false := by simpa using hk
      by_cases hk4 : k = 4
      · have hzz := hz hk4
        subst hk4
        clear HN hz
        go_wp2
        go_ret
        exact ⟨ret_str (by simp [tokenText, HR.out, quoteT]), (by repeat (first | with_reducible exact bel_refl _ | with_reducible assumption | with_reducible refine bel_set ?_ (by first | (simp; done) | (simp; omega) | omega) _ | with_reducible refine bel_alloc ?_ _ | with_reducible refine bel_drew ?_ | with_reducible refine bel_drewN ?_ _ | with_reducible refine bel_trans ?_ (by assumption)))⟩
      · have hk4' : (k == 4) = false := by simpa using hk4
        clear HN hz
        go_wp2
        go_ret
        exact ⟨ret_str (by simp [tokenText, HR.out, hk, hk4]), (by repeat (first | with_reducible exact bel_refl _ | with_reducible assumption | with_reducible refine bel_set ?_ (by first | (simp; done) | (simp; omega) | omega) _ | with_reducible refine bel_alloc ?_ _ | with_reducible refine bel_drew ?_ | with_reducible refine bel_drewN ?_ _ | with_reducible refine bel_trans ?_ (by assumption)))⟩
end Go.Proofs.YtgcjhicpkmhbaaaDoor
