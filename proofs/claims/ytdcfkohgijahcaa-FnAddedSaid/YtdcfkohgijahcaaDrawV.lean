/- What the drawing functions of values answer. No condition but lengths. -/
import Derived.Test.YtdcfkohgijahcaaBlk
namespace Go.Proofs.Ytdcfkohgijahcaa
open Go.RowKit
set_option maxRecDepth 100000
set_option maxHeartbeats 2000000
theorem l2Draw_any (g : Nat) (code : List UInt8) (w : World) (hc : Cur w g code) : Calls Try.prog 76 #[.pointer (some ⟨g, 0, none⟩)] w (DrawnV g code w) := by
  have hg := hc.lt
  have HZ := Blk.new w 25 #[.int .i64 0, .int .i64 0, .string ⟨#[]⟩]
  go_enter Try.func76, Try.ntmps76
  go_wp2_with fail
  refine (l1Once_any g code _ _ (hc.alloc _) (by omega)).mono ?_
  rintro e w1 ⟨b, rfl, hc1, hg1⟩
  replace HZ := HZ.grown hg1 (by omega)
  have hs1 := hg1.size
  simp at hs1
  have hl1 := hc1.lt
  replace hg1 := (World.grownBy_alloc w _ (some g)).trans hg1
  cases b
  · go_wp2_with fail
    refine (l1Str_any g code _ 5 5 [⟨#[]⟩, ⟨#[97]⟩, ⟨#[98]⟩, ⟨#[112, 97, 105, 100]⟩, ⟨#[120, 95, 49]⟩] _ _ (hc1.alloc _) (Rd.lit w1 9 _ 5 rfl) (by omega) (by omega) (ne_lit hl1)).mono ?_
    rintro e w2 ⟨s, hs, rfl, hc2, hg2⟩
    have hss : s.size ≤ 30 := by
      simp only [List.mem_cons, List.not_mem_nil, or_false] at hs
      rcases hs with rfl | rfl | rfl | rfl | rfl <;> decide
    clear hs
    replace HZ := (HZ.alloc _).grown hg2 (by omega)
    obtain ⟨c0, c1, c2, f0, f1, f2⟩ := HZ.three
    replace hg2 := (World.grownBy_alloc w1 _ (some g)).trans hg2
    go_wp2
    refine bodyPost_ret (v := .agg #[.int .i64 2, .int .i64 0, .string s]) (by simp [results, Try.results76, go_sem, c0, c1, c2]) rfl ⟨2, 0, s, hss, rfl, (by repeat (first | with_reducible assumption | with_reducible refine Cur.set ?_ (by first | (simp; done) | (simp; omega) | omega) _ | with_reducible refine Cur.alloc ?_ _ | with_reducible refine Cur.drew ?_ | with_reducible refine Cur.below ?_ (by assumption))), (by repeat (first | with_reducible exact World.grownBy.refl _ _ | with_reducible assumption | with_reducible refine gr_alloc ?_ _ | with_reducible refine gr_drew ?_ | with_reducible refine gr_drewN ?_ _ | with_reducible refine gr_set ?_ (by first | (simp; done) | (simp; omega) | omega) _ | with_reducible refine World.grownBy.trans ?_ (by assumption) | with_reducible refine grown_below ?_ (by assumption)))⟩
  · go_wp2_with fail
    refine (l1Int_any g code _ 7 7 [0, 1, 2, 3, -1, 1000000000, -1000000000] _ _ (hc1.alloc _) (Rd.lit w1 3 _ 7 rfl) (by omega) (by omega) (ne_lit hl1)).mono ?_
    rintro e w2 ⟨x, hx, rfl, hc2, hg2⟩
    clear hx
    replace HZ := (HZ.alloc _).grown hg2 (by omega)
    obtain ⟨c0, c1, c2, f0, f1, f2⟩ := HZ.three
    replace hg2 := (World.grownBy_alloc w1 _ (some g)).trans hg2
    go_wp2
    refine bodyPost_ret (v := .agg #[.int .i64 1, .int .i64 x, .string ⟨#[]⟩]) (by simp [results, Try.results76, go_sem, c0, c1, c2]) rfl ⟨1, x, ⟨#[]⟩, by decide, rfl, (by repeat (first | with_reducible assumption | with_reducible refine Cur.set ?_ (by first | (simp; done) | (simp; omega) | omega) _ | with_reducible refine Cur.alloc ?_ _ | with_reducible refine Cur.drew ?_ | with_reducible refine Cur.below ?_ (by assumption))), (by repeat (first | with_reducible exact World.grownBy.refl _ _ | with_reducible assumption | with_reducible refine gr_alloc ?_ _ | with_reducible refine gr_drew ?_ | with_reducible refine gr_drewN ?_ _ | with_reducible refine gr_set ?_ (by first | (simp; done) | (simp; omega) | omega) _ | with_reducible refine World.grownBy.trans ?_ (by assumption) | with_reducible refine grown_below ?_ (by assumption)))⟩
theorem l2Any_any (g : Nat) (code : List UInt8) (w : World) (hc : Cur w g code) : Calls Try.prog 54 #[.pointer (some ⟨g, 0, none⟩)] w (DrawnV g code w) := by
  have hg := hc.lt
  have HZ := Blk.new w 25 #[.int .i64 0, .int .i64 0, .string ⟨#[]⟩]
  go_enter Try.func54, Try.ntmps54
  go_wp2_with fail
  refine (l2Draw_any g code _ (hc.alloc _)).mono ?_
  rintro e w1 ⟨k, n, s, hs, rfl, hc1, hg1⟩
  replace HZ := HZ.grown hg1 (by omega)
  have hs1 := hg1.size
  simp at hs1
  have hl1 := hc1.lt
  replace hg1 := (World.grownBy_alloc w _ (some g)).trans hg1
  have HX := Blk.new w1 25 #[.int .i64 k, .int .i64 n, .string s]
  go_wp2_with fail
  refine (l1Below_any g code _ _ (hc1.alloc _) (by omega)).mono ?_
  rintro e w2 ⟨x, hx, rfl, hc2, hg2⟩
  clear hx
  replace HZ := (HZ.alloc _).grown hg2 (by omega)
  replace HX := HX.grown hg2 (by omega)
  replace hg2 := (World.grownBy_alloc w1 _ (some g)).trans hg2
  have hl2 := hc2.lt
  have hne : w.heap.size < w1.heap.size := by omega
  have hxl := HX.lt
  by_cases h0 : x = 0
  · subst h0
    go_wp2_with fail
    refine (l1Below_any g code _ _ hc2 (by omega)).mono ?_
    rintro e w3 ⟨y, hy, rfl, hc3, hg3⟩
    clear hy
    replace HZ := HZ.grown hg3 (by omega)
    replace HX := HX.grown hg3 (by omega)
    have hl3 := hc3.lt
    have hxl := HX.lt
    obtain ⟨c0, c1, c2, f0, f1, f2⟩ := HZ.three
    obtain ⟨d0, d1, d2, e0, e1, e2⟩ := HX.three
    go_wp2
    refine bodyPost_ret (v := .agg #[.int .i64 y, .int .i64 n, .string s]) (by simp [results, Try.results54, go_sem, c0, c1, c2]) rfl ⟨y, n, s, hs, rfl, (by repeat (first | with_reducible assumption | with_reducible refine Cur.set ?_ (by first | (simp; done) | (simp; omega) | omega) _ | with_reducible refine Cur.alloc ?_ _ | with_reducible refine Cur.drew ?_ | with_reducible refine Cur.below ?_ (by assumption))), (by repeat (first | with_reducible exact World.grownBy.refl _ _ | with_reducible assumption | with_reducible refine gr_alloc ?_ _ | with_reducible refine gr_drew ?_ | with_reducible refine gr_drewN ?_ _ | with_reducible refine gr_set ?_ (by first | (simp; done) | (simp; omega) | omega) _ | with_reducible refine World.grownBy.trans ?_ (by assumption) | with_reducible refine grown_below ?_ (by assumption)))⟩
  · have h0' : ((x : Int) == 0) = false := by simp; omega
    by_cases h1 : x = 1
    · subst h1
      go_wp2_with fail
      refine (l1Int_any g code _ 2 2 [1000000001, 5] _ _ (hc2.alloc _) (Rd.lit w2 3 _ 2 rfl) (by omega) (by omega) (ne_lit hl2)).mono ?_
      rintro e w3 ⟨y, hy, rfl, hc3, hg3⟩
      clear hy
      replace HZ := (HZ.alloc _).grown hg3 (by omega)
      replace HX := (HX.alloc _).grown hg3 (by omega)
      replace hg3 := (World.grownBy_alloc w2 _ (some g)).trans hg3
      have hl3 := hc3.lt
      have hxl := HX.lt
      obtain ⟨c0, c1, c2, f0, f1, f2⟩ := HZ.three
      obtain ⟨d0, d1, d2, e0, e1, e2⟩ := HX.three
      go_wp2
      refine bodyPost_ret (v := .agg #[.int .i64 k, .int .i64 y, .string s]) (by simp [results, Try.results54, go_sem, c0, c1, c2]) rfl ⟨k, y, s, hs, rfl, (by repeat (first | with_reducible assumption | with_reducible refine Cur.set ?_ (by first | (simp; done) | (simp; omega) | omega) _ | with_reducible refine Cur.alloc ?_ _ | with_reducible refine Cur.drew ?_ | with_reducible refine Cur.below ?_ (by assumption))), (by repeat (first | with_reducible exact World.grownBy.refl _ _ | with_reducible assumption | with_reducible refine gr_alloc ?_ _ | with_reducible refine gr_drew ?_ | with_reducible refine gr_drewN ?_ _ | with_reducible refine gr_set ?_ (by first | (simp; done) | (simp; omega) | omega) _ | with_reducible refine World.grownBy.trans ?_ (by assumption) | with_reducible refine grown_below ?_ (by assumption)))⟩
    · have h1' : ((x : Int) == 1) = false := by simp; omega
      by_cases h2 : x = 2
      · subst h2
        go_wp2_with fail
        refine (l1Str_any g code _ 4 4 [⟨#[65]⟩, ⟨#[97, 32, 98]⟩, ⟨#[116, 119, 101, 110, 116, 121, 111, 110, 101, 98, 121, 116, 101, 115, 116, 119, 101, 110, 116, 121, 111]⟩, ⟨#[120]⟩] _ _ (hc2.alloc _) (Rd.lit w2 9 _ 4 rfl) (by omega) (by omega) (ne_lit hl2)).mono ?_
        rintro e w3 ⟨y, hy, rfl, hc3, hg3⟩
        have hys : y.size ≤ 30 := by
          simp only [List.mem_cons, List.not_mem_nil, or_false] at hy
          rcases hy with rfl | rfl | rfl | rfl <;> decide
        clear hy
        replace HZ := (HZ.alloc _).grown hg3 (by omega)
        replace HX := (HX.alloc _).grown hg3 (by omega)
        replace hg3 := (World.grownBy_alloc w2 _ (some g)).trans hg3
        have hl3 := hc3.lt
        have hxl := HX.lt
        obtain ⟨c0, c1, c2, f0, f1, f2⟩ := HZ.three
        obtain ⟨d0, d1, d2, e0, e1, e2⟩ := HX.three
        go_wp2
        refine bodyPost_ret (v := .agg #[.int .i64 k, .int .i64 n, .string y]) (by simp [results, Try.results54, go_sem, c0, c1, c2]) rfl ⟨k, n, y, hys, rfl, (by repeat (first | with_reducible assumption | with_reducible refine Cur.set ?_ (by first | (simp; done) | (simp; omega) | omega) _ | with_reducible refine Cur.alloc ?_ _ | with_reducible refine Cur.drew ?_ | with_reducible refine Cur.below ?_ (by assumption))), (by repeat (first | with_reducible exact World.grownBy.refl _ _ | with_reducible assumption | with_reducible refine gr_alloc ?_ _ | with_reducible refine gr_drew ?_ | with_reducible refine gr_drewN ?_ _ | with_reducible refine gr_set ?_ (by first | (simp; done) | (simp; omega) | omega) _ | with_reducible refine World.grownBy.trans ?_ (by assumption) | with_reducible refine grown_below ?_ (by assumption)))⟩
      · have h2' : ((x : Int) == 2) = false := by simp; omega
        obtain ⟨c0, c1, c2, f0, f1, f2⟩ := HZ.three
        obtain ⟨d0, d1, d2, e0, e1, e2⟩ := HX.three
        go_wp2
        refine bodyPost_ret (v := .agg #[.int .i64 k, .int .i64 n, .string s]) (by simp [results, Try.results54, go_sem, c0, c1, c2]) rfl ⟨k, n, s, hs, rfl, (by repeat (first | with_reducible assumption | with_reducible refine Cur.set ?_ (by first | (simp; done) | (simp; omega) | omega) _ | with_reducible refine Cur.alloc ?_ _ | with_reducible refine Cur.drew ?_ | with_reducible refine Cur.below ?_ (by assumption))), (by repeat (first | with_reducible exact World.grownBy.refl _ _ | with_reducible assumption | with_reducible refine gr_alloc ?_ _ | with_reducible refine gr_drew ?_ | with_reducible refine gr_drewN ?_ _ | with_reducible refine gr_set ?_ (by first | (simp; done) | (simp; omega) | omega) _ | with_reducible refine World.grownBy.trans ?_ (by assumption) | with_reducible refine grown_below ?_ (by assumption)))⟩
/-- two drawn values -/
def Drawn2 (w : World) (e : Ending) (w' : World) : Prop :=
  ∃ (k n : Int) (s : ByteArray) (k2 n2 : Int) (s2 : ByteArray), s.size ≤ 30 ∧ s2.size ≤ 30 ∧ e = .returned (.tuple #[.agg #[.int .i64 k, .int .i64 n, .string s], .agg #[.int .i64 k2, .int .i64 n2, .string s2]]) ∧ Below w.heap.size w w'
theorem DrawLessVal_any (A : Option Addr) (n c : Nat) (code : List UInt8) (w : World) (B : Nat) (hr : RdB w B A n code) (hB : B ≤ w.heap.size) (hn : n ≤ 70368744177664) :
    Calls Try.prog 25 #[.slice A n c] w (Drawn2 w) := by
  have HZ := (Blk.new w 25 #[.int .i64 0, .int .i64 0, .string ⟨#[]⟩]).alloc (.cells #[.int .i64 0, .int .i64 0, .string ⟨#[]⟩] 25)
  have HY := Blk.new (w.alloc (.cells #[.int .i64 0, .int .i64 0, .string ⟨#[]⟩] 25)) 25 #[.int .i64 0, .int .i64 0, .string ⟨#[]⟩]
  simp at HY
  have hr1 := hr.below (((Below.refl B w).alloc hB (.cells #[.int .i64 0, .int .i64 0, .string ⟨#[]⟩] 25)).alloc (by simp; omega) (.cells #[.int .i64 0, .int .i64 0, .string ⟨#[]⟩] 25))
  go_enter Try.func25, Try.ntmps25
  go_wp2_with fail
  refine (l1New_any A n c code _ B hr1 (by simp; omega) hn).mono ?_
  rintro e w1 ⟨rfl, hc1, hb1⟩
  replace HZ := HZ.kept hb1
  replace HY := HY.kept hb1
  have g1 : Below w.heap.size w w1 := (by repeat (first | with_reducible exact bel_refl _ | with_reducible assumption | with_reducible refine bel_set ?_ (by first | (simp; done) | (simp; omega) | omega) _ | with_reducible refine bel_alloc ?_ _ | with_reducible refine bel_drew ?_ | with_reducible refine bel_drewN ?_ _ | with_reducible refine bel_trans ?_ (by assumption)))
  have hs1 := hb1.size
  simp at hs1 hc1
  clear hb1
  have hl1 := hc1.lt
  go_wp2_with fail
  refine (l2Any_any (w.heap.size + 1 + 1) code _ hc1).mono ?_
  rintro e w2 ⟨k, m, s, hs, rfl, hc2, hg2⟩
  replace HZ := HZ.grown hg2 (by omega)
  replace HY := HY.grown hg2 (by omega)
  have hl2 := hc2.lt
  have hs2 := hg2.size
  have HX := Blk.new w2 25 #[.int .i64 k, .int .i64 m, .string s]
  have g2 : Below w.heap.size w w2 := g1.trans (below_grown' hg2 (by omega) (by omega))
  go_wp2_with fail
  refine (l1Once_any (w.heap.size + 1 + 1) code _ _ (hc2.alloc _) (by omega)).mono ?_
  rintro e w3 ⟨b, rfl, hc3, hg3⟩
  replace HZ := (HZ.alloc _).grown hg3 (by omega)
  replace HY := (HY.alloc _).grown hg3 (by omega)
  replace HX := HX.grown hg3 (by omega)
  have hl3 := hc3.lt
  have hs3 := hg3.size
  simp at hs3
  have g3 : Below w.heap.size w w3 := g2.trans (below_grown' ((World.grownBy_alloc w2 _ _).trans hg3) (by omega) (by omega))
  have hxl := HX.lt
  obtain ⟨c0, c1, c2, f0, f1, f2⟩ := HZ.three
  obtain ⟨d0, d1, d2, e0, e1, e2⟩ := HX.three
  obtain ⟨y0, y1, y2, z0, z1, z2⟩ := HY.three
  have n1 : w.heap.size ≠ w2.heap.size := by omega
  have n2 : w.heap.size + 1 ≠ w2.heap.size := by omega
  have zl : w.heap.size < w3.heap.size := by omega
  have yl : w.heap.size + 1 < w3.heap.size := by omega
  cases b
  · go_wp2_with fail
    go_region_with (go_at_call 54; refine (l2Any_any (w.heap.size + 1 + 1) code _ (by repeat (first | with_reducible assumption | with_reducible refine Cur.set ?_ (by first | (simp; done) | (simp; omega) | omega) _ | with_reducible refine Cur.alloc ?_ _ | with_reducible refine Cur.drew ?_ | with_reducible refine Cur.below ?_ (by assumption)))).mono ?_; rintro e w4 ⟨k2, m2, s2, hs2', rfl, hc4, hg4⟩; have y0' := gr_cell hg4 (b := w.heap.size + 1) (o := 0) (v := .int .i64 0) (by go_simp) (by omega); have y1' := gr_cell hg4 (b := w.heap.size + 1) (o := 1) (v := .int .i64 0) (by go_simp) (by omega); have y2' := gr_cell hg4 (b := w.heap.size + 1) (o := 2) (v := .string ⟨#[]⟩) (by go_simp) (by omega); have z0' := gr_frozen hg4 (b := w.heap.size + 1) (o := 0) (by simp; omega) (by go_simp) (by omega); have z1' := gr_frozen hg4 (b := w.heap.size + 1) (o := 1) (by simp; omega) (by go_simp) (by omega); have z2' := gr_frozen hg4 (b := w.heap.size + 1) (o := 2) (by simp; omega) (by go_simp) (by omega); have f0' := gr_frozen hg4 (b := w.heap.size) (o := 0) (by simp; omega) (by go_simp) (by omega); have f1' := gr_frozen hg4 (b := w.heap.size) (o := 1) (by simp; omega) (by go_simp) (by omega); have f2' := gr_frozen hg4 (b := w.heap.size) (o := 2) (by simp; omega) (by go_simp) (by omega); (first | (have c0' := gr_cell hg4 (b := w.heap.size) (o := 0) (v := .int .i64 0) (by go_simp; done) (by omega); have c1' := gr_cell hg4 (b := w.heap.size) (o := 1) (v := .int .i64 0) (by go_simp; done) (by omega); have c2' := gr_cell hg4 (b := w.heap.size) (o := 2) (v := .string ⟨#[]⟩) (by go_simp; done) (by omega)) | (have c0' := gr_cell hg4 (b := w.heap.size) (o := 0) (v := .int .i64 k) (by go_simp) (by omega); have c1' := gr_cell hg4 (b := w.heap.size) (o := 1) (v := .int .i64 m) (by go_simp) (by omega); have c2' := gr_cell hg4 (b := w.heap.size) (o := 2) (v := .string s) (by go_simp) (by omega))); have dd0 := gr_cell hg4 (b := w2.heap.size) (o := 0) (v := .int .i64 k) (by go_simp) (by omega); have dd1 := gr_cell hg4 (b := w2.heap.size) (o := 1) (v := .int .i64 m) (by go_simp) (by omega); have dd2 := gr_cell hg4 (b := w2.heap.size) (o := 2) (v := .string s) (by go_simp) (by omega))
    all_goals
      go_wp2
      refine bodyPost_ret (v := .tuple #[.agg #[.int .i64 k, .int .i64 m, .string s], .agg #[.int .i64 k2, .int .i64 m2, .string s2]]) (by simp [results, Try.results25, go_sem, c0', c1', c2', y0', y1', y2']) rfl ⟨k, m, s, k2, m2, s2, hs, hs2', rfl, ?_⟩
      have g4 := below_grown' hg4 (B := w.heap.size) (by omega) (by simp; omega)
      exact (by repeat (first | with_reducible exact g4 | with_reducible refine Below.setCell ?_ (by first | (simp; done) | (simp; omega) | omega) _ | with_reducible refine Below.trans ?_ (by with_reducible exact g4) | with_reducible exact g3 | with_reducible refine Below.drew ?_))
  · go_wp2_with fail
    go_region
    all_goals
      go_wp2
      refine bodyPost_ret (v := .tuple #[.agg #[.int .i64 k, .int .i64 m, .string s], .agg #[.int .i64 k, .int .i64 m, .string s]]) (by simp [results, Try.results25, go_sem, c0, c1, c2, y0, y1, y2]) rfl ⟨k, m, s, k, m, s, hs, hs, rfl, ?_⟩
      exact (by repeat (first | with_reducible refine Below.setCell ?_ (by first | (simp; done) | (simp; omega) | omega) _ | with_reducible exact g3 | with_reducible refine Below.drew ?_))
theorem DrawAddVals_any (A : Option Addr) (n c : Nat) (code : List UInt8) (w : World) (B : Nat) (hr : RdB w B A n code) (hB : B ≤ w.heap.size) (hn : n ≤ 70368744177664) :
    Calls Try.prog 28 #[.slice A n c] w (Drawn2 w) := by
  have HZ := (Blk.new w 25 #[.int .i64 0, .int .i64 0, .string ⟨#[]⟩]).alloc (.cells #[.int .i64 0, .int .i64 0, .string ⟨#[]⟩] 25)
  have HY := Blk.new (w.alloc (.cells #[.int .i64 0, .int .i64 0, .string ⟨#[]⟩] 25)) 25 #[.int .i64 0, .int .i64 0, .string ⟨#[]⟩]
  simp at HY
  have hr1 := hr.below (((Below.refl B w).alloc hB (.cells #[.int .i64 0, .int .i64 0, .string ⟨#[]⟩] 25)).alloc (by simp; omega) (.cells #[.int .i64 0, .int .i64 0, .string ⟨#[]⟩] 25))
  go_enter Try.func28, Try.ntmps28
  go_wp2_with fail
  refine (l1New_any A n c code _ B hr1 (by simp; omega) hn).mono ?_
  rintro e w1 ⟨rfl, hc1, hb1⟩
  replace HZ := HZ.kept hb1
  replace HY := HY.kept hb1
  have g1 : Below w.heap.size w w1 := (by repeat (first | with_reducible exact bel_refl _ | with_reducible assumption | with_reducible refine bel_set ?_ (by first | (simp; done) | (simp; omega) | omega) _ | with_reducible refine bel_alloc ?_ _ | with_reducible refine bel_drew ?_ | with_reducible refine bel_drewN ?_ _ | with_reducible refine bel_trans ?_ (by assumption)))
  have hs1 := hb1.size
  simp at hs1 hc1
  clear hb1
  have hl1 := hc1.lt
  go_wp2_with fail
  refine (l1Once_any (w.heap.size + 1 + 1) code _ _ hc1 (by omega)).mono ?_
  rintro e w2 ⟨b, rfl, hc2, hg2⟩
  replace HZ := HZ.grown hg2 (by omega)
  replace HY := HY.grown hg2 (by omega)
  have hl2 := hc2.lt
  have hs2 := hg2.size
  have g2 : Below w.heap.size w w2 := g1.trans (below_grown' hg2 (by omega) (by omega))
  cases b
  · go_wp2_with fail
    refine (l2Any_any (w.heap.size + 1 + 1) code _ hc2).mono ?_
    rintro e w3 ⟨k, m, s, hs, rfl, hc3, hg3⟩
    replace HZ := HZ.grown hg3 (by omega)
    replace HY := HY.grown hg3 (by omega)
    have hl3 := hc3.lt
    have hs3 := hg3.size
    have g3 : Below w.heap.size w w3 := g2.trans (below_grown' hg3 (by omega) (by omega))
    go_wp2_with fail
    refine (l2Any_any (w.heap.size + 1 + 1) code _ hc3).mono ?_
    rintro e w4 ⟨k2, m2, s2, hs2', rfl, hc4, hg4⟩
    replace HZ := HZ.grown hg4 (by omega)
    replace HY := HY.grown hg4 (by omega)
    have g4 : Below w.heap.size w w4 := g3.trans (below_grown' hg4 (by omega) (by omega))
    have hl4 := hc4.lt
    obtain ⟨c0, c1, c2, f0, f1, f2⟩ := HZ.three
    obtain ⟨y0, y1, y2, z0, z1, z2⟩ := HY.three
    go_wp2
    refine bodyPost_ret (v := .tuple #[.agg #[.int .i64 k, .int .i64 m, .string s], .agg #[.int .i64 k2, .int .i64 m2, .string s2]]) (by simp [results, Try.results28, go_sem, c0, c1, c2, y0, y1, y2]) rfl ⟨k, m, s, k2, m2, s2, hs, hs2', rfl, ?_⟩
    exact (by repeat (first | with_reducible refine Below.setCell ?_ (by first | (simp; done) | (simp; omega) | omega) _ | with_reducible exact g4))
  · go_wp2_with fail
    refine (l1Int_any (w.heap.size + 1 + 1) code _ 4 4 [1, 1000000000, -5, 7] _ _ (hc2.alloc _) (Rd.lit w2 3 _ 4 rfl) (by omega) (by omega) (ne_lit hl2)).mono ?_
    rintro e w3 ⟨x, hx, rfl, hc3, hg3⟩
    clear hx
    replace HZ := (HZ.alloc _).grown hg3 (by omega)
    replace HY := (HY.alloc _).grown hg3 (by omega)
    have hl3 := hc3.lt
    have hs3 := hg3.size
    simp at hs3
    have g3 : Below w.heap.size w w3 := g2.trans (below_grown' ((World.grownBy_alloc w2 _ _).trans hg3) (by omega) (by omega))
    go_wp2_with fail
    refine (l1Int_any (w.heap.size + 1 + 1) code _ 4 4 [1, -1, 1000000000, 0] _ _ (hc3.alloc _) (Rd.lit w3 3 _ 4 rfl) (by omega) (by omega) (ne_lit hl3)).mono ?_
    rintro e w4 ⟨y, hy, rfl, hc4, hg4⟩
    clear hy
    replace HZ := (HZ.alloc _).grown hg4 (by omega)
    replace HY := (HY.alloc _).grown hg4 (by omega)
    have g4 : Below w.heap.size w w4 := g3.trans (below_grown' ((World.grownBy_alloc w3 _ _).trans hg4) (by omega) (by omega))
    have hl4 := hc4.lt
    obtain ⟨c0, c1, c2, f0, f1, f2⟩ := HZ.three
    obtain ⟨y0, y1, y2, z0, z1, z2⟩ := HY.three
    go_wp2
    refine bodyPost_ret (v := .tuple #[.agg #[.int .i64 1, .int .i64 x, .string ⟨#[]⟩], .agg #[.int .i64 1, .int .i64 y, .string ⟨#[]⟩]]) (by simp [results, Try.results28, go_sem, c0, c1, c2, y0, y1, y2]) rfl ⟨1, x, ⟨#[]⟩, 1, y, ⟨#[]⟩, by decide, by decide, rfl, ?_⟩
    exact (by repeat (first | with_reducible refine Below.setCell ?_ (by first | (simp; done) | (simp; omega) | omega) _ | with_reducible exact g4))
end Go.Proofs.Ytdcfkohgijahcaa
