/- What the drawing functions of values answer. No condition but lengths. -/
import Derived.Test.YtcbbefibebkfgaaGreatDoorBlk
namespace Go.Proofs.YtcbbefibebkfgaaGreatDoor
open Go.RowKit
set_option maxRecDepth 100000
set_option maxHeartbeats 2000000
theorem l2Draw_any (g : Nat) (code : List UInt8) (w : World) (hc : Cur w g code) : Calls Tryz.prog 52 #[.pointer (some ⟨g, 0, none⟩)] w (DrawnV g code w) := by
  have hg := hc.lt
  have HZ := Blk.new w 47 #[.int .i64 0, .int .i64 0, .string ⟨#[]⟩]
  go_enter Tryz.func52, Tryz.ntmps52
  go_wp2_with fail
  refine (l1Once_any g code _ _ (hc.alloc _) (by omega)).mono ?_
  rintro e w1 ⟨b, rfl, hc1, hg1⟩
  replace HZ := HZ.grown hg1 (by omega)
  have hs1 := hg1.size
  simp at hs1
  have hl1 := hc1.lt
  replace hg1 := (World.grownBy_alloc w _ (some g)).trans hg1
  cases b
  · go_wp2_with fail
    refine (l1Str_any g code _ 5 5 [⟨#[]⟩, ⟨#[97]⟩, ⟨#[98]⟩, ⟨#[112, 97, 105, 100]⟩, ⟨#[120, 95, 49]⟩] _ _ (hc1.alloc _) (Rd.lit w1 9 _ 5 rfl) (by omega) (by omega) (ne_lit hl1)).mono ?_
    rintro e w2 ⟨s, hs, rfl, hc2, hg2⟩
    have hss : s.size ≤ 30 := by
      simp only [List.mem_cons, List.not_mem_nil, or_false] at hs
      rcases hs with rfl | rfl | rfl | rfl | rfl <;> decide
    clear hs
    replace HZ := (HZ.alloc _).grown hg2 (by omega)
    obtain ⟨c0, c1, c2, f0, f1, f2⟩ := HZ.three
    replace hg2 := (World.grownBy_alloc w1 _ (some g)).trans hg2
    go_wp2
    refine bodyPost_ret (v := .agg #[.int .i64 2, .int .i64 0, .string s]) (by simp [results, Tryz.results52, go_sem, c0, c1, c2]) rfl ⟨2, 0, s, hss, rfl, (by repeat (first | with_reducible assumption | with_reducible refine Cur.set ?_ (by first | (simp; done) | (simp; omega) | omega) _ | with_reducible refine Cur.alloc ?_ _ | with_reducible refine Cur.drew ?_ | with_reducible refine Cur.below ?_ (by assumption))), (by repeat (first | with_reducible exact World.grownBy.refl _ _ | with_reducible assumption | with_reducible refine gr_alloc ?_ _ | with_reducible refine gr_drew ?_ | with_reducible refine gr_drewN ?_ _ | with_reducible refine gr_set ?_ (by first | (simp; done) | (simp; omega) | omega) _ | with_reducible refine World.grownBy.trans ?_ (by assumption) | with_reducible refine grown_below ?_ (by assumption)))⟩
  · go_wp2_with fail
    refine (l1Int_any g code _ 7 7 [0, 1, 2, 3, -1, 1000000000, -1000000000] _ _ (hc1.alloc _) (Rd.lit w1 3 _ 7 rfl) (by omega) (by omega) (ne_lit hl1)).mono ?_
    rintro e w2 ⟨x, hx, rfl, hc2, hg2⟩
    clear hx
    replace HZ := (HZ.alloc _).grown hg2 (by omega)
    obtain ⟨c0, c1, c2, f0, f1, f2⟩ := HZ.three
    replace hg2 := (World.grownBy_alloc w1 _ (some g)).trans hg2
    go_wp2
    refine bodyPost_ret (v := .agg #[.int .i64 1, .int .i64 x, .string ⟨#[]⟩]) (by simp [results, Tryz.results52, go_sem, c0, c1, c2]) rfl ⟨1, x, ⟨#[]⟩, by decide, rfl, (by repeat (first | with_reducible assumption | with_reducible refine Cur.set ?_ (by first | (simp; done) | (simp; omega) | omega) _ | with_reducible refine Cur.alloc ?_ _ | with_reducible refine Cur.drew ?_ | with_reducible refine Cur.below ?_ (by assumption))), (by repeat (first | with_reducible exact World.grownBy.refl _ _ | with_reducible assumption | with_reducible refine gr_alloc ?_ _ | with_reducible refine gr_drew ?_ | with_reducible refine gr_drewN ?_ _ | with_reducible refine gr_set ?_ (by first | (simp; done) | (simp; omega) | omega) _ | with_reducible refine World.grownBy.trans ?_ (by assumption) | with_reducible refine grown_below ?_ (by assumption)))⟩
theorem l2Any_any (g : Nat) (code : List UInt8) (w : World) (hc : Cur w g code) : Calls Tryz.prog 51 #[.pointer (some ⟨g, 0, none⟩)] w (DrawnV g code w) := by
  have hg := hc.lt
  have HZ := Blk.new w 47 #[.int .i64 0, .int .i64 0, .string ⟨#[]⟩]
  go_enter Tryz.func51, Tryz.ntmps51
  go_wp2_with fail
  refine (l2Draw_any g code _ (hc.alloc _)).mono ?_
  rintro e w1 ⟨k, n, s, hs, rfl, hc1, hg1⟩
  replace HZ := HZ.grown hg1 (by omega)
  have hs1 := hg1.size
  simp at hs1
  have hl1 := hc1.lt
  replace hg1 := (World.grownBy_alloc w _ (some g)).trans hg1
  have HX := Blk.new w1 47 #[.int .i64 k, .int .i64 n, .string s]
  go_wp2_with fail
  refine (l1Below_any g code _ _ (hc1.alloc _) (by omega)).mono ?_
  rintro e w2 ⟨x, hx, rfl, hc2, hg2⟩
  clear hx
  replace HZ := (HZ.alloc _).grown hg2 (by omega)
  replace HX := HX.grown hg2 (by omega)
  replace hg2 := (World.grownBy_alloc w1 _ (some g)).trans hg2
  have hl2 := hc2.lt
  have hne : w.heap.size < w1.heap.size := by omega
  have hxl := HX.lt
  by_cases h0 : x = 0
  · subst h0
    go_wp2_with fail
    refine (l1Below_any g code _ _ hc2 (by omega)).mono ?_
    rintro e w3 ⟨y, hy, rfl, hc3, hg3⟩
    clear hy
    replace HZ := HZ.grown hg3 (by omega)
    replace HX := HX.grown hg3 (by omega)
    have hl3 := hc3.lt
    have hxl := HX.lt
    obtain ⟨c0, c1, c2, f0, f1, f2⟩ := HZ.three
    obtain ⟨d0, d1, d2, e0, e1, e2⟩ := HX.three
    go_wp2
    refine bodyPost_ret (v := .agg #[.int .i64 y, .int .i64 n, .string s]) (by simp [results, Tryz.results51, go_sem, c0, c1, c2]) rfl ⟨y, n, s, hs, rfl, (by repeat (first | with_reducible assumption | with_reducible refine Cur.set ?_ (by first | (simp; done) | (simp; omega) | omega) _ | with_reducible refine Cur.alloc ?_ _ | with_reducible refine Cur.drew ?_ | with_reducible refine Cur.below ?_ (by assumption))), (by repeat (first | with_reducible exact World.grownBy.refl _ _ | with_reducible assumption | with_reducible refine gr_alloc ?_ _ | with_reducible refine gr_drew ?_ | with_reducible refine gr_drewN ?_ _ | with_reducible refine gr_set ?_ (by first | (simp; done) | (simp; omega) | omega) _ | with_reducible refine World.grownBy.trans ?_ (by assumption) | with_reducible refine grown_below ?_ (by assumption)))⟩
  · have h0' : ((x : Int) == 0) = false := by simp; omega
    by_cases h1 : x = 1
    · subst h1
      go_wp2_with fail
      refine (l1Int_any g code _ 2 2 [1000000001, 5] _ _ (hc2.alloc _) (Rd.lit w2 3 _ 2 rfl) (by omega) (by omega) (ne_lit hl2)).mono ?_
      rintro e w3 ⟨y, hy, rfl, hc3, hg3⟩
      clear hy
      replace HZ := (HZ.alloc _).grown hg3 (by omega)
      replace HX := (HX.alloc _).grown hg3 (by omega)
      replace hg3 := (World.grownBy_alloc w2 _ (some g)).trans hg3
      have hl3 := hc3.lt
      have hxl := HX.lt
      obtain ⟨c0, c1, c2, f0, f1, f2⟩ := HZ.three
      obtain ⟨d0, d1, d2, e0, e1, e2⟩ := HX.three
      go_wp2
      refine bodyPost_ret (v := .agg #[.int .i64 k, .int .i64 y, .string s]) (by simp [results, Tryz.results51, go_sem, c0, c1, c2]) rfl ⟨k, y, s, hs, rfl, (by repeat (first | with_reducible assumption | with_reducible refine Cur.set ?_ (by first | (simp; done) | (simp; omega) | omega) _ | with_reducible refine Cur.alloc ?_ _ | with_reducible refine Cur.drew ?_ | with_reducible refine Cur.below ?_ (by assumption))), (by repeat (first | with_reducible exact World.grownBy.refl _ _ | with_reducible assumption | with_reducible refine gr_alloc ?_ _ | with_reducible refine gr_drew ?_ | with_reducible refine gr_drewN ?_ _ | with_reducible refine gr_set ?_ (by first | (simp; done) | (simp; omega) | omega) _ | with_reducible refine World.grownBy.trans ?_ (by assumption) | with_reducible refine grown_below ?_ (by assumption)))⟩
    · have h1' : ((x : Int) == 1) = false := by simp; omega
      by_cases h2 : x = 2
      · subst h2
        go_wp2_with fail
        refine (l1Str_any g code _ 4 4 [⟨#[65]⟩, ⟨#[97, 32, 98]⟩, ⟨#[116, 119, 101, 110, 116, 121, 111, 110, 101, 98, 121, 116, 101, 115, 116, 119, 101, 110, 116, 121, 111]⟩, ⟨#[120]⟩] _ _ (hc2.alloc _) (Rd.lit w2 9 _ 4 rfl) (by omega) (by omega) (ne_lit hl2)).mono ?_
        rintro e w3 ⟨y, hy, rfl, hc3, hg3⟩
        have hys : y.size ≤ 30 := by
          simp only [List.mem_cons, List.not_mem_nil, or_false] at hy
          rcases hy with rfl | rfl | rfl | rfl <;> decide
        clear hy
        replace HZ := (HZ.alloc _).grown hg3 (by omega)
        replace HX := (HX.alloc _).grown hg3 (by omega)
        replace hg3 := (World.grownBy_alloc w2 _ (some g)).trans hg3
        have hl3 := hc3.lt
        have hxl := HX.lt
        obtain ⟨c0, c1, c2, f0, f1, f2⟩ := HZ.three
        obtain ⟨d0, d1, d2, e0, e1, e2⟩ := HX.three
        go_wp2
        refine bodyPost_ret (v := .agg #[.int .i64 k, .int .i64 n, .string y]) (by simp [results, Tryz.results51, go_sem, c0, c1, c2]) rfl ⟨k, n, y, hys, rfl, (by repeat (first | with_reducible assumption | with_reducible refine Cur.set ?_ (by first | (simp; done) | (simp; omega) | omega) _ | with_reducible refine Cur.alloc ?_ _ | with_reducible refine Cur.drew ?_ | with_reducible refine Cur.below ?_ (by assumption))), (by repeat (first | with_reducible exact World.grownBy.refl _ _ | with_reducible assumption | with_reducible refine gr_alloc ?_ _ | with_reducible refine gr_drew ?_ | with_reducible refine gr_drewN ?_ _ | with_reducible refine gr_set ?_ (by first | (simp; done) | (simp; omega) | omega) _ | with_reducible refine World.grownBy.trans ?_ (by assumption) | with_reducible refine grown_below ?_ (by assumption)))⟩
      · have h2' : ((x : Int) == 2) = false := by simp; omega
        obtain ⟨c0, c1, c2, f0, f1, f2⟩ := HZ.three
        obtain ⟨d0, d1, d2, e0, e1, e2⟩ := HX.three
        go_wp2
        refine bodyPost_ret (v := .agg #[.int .i64 k, .int .i64 n, .string s]) (by simp [results, Tryz.results51, go_sem, c0, c1, c2]) rfl ⟨k, n, s, hs, rfl, (by repeat (first | with_reducible assumption | with_reducible refine Cur.set ?_ (by first | (simp; done) | (simp; omega) | omega) _ | with_reducible refine Cur.alloc ?_ _ | with_reducible refine Cur.drew ?_ | with_reducible refine Cur.below ?_ (by assumption))), (by repeat (first | with_reducible exact World.grownBy.refl _ _ | with_reducible assumption | with_reducible refine gr_alloc ?_ _ | with_reducible refine gr_drew ?_ | with_reducible refine gr_drewN ?_ _ | with_reducible refine gr_set ?_ (by first | (simp; done) | (simp; omega) | omega) _ | with_reducible refine World.grownBy.trans ?_ (by assumption) | with_reducible refine grown_below ?_ (by assumption)))⟩
/-- two drawn values -/
def Drawn2 (w : World) (e : Ending) (w' : World) : Prop :=
  ∃ (k n : Int) (s : ByteArray) (k2 n2 : Int) (s2 : ByteArray), s.size ≤ 30 ∧ s2.size ≤ 30 ∧ e = .returned (.tuple #[.agg #[.int .i64 k, .int .i64 n, .string s], .agg #[.int .i64 k2, .int .i64 n2, .string s2]]) ∧ Below w.heap.size w w'
end Go.Proofs.YtcbbefibebkfgaaGreatDoor
