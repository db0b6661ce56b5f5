/- A drawn pattern and a drawn argument, of the drawing functions of two laws. No condition but lengths. -/
import Derived.Test.YtaacdnnjmiaaaaaDoorDraw11
namespace Go.Proofs.YtaacdnnjmiaaaaaDoor
open Go.RowKit
set_option maxRecDepth 100000
set_option maxHeartbeats 8000000
theorem DrawPatOk_any (A : Option Addr) (n c : Nat) (code : List UInt8) (w : World) (B : Nat) (hr : RdB w B A n code) (hB : B ≤ w.heap.size) (hn : n ≤ 70368744177664) :
    Calls Tryd.prog 5 #[.slice A n c] w fun e w' => ∃ (kd : ByteArray) (A2 : Option Addr) (c2 : Nat) (ags : List Ag) (nt : Bool), kd.size ≤ 30 ∧ ags.length ≤ 6 ∧ (∀ x ∈ ags, smallA x) ∧ e = .returned (.agg #[.string kd, .slice A2 ags.length c2, .bool nt]) ∧ RdS aC 5 w' w'.heap.size A2 ags.length ags ∧ Below w.heap.size w w' := by
  have HZ := Blk.new w 26 #[.string ⟨#[]⟩, .slice none 0 0, .bool false]
  have hr3 : RdY (w.alloc (.cells #[.string ⟨#[]⟩, .slice none 0 0, .bool false] 26)) B A n code := RdY.alloc ⟨hB, hr⟩ _
  have g0 : Below w.heap.size w (w.alloc (.cells #[.string ⟨#[]⟩, .slice none 0 0, .bool false] 26)) := bel_alloc (bel_refl w) _
  go_enter Tryd.func5, Tryd.ntmps5
  go_wp2_with fail
  refine (l1New_any A n c code _ B hr3.b hr3.le hn).mono ?_
  rintro e w1 ⟨rfl, hc1, hb1⟩
  replace HZ := HZ.kept hb1
  simp at hc1
  have hl1 := hc1.lt
  have g1 : Below w.heap.size w w1 := bel_trans g0 hb1
  clear hb1 g0 hr3
  go_wp2_with fail
  refine (l6Any_any (w.heap.size + 1) code _ hc1).mono ?_
  rintro e w2 ⟨kd, A2, c2, ags, nt, hkd, hal, hsm, rfl, ho2, hc2, hg2⟩
  have HS := Lib.hid hsm; clear hsm
  replace HZ := HZ.grown hg2 (by omega)
  replace g1 := g1.trans (below_grown' hg2 (by omega) (by omega))
  have hs2 := hg2.size
  clear hg2 hc2 hc1
  obtain ⟨z0, z1, z2, y0, y1, y2⟩ := HZ.three
  have hzl := HZ.lt
  go_wp2
  refine bodyPost_ret (v := .agg #[.string kd, .slice A2 ags.length c2, .bool nt]) (by simp [results, Tryd.results5, go_sem, z0, z1, z2]; try rfl) rfl ⟨kd, A2, c2, ags, nt, hkd, hal, HS.out, rfl, ?_, bel_set (bel_set (bel_set g1 (by simp) _) (by simp) _) (by simp) _⟩
  exact OwnT.rdO (((ho2.low (by first | (simp; done) | (simp; omega)) _).low (by first | (simp; done) | (simp; omega)) _).low (by first | (simp; done) | (simp; omega)) _)
theorem DrawArgOk_any (A : Option Addr) (n c : Nat) (code : List UInt8) (w : World) (B : Nat) (hr : RdB w B A n code) (hB : B ≤ w.heap.size) (hn : n ≤ 70368744177664) :
    Calls Tryd.prog 8 #[.slice A n c] w fun e w' => ∃ (k : Int) (s : ByteArray) (vk vn : Int) (vs : ByteArray), s.size ≤ 30 ∧ vs.size ≤ 30 ∧ e = .returned (.agg #[.int .i64 k, .string s, .int .i64 vk, .int .i64 vn, .string vs]) ∧ Below w.heap.size w w' := by
  have HZ := Blk.new w 33 #[.int .i64 0, .string ⟨#[]⟩, .int .i64 0, .int .i64 0, .string ⟨#[]⟩]
  have hr3 : RdY (w.alloc (.cells #[.int .i64 0, .string ⟨#[]⟩, .int .i64 0, .int .i64 0, .string ⟨#[]⟩] 33)) B A n code := RdY.alloc ⟨hB, hr⟩ _
  have g0 : Below w.heap.size w (w.alloc (.cells #[.int .i64 0, .string ⟨#[]⟩, .int .i64 0, .int .i64 0, .string ⟨#[]⟩] 33)) := bel_alloc (bel_refl w) _
  go_enter Tryd.func8, Tryd.ntmps8
  go_wp2_with fail
  refine (l1New_any A n c code _ B hr3.b hr3.le hn).mono ?_
  rintro e w1 ⟨rfl, hc1, hb1⟩
  replace HZ := HZ.kept hb1
  simp at hc1
  have hl1 := hc1.lt
  have g1 : Below w.heap.size w w1 := bel_trans g0 hb1
  clear hb1 g0 hr3
  go_wp2_with fail
  refine (l6Arg_any (w.heap.size + 1) code _ hc1).mono ?_
  rintro e w2 ⟨k, s, vk, vn, vs, hss, hvs, rfl, hc2, hg2⟩
  replace HZ := HZ.grown hg2 (by omega)
  replace g1 := g1.trans (below_grown' hg2 (by omega) (by omega))
  have hl2 := hc2.lt
  have HB := Blk.new w2 33 #[.int .i64 k, .string s, .int .i64 vk, .int .i64 vn, .string vs]
  replace HZ := HZ.alloc (.cells #[.int .i64 k, .string s, .int .i64 vk, .int .i64 vn, .string vs] 33)
  replace hc2 := hc2.alloc (.cells #[.int .i64 k, .string s, .int .i64 vk, .int .i64 vn, .string vs] 33)
  replace g1 := bel_alloc g1 (.cells #[.int .i64 k, .string s, .int .i64 vk, .int .i64 vn, .string vs] 33)
  clear hg2 hc1
  go_wp2_with fail
  refine (l1Below_any (w.heap.size + 1) code 6 _ hc2 (by omega)).mono ?_
  rintro e w3 ⟨x, hx, rfl, hc3, hg3⟩
  have hs3 := hg3.size
  simp at hs3
  replace HZ := HZ.grown hg3 (by omega)
  replace HB := HB.grown hg3 (by omega)
  replace g1 := g1.trans (below_grown' hg3 (by omega) (by simp; omega))
  have hl3 := hc3.lt
  clear hc2 hg3
  by_cases b0 : x = 0
  · subst b0
    go_wp2_with fail
    refine (l1Below_any (w.heap.size + 1) code 5 _ hc3 (by omega)).mono ?_
    rintro e w4 ⟨y, hy, rfl, hc4, hg4⟩
    replace HZ := HZ.grown hg4 (by omega)
    replace HB := HB.grown hg4 (by omega)
    replace g1 := g1.trans (below_grown' hg4 (by omega) (by omega))
    obtain ⟨⟨d0, d1, d2, d3, d4⟩, ⟨e0, e1, e2, e3, e4⟩⟩ := HB.five
    replace HZ := HZ.far (p := ⟨w2.heap.size, 0, none⟩) (by simp; omega) (.int .i64 (y : Int))
    obtain ⟨⟨z0, z1, z2, z3, z4⟩, ⟨y0, y1, y2, y3, y4⟩⟩ := HZ.five
    have hs4 := hg4.size
    clear hg4 hc4 hc3 HZ
    go_wp2
    refine bodyPost_ret (v := .agg #[.int .i64 (y : Int), .string s, .int .i64 vk, .int .i64 vn, .string vs]) (by simp [results, Tryd.results8, go_sem, z0, z1, z2, z3, z4]; try rfl) rfl ⟨(y : Int), s, vk, vn, vs, hss, hvs, rfl, (by repeat (first | with_reducible exact bel_refl _ | with_reducible assumption | with_reducible refine bel_set ?_ (by first | (simp; done) | (simp; omega) | omega) _ | with_reducible refine bel_alloc ?_ _ | with_reducible refine bel_drew ?_ | with_reducible refine bel_drewN ?_ _ | with_reducible refine bel_trans ?_ (by assumption)))⟩
  have q0 : ((x : Int) == 0) = false := by simp; omega
  by_cases b1 : x = 1
  · subst b1
    go_wp2_with fail
    refine (l1Str_any (w.heap.size + 1) code _ 4 4 [⟨#[]⟩, ⟨#[120]⟩, ⟨#[88]⟩, ⟨#[84, 104, 105, 114, 116, 101, 101, 110, 98, 121, 116, 101, 115]⟩] _ _ (hc3.alloc _) (Rd.lit w3 9 _ 4 rfl) (by omega) (by omega) (ne_lit hl3)).mono ?_
    rintro e w4 ⟨s2, hs, rfl, hc4, hg4⟩
    have hss2 : s2.size ≤ 30 := by
      simp only [List.mem_cons, List.not_mem_nil, or_false] at hs
      rcases hs with rfl | rfl | rfl | rfl <;> decide
    clear hs
    replace HZ := (HZ.alloc _).grown hg4 (by omega)
    replace HB := (HB.alloc _).grown hg4 (by omega)
    replace g1 := (bel_alloc g1 _).trans (below_grown' hg4 (by omega) (by simp; omega))
    obtain ⟨⟨d0, d1, d2, d3, d4⟩, ⟨e0, e1, e2, e3, e4⟩⟩ := HB.five
    replace HZ := HZ.far (p := ⟨w2.heap.size, 1, none⟩) (by simp; omega) (.string s2)
    obtain ⟨⟨z0, z1, z2, z3, z4⟩, ⟨y0, y1, y2, y3, y4⟩⟩ := HZ.five
    have hs4 := hg4.size
    simp at hs4
    clear hg4 hc4 hc3 HZ
    go_wp2
    refine bodyPost_ret (v := .agg #[.int .i64 k, .string s2, .int .i64 vk, .int .i64 vn, .string vs]) (by simp [results, Tryd.results8, go_sem, z0, z1, z2, z3, z4]; try rfl) rfl ⟨k, s2, vk, vn, vs, hss2, hvs, rfl, (by repeat (first | with_reducible exact bel_refl _ | with_reducible assumption | with_reducible refine bel_set ?_ (by first | (simp; done) | (simp; omega) | omega) _ | with_reducible refine bel_alloc ?_ _ | with_reducible refine bel_drew ?_ | with_reducible refine bel_drewN ?_ _ | with_reducible refine bel_trans ?_ (by assumption)))⟩
  have q1 : ((x : Int) == 1) = false := by simp; omega
  by_cases b2 : x = 2
  · subst b2
    go_wp2_with fail
    refine (l2Any_any (w.heap.size + 1) code _ hc3).mono ?_
    rintro e w4 ⟨vk2, vn2, vs2, hvs2, rfl, hc4, hg4⟩
    replace HZ := HZ.grown hg4 (by omega)
    replace HB := HB.grown hg4 (by omega)
    replace g1 := g1.trans (below_grown' hg4 (by omega) (by omega))
    obtain ⟨⟨d0, d1, d2, d3, d4⟩, ⟨e0, e1, e2, e3, e4⟩⟩ := HB.five
    replace HZ := ((HZ.far (p := ⟨w2.heap.size, 2, none⟩) (by simp; omega) (.int .i64 vk2)).far (p := ⟨w2.heap.size, 3, none⟩) (by simp; omega) (.int .i64 vn2)).far (p := ⟨w2.heap.size, 4, none⟩) (by simp; omega) (.string vs2)
    obtain ⟨⟨z0, z1, z2, z3, z4⟩, ⟨y0, y1, y2, y3, y4⟩⟩ := HZ.five
    have hs4 := hg4.size
    clear hg4 hc4 hc3 HZ
    go_wp2
    refine bodyPost_ret (v := .agg #[.int .i64 k, .string s, .int .i64 vk2, .int .i64 vn2, .string vs2]) (by simp [results, Tryd.results8, go_sem, z0, z1, z2, z3, z4]; try rfl) rfl ⟨k, s, vk2, vn2, vs2, hss, hvs2, rfl, (by repeat (first | with_reducible exact bel_refl _ | with_reducible assumption | with_reducible refine bel_set ?_ (by first | (simp; done) | (simp; omega) | omega) _ | with_reducible refine bel_alloc ?_ _ | with_reducible refine bel_drew ?_ | with_reducible refine bel_drewN ?_ _ | with_reducible refine bel_trans ?_ (by assumption)))⟩
  have q2 : ((x : Int) == 2) = false := by simp; omega
  obtain ⟨⟨d0, d1, d2, d3, d4⟩, ⟨e0, e1, e2, e3, e4⟩⟩ := HB.five
  obtain ⟨⟨z0, z1, z2, z3, z4⟩, ⟨y0, y1, y2, y3, y4⟩⟩ := HZ.five
  clear HZ
  go_wp2
  refine bodyPost_ret (v := .agg #[.int .i64 k, .string s, .int .i64 vk, .int .i64 vn, .string vs]) (by simp [results, Tryd.results8, go_sem, z0, z1, z2, z3, z4]; try rfl) rfl ⟨k, s, vk, vn, vs, hss, hvs, rfl, (by repeat (first | with_reducible exact bel_refl _ | with_reducible assumption | with_reducible refine bel_set ?_ (by first | (simp; done) | (simp; omega) | omega) _ | with_reducible refine bel_alloc ?_ _ | with_reducible refine bel_drew ?_ | with_reducible refine bel_drewN ?_ _ | with_reducible refine bel_trans ?_ (by assumption)))⟩
end Go.Proofs.YtaacdnnjmiaaaaaDoor
