/- What the drawing functions of arguments and binds answer. No condition but lengths. -/
import Derived.Test.YtaacdnnjmiaaaaaDoorDraw3
import Derived.Test.YtaacdnnjmiaaaaaDoorArg
import Derived.Test.YtaacdnnjmiaaaaaDoorLit
namespace Go.Proofs.YtaacdnnjmiaaaaaDoor
open Go.RowKit
set_option maxRecDepth 100000
set_option maxHeartbeats 4000000
def DrawnA (g : Nat) (code : List UInt8) (w : World) (e : Ending) (w' : World) : Prop :=
  ∃ (k : Int) (s : ByteArray) (vk vn : Int) (vs : ByteArray), s.size ≤ 30 ∧ vs.size ≤ 30 ∧ e = .returned (.agg #[.int .i64 k, .string s, .int .i64 vk, .int .i64 vn, .string vs]) ∧ Cur w' g code ∧ w.grownBy w' (some g)
theorem l6Val_any (k n : Int) (s : ByteArray) (w : World) : Calls Tryd.prog 34 #[.agg #[.int .i64 k, .int .i64 n, .string s]] w fun e w' => e = .returned (.agg #[.int .i64 2, .string ⟨#[]⟩, .int .i64 k, .int .i64 n, .string s]) ∧ Below w.heap.size w w' := by
  go_enter Tryd.func34, Tryd.ntmps34
  go_wp2
  refine bodyPost_ret (v := .agg #[.int .i64 2, .string ⟨#[]⟩, .int .i64 k, .int .i64 n, .string s]) (by simp [results, Tryd.results34, go_sem]; try rfl) rfl ⟨rfl, ?_⟩
  exact (by repeat (first | with_reducible exact bel_refl _ | with_reducible assumption | with_reducible refine bel_set ?_ (by first | (simp; done) | (simp; omega) | omega) _ | with_reducible refine bel_alloc ?_ _ | with_reducible refine bel_drew ?_ | with_reducible refine bel_drewN ?_ _ | with_reducible refine bel_trans ?_ (by assumption)))
theorem l6Var_any (s : ByteArray) (w : World) : Calls Tryd.prog 36 #[.string s] w fun e w' => e = .returned (.agg #[.int .i64 1, .string s, .int .i64 0, .int .i64 0, .string ⟨#[]⟩]) ∧ Below w.heap.size w w' := by
  go_enter Tryd.func36, Tryd.ntmps36
  go_wp2
  refine bodyPost_ret (v := .agg #[.int .i64 1, .string s, .int .i64 0, .int .i64 0, .string ⟨#[]⟩]) (by simp [results, Tryd.results36, go_sem]; try rfl) rfl ⟨rfl, ?_⟩
  exact (by repeat (first | with_reducible exact bel_refl _ | with_reducible assumption | with_reducible refine bel_set ?_ (by first | (simp; done) | (simp; omega) | omega) _ | with_reducible refine bel_alloc ?_ _ | with_reducible refine bel_drew ?_ | with_reducible refine bel_drewN ?_ _ | with_reducible refine bel_trans ?_ (by assumption)))
theorem Blk.five {w : World} {b : Nat} {t : TypeId} {x y z u v : Value} (h : Blk w b t #[x, y, z, u, v]) :
    (w.cell? ⟨b, 0, none⟩ = some x ∧ w.cell? ⟨b, 1, none⟩ = some y ∧ w.cell? ⟨b, 2, none⟩ = some z ∧ w.cell? ⟨b, 3, none⟩ = some u ∧ w.cell? ⟨b, 4, none⟩ = some v) ∧ (w.frozen? ⟨b, 0, none⟩ = false ∧ w.frozen? ⟨b, 1, none⟩ = false ∧ w.frozen? ⟨b, 2, none⟩ = false ∧ w.frozen? ⟨b, 3, none⟩ = false ∧ w.frozen? ⟨b, 4, none⟩ = false) :=
  ⟨⟨h.cell 0, h.cell 1, h.cell 2, h.cell 3, h.cell 4⟩, ⟨h.frozen 0, h.frozen 1, h.frozen 2, h.frozen 3, h.frozen 4⟩⟩
theorem l6Arg_any (g : Nat) (code : List UInt8) (w : World) (hc : Cur w g code) : Calls Tryd.prog 18 #[.pointer (some ⟨g, 0, none⟩)] w (DrawnA g code w) := by
  have hg := hc.lt
  have HZ := Blk.new w 33 #[.int .i64 0, .string ⟨#[]⟩, .int .i64 0, .int .i64 0, .string ⟨#[]⟩]
  go_enter Tryd.func18, Tryd.ntmps18
  go_wp2_with fail
  refine (l1Below_any g code 6 _ (hc.alloc _) (by omega)).mono ?_
  rintro e w1 ⟨b, hb, rfl, hc1, hg1⟩
  replace HZ := HZ.grown hg1 (by omega)
  have hs1 := hg1.size
  simp at hs1
  have hl1 := hc1.lt
  replace hg1 := (World.grownBy_alloc w _ (some g)).trans hg1
  by_cases b0 : b = 0
  · subst b0
    obtain ⟨⟨c0, c1, c2, c3, c4⟩, ⟨f0, f1, f2, f3, f4⟩⟩ := HZ.five
    go_wp2
    refine bodyPost_ret (v := .agg #[.int .i64 3, .string ⟨#[]⟩, .int .i64 0, .int .i64 0, .string ⟨#[]⟩]) (by simp [results, Tryd.results18, go_sem, c0, c1, c2, c3, c4]) rfl ⟨3, ⟨#[]⟩, 0, 0, ⟨#[]⟩, by decide, by decide, rfl, (by repeat (first | with_reducible assumption | with_reducible refine Cur.set ?_ (by first | (simp; done) | (simp; omega) | omega) _ | with_reducible refine Cur.alloc ?_ _ | with_reducible refine Cur.drew ?_ | with_reducible refine Cur.below ?_ (by assumption))), (by repeat (first | with_reducible exact World.grownBy.refl _ _ | with_reducible assumption | with_reducible refine gr_alloc ?_ _ | with_reducible refine gr_drew ?_ | with_reducible refine gr_drewN ?_ _ | with_reducible refine gr_set ?_ (by first | (simp; done) | (simp; omega) | omega) _ | with_reducible refine World.grownBy.trans ?_ (by assumption) | with_reducible refine grown_below ?_ (by assumption)))⟩
  have q0 : ((b : Int) == 0) = false := by simp; omega
  by_cases b1 : b = 1
  · subst b1
    go_wp2_with fail
    refine (l3Small_any g code _ hc1).mono ?_
    rintro e w2 ⟨vk, vn, vs, hvs, rfl, hc2, hg2⟩
    replace HZ := HZ.grown hg2 (by omega)
    have hs2 := hg2.size
    go_wp2_with fail
    refine (l6Val_any vk vn vs _).mono ?_
    rintro e w3 ⟨rfl, hb3⟩
    replace HZ := HZ.kept hb3
    obtain ⟨⟨c0, c1, c2, c3, c4⟩, ⟨f0, f1, f2, f3, f4⟩⟩ := HZ.five
    have hc3 := Cur.below hc2 hb3
    have hg3 := gr_bel (World.grownBy.trans hg1 hg2) hb3 (by omega)
    go_wp2
    refine bodyPost_ret (v := .agg #[.int .i64 2, .string ⟨#[]⟩, .int .i64 vk, .int .i64 vn, .string vs]) (by simp [results, Tryd.results18, go_sem, c0, c1, c2, c3, c4]) rfl ⟨2, ⟨#[]⟩, vk, vn, vs, by decide, hvs, rfl, (by repeat (first | with_reducible assumption | with_reducible refine Cur.set ?_ (by first | (simp; done) | (simp; omega) | omega) _ | with_reducible refine Cur.alloc ?_ _ | with_reducible refine Cur.drew ?_ | with_reducible refine Cur.below ?_ (by assumption))), (by repeat (first | with_reducible exact World.grownBy.refl _ _ | with_reducible assumption | with_reducible refine gr_alloc ?_ _ | with_reducible refine gr_drew ?_ | with_reducible refine gr_drewN ?_ _ | with_reducible refine gr_set ?_ (by first | (simp; done) | (simp; omega) | omega) _ | with_reducible refine World.grownBy.trans ?_ (by assumption) | with_reducible refine grown_below ?_ (by assumption)))⟩
  have q1 : ((b : Int) == 1) = false := by simp; omega
  go_wp2_with fail
  refine (l1Str_any g code _ 4 4 [⟨#[88]⟩, ⟨#[89]⟩, ⟨#[90]⟩, ⟨#[88]⟩] _ _ (hc1.alloc _) (Rd.lit w1 9 _ 4 rfl) (by omega) (by omega) (ne_lit hl1)).mono ?_
  rintro e w2 ⟨s, hs, rfl, hc2, hg2⟩
  have hss : s.size ≤ 30 := by
    simp only [List.mem_cons, List.not_mem_nil, or_false] at hs
    rcases hs with rfl | rfl | rfl | rfl <;> decide
  clear hs
  replace HZ := (HZ.alloc _).grown hg2 (by omega)
  replace hg2 := (World.grownBy_alloc w1 _ (some g)).trans hg2
  have hs2 := hg2.size
  go_wp2_with fail
  refine (l6Var_any s _).mono ?_
  rintro e w3 ⟨rfl, hb3⟩
  replace HZ := HZ.kept hb3
  obtain ⟨⟨c0, c1, c2, c3, c4⟩, ⟨f0, f1, f2, f3, f4⟩⟩ := HZ.five
  have hc3 := Cur.below hc2 hb3
  have hg3 := gr_bel (World.grownBy.trans hg1 hg2) hb3 (by omega)
  go_wp2
  refine bodyPost_ret (v := .agg #[.int .i64 1, .string s, .int .i64 0, .int .i64 0, .string ⟨#[]⟩]) (by simp [results, Tryd.results18, go_sem, c0, c1, c2, c3, c4]) rfl ⟨1, s, 0, 0, ⟨#[]⟩, hss, by decide, rfl, (by repeat (first | with_reducible assumption | with_reducible refine Cur.set ?_ (by first | (simp; done) | (simp; omega) | omega) _ | with_reducible refine Cur.alloc ?_ _ | with_reducible refine Cur.drew ?_ | with_reducible refine Cur.below ?_ (by assumption))), (by repeat (first | with_reducible exact World.grownBy.refl _ _ | with_reducible assumption | with_reducible refine gr_alloc ?_ _ | with_reducible refine gr_drew ?_ | with_reducible refine gr_drewN ?_ _ | with_reducible refine gr_set ?_ (by first | (simp; done) | (simp; omega) | omega) _ | with_reducible refine World.grownBy.trans ?_ (by assumption) | with_reducible refine grown_below ?_ (by assumption)))⟩
end Go.Proofs.YtaacdnnjmiaaaaaDoor
