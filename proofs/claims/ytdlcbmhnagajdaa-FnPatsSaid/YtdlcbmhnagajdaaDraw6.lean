/- What the drawing functions of arguments and binds answer. No condition but lengths. -/
import Derived.Test.YtdlcbmhnagajdaaDraw3
import Derived.Test.YtdlcbmhnagajdaaArg
import Derived.Test.YtdlcbmhnagajdaaBindS
import Derived.Test.YtdlcbmhnagajdaaLit
namespace Go.Proofs.Ytdlcbmhnagajdaa
open Go.RowKit
set_option maxRecDepth 100000
set_option maxHeartbeats 4000000
def DrawnA (g : Nat) (code : List UInt8) (w : World) (e : Ending) (w' : World) : Prop :=
  ∃ (k : Int) (s : ByteArray) (vk vn : Int) (vs : ByteArray), s.size ≤ 30 ∧ vs.size ≤ 30 ∧ e = .returned (.agg #[.int .i64 k, .string s, .int .i64 vk, .int .i64 vn, .string vs]) ∧ Cur w' g code ∧ w.grownBy w' (some g)
theorem l6Val_any (k n : Int) (s : ByteArray) (w : World) : Calls Try.prog 20 #[.agg #[.int .i64 k, .int .i64 n, .string s]] w fun e w' => e = .returned (.agg #[.int .i64 2, .string ⟨#[]⟩, .int .i64 k, .int .i64 n, .string s]) ∧ Below w.heap.size w w' := by
  go_enter Try.func20, Try.ntmps20
  go_wp2
  refine bodyPost_ret (v := .agg #[.int .i64 2, .string ⟨#[]⟩, .int .i64 k, .int .i64 n, .string s]) (by simp [results, Try.results20, go_sem]; try rfl) rfl ⟨rfl, ?_⟩
  exact (by repeat (first | with_reducible exact bel_refl _ | with_reducible assumption | with_reducible refine bel_set ?_ (by first | (simp; done) | (simp; omega) | omega) _ | with_reducible refine bel_alloc ?_ _ | with_reducible refine bel_drew ?_ | with_reducible refine bel_drewN ?_ _ | with_reducible refine bel_trans ?_ (by assumption)))
theorem l6Var_any (s : ByteArray) (w : World) : Calls Try.prog 21 #[.string s] w fun e w' => e = .returned (.agg #[.int .i64 1, .string s, .int .i64 0, .int .i64 0, .string ⟨#[]⟩]) ∧ Below w.heap.size w w' := by
  go_enter Try.func21, Try.ntmps21
  go_wp2
  refine bodyPost_ret (v := .agg #[.int .i64 1, .string s, .int .i64 0, .int .i64 0, .string ⟨#[]⟩]) (by simp [results, Try.results21, go_sem]; try rfl) rfl ⟨rfl, ?_⟩
  exact (by repeat (first | with_reducible exact bel_refl _ | with_reducible assumption | with_reducible refine bel_set ?_ (by first | (simp; done) | (simp; omega) | omega) _ | with_reducible refine bel_alloc ?_ _ | with_reducible refine bel_drew ?_ | with_reducible refine bel_drewN ?_ _ | with_reducible refine bel_trans ?_ (by assumption)))
theorem Blk.five {w : World} {b : Nat} {t : TypeId} {x y z u v : Value} (h : Blk w b t #[x, y, z, u, v]) :
    (w.cell? ⟨b, 0, none⟩ = some x ∧ w.cell? ⟨b, 1, none⟩ = some y ∧ w.cell? ⟨b, 2, none⟩ = some z ∧ w.cell? ⟨b, 3, none⟩ = some u ∧ w.cell? ⟨b, 4, none⟩ = some v) ∧ (w.frozen? ⟨b, 0, none⟩ = false ∧ w.frozen? ⟨b, 1, none⟩ = false ∧ w.frozen? ⟨b, 2, none⟩ = false ∧ w.frozen? ⟨b, 3, none⟩ = false ∧ w.frozen? ⟨b, 4, none⟩ = false) :=
  ⟨⟨h.cell 0, h.cell 1, h.cell 2, h.cell 3, h.cell 4⟩, ⟨h.frozen 0, h.frozen 1, h.frozen 2, h.frozen 3, h.frozen 4⟩⟩
theorem l6Arg_any (g : Nat) (code : List UInt8) (w : World) (hc : Cur w g code) : Calls Try.prog 17 #[.pointer (some ⟨g, 0, none⟩)] w (DrawnA g code w) := by
  have hg := hc.lt
  have HZ := Blk.new w 41 #[.int .i64 0, .string ⟨#[]⟩, .int .i64 0, .int .i64 0, .string ⟨#[]⟩]
  go_enter Try.func17, Try.ntmps17
  go_wp2_with fail
  refine (l1Below_any g code 6 _ (hc.alloc _) (by omega)).mono ?_
  rintro e w1 ⟨b, hb, rfl, hc1, hg1⟩
  replace HZ := HZ.grown hg1 (by omega)
  have hs1 := hg1.size
  simp at hs1
  have hl1 := hc1.lt
  replace hg1 := (World.grownBy_alloc w _ (some g)).trans hg1
  by_cases b0 : b = 0
  · subst b0
    obtain ⟨⟨c0, c1, c2, c3, c4⟩, ⟨f0, f1, f2, f3, f4⟩⟩ := HZ.five
    go_wp2
    refine bodyPost_ret (v := .agg #[.int .i64 3, .string ⟨#[]⟩, .int .i64 0, .int .i64 0, .string ⟨#[]⟩]) (by simp [results, Try.results17, go_sem, c0, c1, c2, c3, c4]) rfl ⟨3, ⟨#[]⟩, 0, 0, ⟨#[]⟩, by decide, by decide, rfl, (by repeat (first | with_reducible assumption | with_reducible refine Cur.set ?_ (by first | (simp; done) | (simp; omega) | omega) _ | with_reducible refine Cur.alloc ?_ _ | with_reducible refine Cur.drew ?_ | with_reducible refine Cur.below ?_ (by assumption))), (by repeat (first | with_reducible exact World.grownBy.refl _ _ | with_reducible assumption | with_reducible refine gr_alloc ?_ _ | with_reducible refine gr_drew ?_ | with_reducible refine gr_drewN ?_ _ | with_reducible refine gr_set ?_ (by first | (simp; done) | (simp; omega) | omega) _ | with_reducible refine World.grownBy.trans ?_ (by assumption) | with_reducible refine grown_below ?_ (by assumption)))⟩
  have q0 : ((b : Int) == 0) = false := by simp; omega
  by_cases b1 : b = 1
  · subst b1
    go_wp2_with fail
    refine (l3Small_any g code _ hc1).mono ?_
    rintro e w2 ⟨vk, vn, vs, hvs, rfl, hc2, hg2⟩
    replace HZ := HZ.grown hg2 (by omega)
    have hs2 := hg2.size
    go_wp2_with fail
    refine (l6Val_any vk vn vs _).mono ?_
    rintro e w3 ⟨rfl, hb3⟩
    replace HZ := HZ.kept hb3
    obtain ⟨⟨c0, c1, c2, c3, c4⟩, ⟨f0, f1, f2, f3, f4⟩⟩ := HZ.five
    have hc3 := Cur.below hc2 hb3
    have hg3 := gr_bel (World.grownBy.trans hg1 hg2) hb3 (by omega)
    go_wp2
    refine bodyPost_ret (v := .agg #[.int .i64 2, .string ⟨#[]⟩, .int .i64 vk, .int .i64 vn, .string vs]) (by simp [results, Try.results17, go_sem, c0, c1, c2, c3, c4]) rfl ⟨2, ⟨#[]⟩, vk, vn, vs, by decide, hvs, rfl, (by repeat (first | with_reducible assumption | with_reducible refine Cur.set ?_ (by first | (simp; done) | (simp; omega) | omega) _ | with_reducible refine Cur.alloc ?_ _ | with_reducible refine Cur.drew ?_ | with_reducible refine Cur.below ?_ (by assumption))), (by repeat (first | with_reducible exact World.grownBy.refl _ _ | with_reducible assumption | with_reducible refine gr_alloc ?_ _ | with_reducible refine gr_drew ?_ | with_reducible refine gr_drewN ?_ _ | with_reducible refine gr_set ?_ (by first | (simp; done) | (simp; omega) | omega) _ | with_reducible refine World.grownBy.trans ?_ (by assumption) | with_reducible refine grown_below ?_ (by assumption)))⟩
  have q1 : ((b : Int) == 1) = false := by simp; omega
  go_wp2_with fail
  refine (l1Str_any g code _ 4 4 [⟨#[88]⟩, ⟨#[89]⟩, ⟨#[90]⟩, ⟨#[88]⟩] _ _ (hc1.alloc _) (Rd.lit w1 9 _ 4 rfl) (by omega) (by omega) (ne_lit hl1)).mono ?_
  rintro e w2 ⟨s, hs, rfl, hc2, hg2⟩
  have hss : s.size ≤ 30 := by
    simp only [List.mem_cons, List.not_mem_nil, or_false] at hs
    rcases hs with rfl | rfl | rfl | rfl <;> decide
  clear hs
  replace HZ := (HZ.alloc _).grown hg2 (by omega)
  replace hg2 := (World.grownBy_alloc w1 _ (some g)).trans hg2
  have hs2 := hg2.size
  go_wp2_with fail
  refine (l6Var_any s _).mono ?_
  rintro e w3 ⟨rfl, hb3⟩
  replace HZ := HZ.kept hb3
  obtain ⟨⟨c0, c1, c2, c3, c4⟩, ⟨f0, f1, f2, f3, f4⟩⟩ := HZ.five
  have hc3 := Cur.below hc2 hb3
  have hg3 := gr_bel (World.grownBy.trans hg1 hg2) hb3 (by omega)
  go_wp2
  refine bodyPost_ret (v := .agg #[.int .i64 1, .string s, .int .i64 0, .int .i64 0, .string ⟨#[]⟩]) (by simp [results, Try.results17, go_sem, c0, c1, c2, c3, c4]) rfl ⟨1, s, 0, 0, ⟨#[]⟩, hss, by decide, rfl, (by repeat (first | with_reducible assumption | with_reducible refine Cur.set ?_ (by first | (simp; done) | (simp; omega) | omega) _ | with_reducible refine Cur.alloc ?_ _ | with_reducible refine Cur.drew ?_ | with_reducible refine Cur.below ?_ (by assumption))), (by repeat (first | with_reducible exact World.grownBy.refl _ _ | with_reducible assumption | with_reducible refine gr_alloc ?_ _ | with_reducible refine gr_drew ?_ | with_reducible refine gr_drewN ?_ _ | with_reducible refine gr_set ?_ (by first | (simp; done) | (simp; omega) | omega) _ | with_reducible refine World.grownBy.trans ?_ (by assumption) | with_reducible refine grown_below ?_ (by assumption)))⟩
theorem l6Binds_any (g : Nat) (code : List UInt8) (w : World) (hc : Cur w g code) : Calls Try.prog 13 #[.pointer (some ⟨g, 0, none⟩)] w fun e w' =>
    ∃ (A : Option Addr) (c : Nat) (l : List Bd), l.length ≤ 2 ∧ (∀ b ∈ l, b.s.size ≤ 30 ∧ b.v.s.size ≤ 30) ∧ e = .returned (.slice A l.length c) ∧ OwnT bC 4 w' w.heap.size 49 (.slice A l.length c) l ∧ Cur w' g code ∧ w.grownBy w' (some g) := by
  obtain ⟨i0, hi, hz0, hz1, hz2⟩ := info_parts infoBind
  have HI := Lib.hid hi; clear hi
  have hg := hc.lt
  have hlit : OwnT bC 4 (w.alloc (.cells #[] 49)) w.heap.size 49 (.slice (some ⟨w.heap.size, 0, none⟩) 0 0) [] := lit0 w 49
  go_enter Try.func13, Try.ntmps13
  go_wp2_with fail
  refine (l1Below_any g code 3 _ (hc.alloc _) (by omega)).mono ?_
  rintro e w1 ⟨x, hx, rfl, hc1, hg1⟩
  have ho1 := hlit.grownG hg1 hg
  have hg1' := (World.grownBy_alloc w (.cells #[] 49) (some g)).trans hg1
  go_wp2
  go_loopw [3, 4] (fun u i wr => ∃ (j : Nat) (acc : List Bd), i = .int .i64 j ∧ acc.length + j ≤ 2 ∧ (∀ b ∈ acc, b.s.size ≤ 30 ∧ b.v.s.size ≤ 30) ∧ OwnT bC 4 wr w.heap.size 49 u acc ∧ Cur wr g code ∧ w.grownBy wr (some g)) (fun _ i _ => (intOf i).toNat)
  case atStart => exact ⟨x, [], rfl, by simp; omega, fun b h => absurd h List.not_mem_nil, ho1, hc1, hg1'⟩
  case round =>
    obtain ⟨j, acc, rfl, hj, hz, ho, hck, hgk⟩ := hrel
    have HZ := Lib.hid hz; clear hz
    obtain ⟨Au, cu, rfl, hcu, _⟩ := ho.form
    have hl1 := hck.lt
    have hsk := hgk.size
    by_cases h0 : 0 < j
    · have hj0 : (0:Int) < (j:Int) := by omega
      go_wp2_with fail
      refine (l1Str_any g code _ 3 3 [⟨#[88]⟩, ⟨#[89]⟩, ⟨#[87]⟩] _ _ (hck.alloc _) (Rd.lit wr 9 _ 3 rfl) (by omega) (by omega) (ne_lit hl1)).mono ?_
      rintro e w2 ⟨s, hs, rfl, hc2, hg2⟩
      have hss : s.size ≤ 30 := by
        simp only [List.mem_cons, List.not_mem_nil, or_false] at hs
        rcases hs with rfl | rfl | rfl <;> decide
      clear hs
      have ho2 := (ho.alloc (.cells #[.string ⟨#[88]⟩, .string ⟨#[89]⟩, .string ⟨#[87]⟩] 9)).grownG hg2 hg
      have hg2' := World.grownBy.trans (gr_alloc hgk _) hg2
      clear hg2
      go_wp2_with fail
      refine (l3Small_any g code _ hc2).mono ?_
      rintro e w3 ⟨vk, vn, vs, hvs, rfl, hc3, hg3⟩
      have ho3 := ho2.grownG hg3 hg
      have hg3' := World.grownBy.trans hg2' hg3
      have hs3 := hg3'.size
      clear hg3
      go_wp2_with (at_builtin; refine appT rfl (.tmp 12) (.tmp 19) _ rfl bC_sz w.heap.size 49 i0 Try.underlying30 HI.out hz0 hz1 hz2 rfl (by omega) _ acc rfl (ho3.alloc _) _ 1 1 [⟨s, ⟨vk, vn, vs⟩⟩] rfl (RdT.new1 bC_sz w3 49 ⟨s, ⟨vk, vn, vs⟩⟩) (by intro u hu; simp [fl, bC] at hu; rcases hu with rfl | rfl | rfl | rfl <;> rfl) (by omega) (by simp; omega) ?_; intro v' w4 ho4 hb4 hs4)
      have hc4 := Cur.below' (hc3.alloc (.cells #[.string s, .int .i64 vk, .int .i64 vn, .string vs] 49)) hb4 hg
      have hg4 := gr_bel (gr_alloc hg3' (.cells #[.string s, .int .i64 vk, .int .i64 vn, .string vs] 49)) hb4 (Nat.le_refl _)
      go_roundw
      case rel => exact ⟨j - 1, acc ++ [⟨s, ⟨vk, vn, vs⟩⟩], by go_num, by rw [List.length_append]; simp; omega, fun b hb => (by rcases List.mem_append.1 hb with h | h; exact HZ.out b h; rw [List.mem_singleton] at h; rw [h]; exact ⟨hss, hvs⟩), ho4, hc4, hg4⟩
      case measure => simp [intOf]; omega
    · go_wp2
      go_ret
      exact ⟨Au, cu, acc, by omega, HZ.out, rfl, ho, hck, hgk⟩
end Go.Proofs.Ytdlcbmhnagajdaa
