import Derived.Test.YtgcjhicpkmhbaaaDoorBlk
import Derived.Test.YtgcjhicpkmhbaaaDoorApp2
import Derived.Test.YtgcjhicpkmhbaaaDoorPkTokenS
import Derived.Test.YtgcjhicpkmhbaaaDoorLit
import Derived.Test.YtgcjhicpkmhbaaaDoorTokenOk
/- Drawn tokens: each is right. No condition but lengths. -/
namespace Go.Proofs.YtgcjhicpkmhbaaaDoor
open Go.RowKit
set_option maxRecDepth 100000
set_option maxHeartbeats 4000000
def fineT (t : Vl) : Prop := tokenOk t = true
def DrawnT (g : Nat) (code : List UInt8) (w : World) (e : Ending) (w' : World) : Prop :=
  ∃ t : Vl, fineT t ∧ e = .returned (.agg #[.int .i64 t.k, .int .i64 t.n, .string t.s]) ∧ Cur w' g code ∧ w.grownBy w' (some g)
theorem OwnT.grownG {α : Type} {f : α → List Value} {z : Nat} {w w' : World} {base g : Nat} {e : TypeId} {v : Value} {xs : List α} (h : OwnT f z w base e v xs) (hg : w.grownBy w' (some g)) (hb : g < base) : OwnT f z w' base e v xs :=
  World.ownsRow.kept h hg (by cases hv : v.ownBlock with | none => exact .inl rfl | some b => exact .inr fun e => by have := (World.ownsRow.lt h b hv).1; injection e with e; omega)
theorem gr_bel {a w w' : World} {g B : Nat} (h : a.grownBy w (some g)) (hb : Below B w w') (hB : a.heap.size ≤ B) : a.grownBy w' (some g) :=
  ⟨hb.os.trans h.os, hb.tape.trans h.tape, hb.output.trans h.output, Nat.le_trans h.size hb.size, fun i hi hne => (hb.block i (by omega)).trans (h.block i hi hne)⟩
theorem l5Token_any (g : Nat) (code : List UInt8) (w : World) (hc : Cur w g code) : Calls Tryd.prog 57 #[.pointer (some ⟨g, 0, none⟩)] w (DrawnT g code w) := by
  have hg := hc.lt
  have HZ := Blk.new w 34 #[.int .i64 0, .int .i64 0, .string ⟨#[]⟩]
  go_enter Tryd.func57, Tryd.ntmps57
  go_wp2_with fail
  refine (l1Below_any g code 5 _ (hc.alloc _) (by omega)).mono ?_
  rintro e w1 ⟨x, hx, rfl, hc1, hg1⟩
  replace HZ := HZ.grown hg1 (by omega)
  have hs1 := hg1.size
  simp at hs1
  have hl1 := hc1.lt
  replace hg1 := (World.grownBy_alloc w _ (some g)).trans hg1
  by_cases b0 : x = 0
  · subst b0
    go_wp2_with fail
    refine (l1Int_any g code _ 4 4 [0, 7, 42, 1000000000] _ _ (hc1.alloc _) (Rd.lit w1 3 _ 4 rfl) (by omega) (by omega) (ne_lit hl1)).mono ?_
    rintro e w2 ⟨m, hs, rfl, hc2, hg2⟩
    have hok : fineT ⟨1, m, ⟨#[]⟩⟩ := by
      simp only [List.mem_cons, List.not_mem_nil, or_false] at hs
      unfold fineT
      rcases hs with rfl | rfl | rfl | rfl <;> decide
    clear hs
    replace HZ := (HZ.alloc _).grown hg2 (by omega)
    obtain ⟨c0, c1, c2, f0, f1, f2⟩ := HZ.three
    have hzl := HZ.lt
    replace hg2 := (World.grownBy_alloc w1 _ (some g)).trans hg2
    go_wp2
    refine bodyPost_ret (v := .agg #[.int .i64 1, .int .i64 m, .string ⟨#[]⟩]) (by simp [results, Tryd.results57, go_sem, c0, c1, c2]) rfl ⟨⟨1, m, ⟨#[]⟩⟩, hok, rfl, (by repeat (first | with_reducible assumption | with_reducible refine Cur.set ?_ (by first | (simp; done) | (simp; omega) | omega) _ | with_reducible refine Cur.alloc ?_ _ | with_reducible refine Cur.drew ?_ | with_reducible refine Cur.below ?_ (by assumption))), (by repeat (first | with_reducible exact World.grownBy.refl _ _ | with_reducible assumption | with_reducible refine gr_alloc ?_ _ | with_reducible refine gr_drew ?_ | with_reducible refine gr_drewN ?_ _ | with_reducible refine gr_set ?_ (by first | (simp; done) | (simp; omega) | omega) _ | with_reducible refine World.grownBy.trans ?_ (by assumption) | with_reducible refine grown_below ?_ (by assumption)))⟩
  have q0 : ((x : Int) == 0) = false := by simp; omega
  by_cases b1 : x = 1
  · subst b1
    go_wp2_with fail
    refine (l1Str_any g code _ 3 3 [⟨#[114, 117, 108, 101]⟩, ⟨#[97, 95, 49]⟩, ⟨#[111, 114, 100, 101, 114]⟩] _ _ (hc1.alloc _) (Rd.lit w1 9 _ 3 rfl) (by omega) (by omega) (ne_lit hl1)).mono ?_
    rintro e w2 ⟨s, hs, rfl, hc2, hg2⟩
    have hok : fineT ⟨2, 0, s⟩ := by
      simp only [List.mem_cons, List.not_mem_nil, or_false] at hs
      unfold fineT
      rcases hs with rfl | rfl | rfl <;> first | decide | (simp [tokenOk, markOk, marks1, ByteArray.toList_eq])
    clear hs
    replace HZ := (HZ.alloc _).grown hg2 (by omega)
    obtain ⟨c0, c1, c2, f0, f1, f2⟩ := HZ.three
    have hzl := HZ.lt
    replace hg2 := (World.grownBy_alloc w1 _ (some g)).trans hg2
    go_wp2
    refine bodyPost_ret (v := .agg #[.int .i64 2, .int .i64 0, .string s]) (by simp [results, Tryd.results57, go_sem, c0, c1, c2]) rfl ⟨⟨2, 0, s⟩, hok, rfl, (by repeat (first | with_reducible assumption | with_reducible refine Cur.set ?_ (by first | (simp; done) | (simp; omega) | omega) _ | with_reducible refine Cur.alloc ?_ _ | with_reducible refine Cur.drew ?_ | with_reducible refine Cur.below ?_ (by assumption))), (by repeat (first | with_reducible exact World.grownBy.refl _ _ | with_reducible assumption | with_reducible refine gr_alloc ?_ _ | with_reducible refine gr_drew ?_ | with_reducible refine gr_drewN ?_ _ | with_reducible refine gr_set ?_ (by first | (simp; done) | (simp; omega) | omega) _ | with_reducible refine World.grownBy.trans ?_ (by assumption) | with_reducible refine grown_below ?_ (by assumption)))⟩
  have q1 : ((x : Int) == 1) = false := by simp; omega
  by_cases b2 : x = 2
  · subst b2
    go_wp2_with fail
    refine (l1Str_any g code _ 3 3 [⟨#[88]⟩, ⟨#[73, 100, 49]⟩, ⟨#[65, 95, 98]⟩] _ _ (hc1.alloc _) (Rd.lit w1 9 _ 3 rfl) (by omega) (by omega) (ne_lit hl1)).mono ?_
    rintro e w2 ⟨s, hs, rfl, hc2, hg2⟩
    have hok : fineT ⟨3, 0, s⟩ := by
      simp only [List.mem_cons, List.not_mem_nil, or_false] at hs
      unfold fineT
      rcases hs with rfl | rfl | rfl <;> first | decide | (simp [tokenOk, markOk, marks1, ByteArray.toList_eq])
    clear hs
    replace HZ := (HZ.alloc _).grown hg2 (by omega)
    obtain ⟨c0, c1, c2, f0, f1, f2⟩ := HZ.three
    have hzl := HZ.lt
    replace hg2 := (World.grownBy_alloc w1 _ (some g)).trans hg2
    go_wp2
    refine bodyPost_ret (v := .agg #[.int .i64 3, .int .i64 0, .string s]) (by simp [results, Tryd.results57, go_sem, c0, c1, c2]) rfl ⟨⟨3, 0, s⟩, hok, rfl, (by repeat (first | with_reducible assumption | with_reducible refine Cur.set ?_ (by first | (simp; done) | (simp; omega) | omega) _ | with_reducible refine Cur.alloc ?_ _ | with_reducible refine Cur.drew ?_ | with_reducible refine Cur.below ?_ (by assumption))), (by repeat (first | with_reducible exact World.grownBy.refl _ _ | with_reducible assumption | with_reducible refine gr_alloc ?_ _ | with_reducible refine gr_drew ?_ | with_reducible refine gr_drewN ?_ _ | with_reducible refine gr_set ?_ (by first | (simp; done) | (simp; omega) | omega) _ | with_reducible refine World.grownBy.trans ?_ (by assumption) | with_reducible refine grown_below ?_ (by assumption)))⟩
  have q2 : ((x : Int) == 2) = false := by simp; omega
  by_cases b3 : x = 3
  · subst b3
    go_wp2_with fail
    refine (l1Str_any g code _ 3 3 [⟨#[]⟩, ⟨#[112, 97, 105, 100]⟩, ⟨#[95]⟩] _ _ (hc1.alloc _) (Rd.lit w1 9 _ 3 rfl) (by omega) (by omega) (ne_lit hl1)).mono ?_
    rintro e w2 ⟨s, hs, rfl, hc2, hg2⟩
    have hok : fineT ⟨4, 0, s⟩ := by
      simp only [List.mem_cons, List.not_mem_nil, or_false] at hs
      unfold fineT
      rcases hs with rfl | rfl | rfl <;> first | decide | (simp [tokenOk, markOk, marks1, ByteArray.toList_eq])
    clear hs
    replace HZ := (HZ.alloc _).grown hg2 (by omega)
    obtain ⟨c0, c1, c2, f0, f1, f2⟩ := HZ.three
    have hzl := HZ.lt
    replace hg2 := (World.grownBy_alloc w1 _ (some g)).trans hg2
    go_wp2
    refine bodyPost_ret (v := .agg #[.int .i64 4, .int .i64 0, .string s]) (by simp [results, Tryd.results57, go_sem, c0, c1, c2]) rfl ⟨⟨4, 0, s⟩, hok, rfl, (by repeat (first | with_reducible assumption | with_reducible refine Cur.set ?_ (by first | (simp; done) | (simp; omega) | omega) _ | with_reducible refine Cur.alloc ?_ _ | with_reducible refine Cur.drew ?_ | with_reducible refine Cur.below ?_ (by assumption))), (by repeat (first | with_reducible exact World.grownBy.refl _ _ | with_reducible assumption | with_reducible refine gr_alloc ?_ _ | with_reducible refine gr_drew ?_ | with_reducible refine gr_drewN ?_ _ | with_reducible refine gr_set ?_ (by first | (simp; done) | (simp; omega) | omega) _ | with_reducible refine World.grownBy.trans ?_ (by assumption) | with_reducible refine grown_below ?_ (by assumption)))⟩
  have q3 : ((x : Int) == 3) = false := by simp; omega
  go_wp2_with fail
  refine (l1Str_any g code _ 9 9 [⟨#[40]⟩, ⟨#[41]⟩, ⟨#[45, 62]⟩, ⟨#[45]⟩, ⟨#[46]⟩, ⟨#[44]⟩, ⟨#[95]⟩, ⟨#[35]⟩, ⟨#[58]⟩] _ _ (hc1.alloc _) (Rd.lit w1 9 _ 9 rfl) (by omega) (by omega) (ne_lit hl1)).mono ?_
  rintro e w2 ⟨s, hs, rfl, hc2, hg2⟩
  have hok : fineT ⟨5, 0, s⟩ := by
    simp only [List.mem_cons, List.not_mem_nil, or_false] at hs
    unfold fineT
    rcases hs with rfl | rfl | rfl | rfl | rfl | rfl | rfl | rfl | rfl <;> first | decide | (simp [tokenOk, markOk, marks1, ByteArray.toList_eq])
  clear hs
  replace HZ := (HZ.alloc _).grown hg2 (by omega)
  obtain ⟨c0, c1, c2, f0, f1, f2⟩ := HZ.three
  have hzl := HZ.lt
  replace hg2 := (World.grownBy_alloc w1 _ (some g)).trans hg2
  go_wp2
  refine bodyPost_ret (v := .agg #[.int .i64 5, .int .i64 0, .string s]) (by simp [results, Tryd.results57, go_sem, c0, c1, c2]) rfl ⟨⟨5, 0, s⟩, hok, rfl, (by repeat (first | with_reducible assumption | with_reducible refine Cur.set ?_ (by first | (simp; done) | (simp; omega) | omega) _ | with_reducible refine Cur.alloc ?_ _ | with_reducible refine Cur.drew ?_ | with_reducible refine Cur.below ?_ (by assumption))), (by repeat (first | with_reducible exact World.grownBy.refl _ _ | with_reducible assumption | with_reducible refine gr_alloc ?_ _ | with_reducible refine gr_drew ?_ | with_reducible refine gr_drewN ?_ _ | with_reducible refine gr_set ?_ (by first | (simp; done) | (simp; omega) | omega) _ | with_reducible refine World.grownBy.trans ?_ (by assumption) | with_reducible refine grown_below ?_ (by assumption)))⟩
theorem l5Tokens_any (g : Nat) (code : List UInt8) (most : Nat) (w : World) (hc : Cur w g code) (hm : 1 ≤ most ∧ most ≤ 20) : Calls Tryd.prog 27 #[.pointer (some ⟨g, 0, none⟩), .int .i64 most] w fun e w' =>
    ∃ (A : Option Addr) (c : Nat) (l : List Vl), l.length ≤ 20 ∧ (∀ t ∈ l, fineT t) ∧ e = .returned (.slice A l.length c) ∧ OwnT vC 3 w' w.heap.size 34 (.slice A l.length c) l ∧ Cur w' g code ∧ w.grownBy w' (some g) := by
  obtain ⟨i0, hi, hz0, hz1, hz2⟩ := info_parts infoToken
  have HI := Lib.hid hi; clear hi
  have hg := hc.lt
  have hlit : OwnT vC 3 (w.alloc (.cells #[] 34)) w.heap.size 34 (.slice (some ⟨w.heap.size, 0, none⟩) 0 0) [] := lit0 w 34
  go_enter Tryd.func27, Tryd.ntmps27
  go_wp2_with fail
  refine (l1Below_any g code most _ (hc.alloc _) (by omega)).mono ?_
  rintro e w1 ⟨x, hx, rfl, hc1, hg1⟩
  have ho1 := hlit.grownG hg1 hg
  have hg1' := (World.grownBy_alloc w (.cells #[] 34) (some g)).trans hg1
  go_wp2
  go_loopw [5, 6] (fun u i wr => ∃ (j : Nat) (acc : List Vl), i = .int .i64 j ∧ acc.length + j ≤ 20 ∧ (∀ t ∈ acc, fineT t) ∧ OwnT vC 3 wr w.heap.size 34 u acc ∧ Cur wr g code ∧ w.grownBy wr (some g)) (fun _ i _ => (intOf i).toNat)
  case atStart => exact ⟨x, [], rfl, by simp; omega, fun b h => absurd h List.not_mem_nil, ho1, hc1, hg1'⟩
  case round =>
    obtain ⟨j, acc, rfl, hj, hz, ho, hck, hgk⟩ := hrel
    have HZ := Lib.hid hz; clear hz
    obtain ⟨Au, cu, rfl, hcu, _⟩ := ho.form
    have hl1 := hck.lt
    have hsk := hgk.size
    by_cases h0 : 0 < j
    · have hj0 : (0:Int) < (j:Int) := by omega
      go_wp2_with fail
      refine (l5Token_any g code _ hck).mono ?_
      rintro e w3 ⟨⟨vk, vn, vs⟩, hvs, rfl, hc3, hg3⟩
      have ho3 := ho.grownG hg3 hg
      have hg3' := World.grownBy.trans hgk hg3
      have hs3 := hg3'.size
      clear hg3
      dsimp only
      go_wp2_with (at_builtin; refine appT rfl (.tmp 15) (.tmp 18) _ rfl vC_sz w.heap.size 34 i0 Tryd.underlying22 HI.out hz0 hz1 hz2 rfl (by omega) _ acc rfl (ho3.alloc _) _ 1 1 [⟨vk, vn, vs⟩] rfl (RdT.new1 vC_sz w3 34 ⟨vk, vn, vs⟩) (by intro u hu; simp [fl, vC] at hu; rcases hu with rfl | rfl | rfl <;> rfl) (by omega) (by simp; omega) ?_; intro v' w4 ho4 hb4 hs4)
      have hc4 := Cur.below' (hc3.alloc (.cells #[.int .i64 vk, .int .i64 vn, .string vs] 34)) hb4 hg
      have hg4 := gr_bel (gr_alloc hg3' (.cells #[.int .i64 vk, .int .i64 vn, .string vs] 34)) hb4 (Nat.le_refl _)
      go_roundw
      case rel => exact ⟨j - 1, acc ++ [⟨vk, vn, vs⟩], by go_num, by rw [List.length_append]; simp; omega, fun b hb => (by rcases List.mem_append.1 hb with h | h; exact HZ.out b h; rw [List.mem_singleton] at h; rw [h]; exact hvs), ho4, hc4, hg4⟩
      case measure => simp [intOf]; omega
    · go_wp2
      go_ret
      exact ⟨Au, cu, acc, by omega, HZ.out, rfl, ho, hck, hgk⟩
theorem DrawJoinTokens_any (A : Option Addr) (n c : Nat) (code : List UInt8) (w : World) (B : Nat) (hr : RdB w B A n code) (hB : B ≤ w.heap.size) (hn : n ≤ 70368744177664) :
    Calls Tryd.prog 12 #[.slice A n c] w fun e w' => ∃ (A2 : Option Addr) (c2 : Nat) (l : List Vl), l.length ≤ 20 ∧ (∀ t ∈ l, fineT t) ∧ e = .returned (.slice A2 l.length c2) ∧ RdS vC 3 w' w'.heap.size A2 l.length l ∧ Below w.heap.size w w' := by
  go_enter Tryd.func12, Tryd.ntmps12
  go_wp2_with fail
  refine (l1New_any A n c code _ B hr hB hn).mono ?_
  rintro e w1 ⟨rfl, hc1, hb1⟩
  go_wp2_with fail
  refine (l5Tokens_any w.heap.size code 10 _ hc1 (by omega)).mono ?_
  rintro e w2 ⟨A2, c2, l, hl, hf, rfl, ho, hc2, hg2⟩
  have hl1 := hc1.lt
  go_wp2
  go_ret
  exact ⟨A2, c2, l, hl, hf, rfl, ho.rdO, hb1.trans (below_grown' hg2 (Nat.le_refl _) (by omega))⟩
end Go.Proofs.YtgcjhicpkmhbaaaDoor
