/- What DrawFitting answers: a pattern, a fact, binds. Conditions: lengths. -/
import Derived.Test.YtdlcbmhnagajdaaDraw10
import Derived.Test.YtdlcbmhnagajdaaFact
namespace Go.Proofs.Ytdlcbmhnagajdaa
open Go.RowKit
set_option maxRecDepth 100000
set_option maxHeartbeats 8000000
section
variable {α : Type} {f : α → List Value} {z : Nat} {w w' : World} {B n g lo : Nat} {A : Option Addr} {xs : List α}
theorem RdT.grownN (h : RdT f z w B A n xs) (hne : ∀ b o, A = some ⟨b, o, none⟩ → b ≠ g) (hg : w.grownBy w' (some g)) : RdT f z w' B A n xs :=
  ⟨h.1, h.2.1, fun h0 => by
    obtain ⟨b, o, e, hb, hc⟩ := h.2.2 h0
    exact ⟨b, o, e, hb, fun j u hu => gr_cell hg (hc j u hu) (hne b o e)⟩⟩
theorem RdT.setN (h : RdT f z w B A n xs) {p : Addr} (hne : ∀ b o, A = some ⟨b, o, none⟩ → p.block ≠ b) (u : Value) : RdT f z (w.setCell p u) B A n xs :=
  ⟨h.1, h.2.1, fun h0 => by
    obtain ⟨b, o, e, hb, hc⟩ := h.2.2 h0
    exact ⟨b, o, e, hb, fun j u hu => by rw [World.cell?_setCell_far _ _ _ _ (hne b o e)]; exact hc j u hu⟩⟩
end
theorem own_lo {α : Type} {f : α → List Value} {z : Nat} {w : World} {base n c : Nat} {e : TypeId} {A : Option Addr} {xs : List α} (h : OwnT f z w base e (.slice A n c) xs) : ∀ b o, A = some ⟨b, o, none⟩ → base ≤ b :=
  fun b o he => (h.inB b (by rw [he]; rfl)).1
theorem DrawFitting_any (A : Option Addr) (n c : Nat) (code : List UInt8) (w : World) (B : Nat) (hr : RdB w B A n code) (hB : B ≤ w.heap.size) (hn : n ≤ 70368744177664) :
    Calls Try.prog 5 #[.slice A n c] w fun e w' => ∃ (kd : ByteArray) (A2 : Option Addr) (c2 : Nat) (ags : List Ag) (nt : Bool) (A3 : Option Addr) (c3 : Nat) (fs : List Vl) (A4 : Option Addr) (c4 : Nat) (bs : List Bd), ags.length ≤ 2 ∧ fs.length = ags.length ∧ bs.length ≤ 2 ∧ bs.length ≤ c4 ∧
      e = .returned (.tuple #[.agg #[.string kd, .slice A2 ags.length c2, .bool nt], .agg #[.string kd, .slice A3 fs.length c3], .slice A4 bs.length c4]) ∧ RdS aC 5 w' w'.heap.size A2 ags.length ags ∧ RdS vC 3 w' w'.heap.size A3 fs.length fs ∧ RdS bC 4 w' w'.heap.size A4 bs.length bs ∧ Below w.heap.size w w' := by
  obtain ⟨i0, hi, hz0, hz1, hz2⟩ := info_parts infoVal
  have HI := Lib.hid hi; clear hi
  have HZ := (Blk.new w 26 #[.string ⟨#[]⟩, .slice none 0 0, .bool false]).alloc (.cells #[.string ⟨#[]⟩, .slice none 0 0] 29)
  have HY := Blk.new (w.alloc (.cells #[.string ⟨#[]⟩, .slice none 0 0, .bool false] 26)) 29 #[.string ⟨#[]⟩, .slice none 0 0]
  have hr3 : RdY ((w.alloc (.cells #[.string ⟨#[]⟩, .slice none 0 0, .bool false] 26)).alloc (.cells #[.string ⟨#[]⟩, .slice none 0 0] 29)) B A n code := RdY.alloc (RdY.alloc ⟨hB, hr⟩ _) _
  have g0 : Below w.heap.size w ((w.alloc (.cells #[.string ⟨#[]⟩, .slice none 0 0, .bool false] 26)).alloc (.cells #[.string ⟨#[]⟩, .slice none 0 0] 29)) := bel_alloc (bel_alloc (bel_refl w) _) _
  go_enter Try.func5, Try.ntmps5
  go_wp2_with fail
  refine (l1New_any A n c code _ B hr3.b hr3.le hn).mono ?_
  rintro e w1 ⟨rfl, hc1, hb1⟩
  replace HZ := HZ.kept hb1
  replace HY := HY.kept hb1
  simp at hc1 HY
  have hl1 := hc1.lt
  have g1 : Below w.heap.size w w1 := bel_trans g0 hb1
  clear hb1 g0 hr3
  go_wp2_with fail
  refine (l6Draw_any (w.heap.size + 1 + 1) code false _ hc1).mono ?_
  rintro e w2 ⟨kd, A2, c2, ags, nt, hkd, hal, hsm, rfl, ho2, hc2, hg2⟩
  clear hsm hkd
  replace HZ := HZ.grown hg2 (by omega)
  replace HY := HY.grown hg2 (by omega)
  replace g1 := g1.trans (below_grown' hg2 (by omega) (by omega))
  have hs2 := hg2.size
  clear hg2 hc1
  have hlo := own_lo ho2
  have hne : ∀ b o, A2 = some ⟨b, o, none⟩ → b ≠ w.heap.size + 1 + 1 := fun b o e => by have := hlo b o e; omega
  have HNE := Lib.hid hne
  have r2 : RdS aC 5 w2 w2.heap.size A2 ags.length ags := ho2.rdO
  have HLO := Lib.hid hlo
  clear ho2 hne hlo
  have HP := (Blk.new w2 26 #[.string kd, .slice A2 ags.length c2, .bool nt]).alloc (.cells #[.string kd, .slice none 0 0] 29)
  have HF := Blk.new (w2.alloc (.cells #[.string kd, .slice A2 ags.length c2, .bool nt] 26)) 29 #[.string kd, .slice none 0 0]
  simp at HF
  replace HZ := (HZ.alloc (.cells #[.string kd, .slice A2 ags.length c2, .bool nt] 26)).alloc (.cells #[.string kd, .slice none 0 0] 29)
  replace HY := (HY.alloc (.cells #[.string kd, .slice A2 ags.length c2, .bool nt] 26)).alloc (.cells #[.string kd, .slice none 0 0] 29)
  replace r2 := (r2.alloc (.cells #[.string kd, .slice A2 ags.length c2, .bool nt] 26)).alloc (.cells #[.string kd, .slice none 0 0] 29)
  replace hc2 := (hc2.alloc (.cells #[.string kd, .slice A2 ags.length c2, .bool nt] 26)).alloc (.cells #[.string kd, .slice none 0 0] 29)
  replace g1 := bel_alloc (bel_alloc g1 (.cells #[.string kd, .slice A2 ags.length c2, .bool nt] 26)) (.cells #[.string kd, .slice none 0 0] 29)
  have hw2 : w.heap.size + 1 + 1 < w2.heap.size := by omega
  go_upto_region 5 with fail
  generalize hwz : (w2.alloc (.cells #[.string kd, .slice A2 ags.length c2, .bool nt] 26)).alloc (.cells #[.string kd, .slice none 0 0] 29) = wz at HP HF HZ HY r2 hc2 g1 ⊢
  have hzs : w2.heap.size + 1 + 1 ≤ wz.heap.size := by rw [← hwz]; simp
  clear hwz
  go_loopw [8] (fun i wr => ∃ (k : Nat) (A' : Option Addr) (c' : Nat) (acc : List Vl), k ≤ ags.length ∧ i = .int .i64 k ∧ acc.length = k ∧ Blk wr (w2.heap.size + 1) 29 #[.string kd, .slice A' k c'] ∧ Blk wr w2.heap.size 26 #[.string kd, .slice A2 ags.length c2, .bool nt] ∧ Blk wr w.heap.size 26 #[.string ⟨#[]⟩, .slice none 0 0, .bool false] ∧ Blk wr (w.heap.size + 1) 29 #[.string ⟨#[]⟩, .slice none 0 0] ∧ OwnT vC 3 wr (w2.heap.size + 1 + 1) 37 (.slice A' k c') acc ∧ RdS aC 5 wr w2.heap.size A2 ags.length ags ∧ Cur wr (w.heap.size + 1 + 1) code ∧ Below w.heap.size w wr ∧ w2.heap.size + 1 + 1 ≤ wr.heap.size) (fun i _ => ags.length - (intOf i).toNat)
  case atStart => exact ⟨0, none, 0, [], Nat.zero_le _, rfl, rfl, HF, HP, HZ, HY, OwnT.nil_ _ _ _, r2, hc2, g1, hzs⟩
  case round =>
    obtain ⟨k, A', c', acc, hk, rfl, hal2, HFk, HPk, HZk, HYk, hok, rk, hck, gk, hsk⟩ := hrel
    have HAL := Lib.hid hal2; clear hal2
    have HO := Lib.hid hok
    obtain ⟨p0, p1, p2, _, _, _⟩ := HPk.three
    have hpl := HPk.lt
    by_cases hlt : k < ags.length
    · have hj1 : (k:Int) < (ags.length:Int) := by omega
      clear HO
      go_wp2_with fail
      refine (l3Small_any (w.heap.size + 1 + 1) code _ (by exact hck)).mono ?_
      rintro e w5 ⟨vk, vn, vs, hvs, rfl, hc5, hg5⟩
      have HF5 := HFk.grown hg5 (by omega)
      have HP5 := HPk.grown hg5 (by omega)
      have HZ5 := HZk.grown hg5 (by omega)
      have HY5 := HYk.grown hg5 (by omega)
      have ho5 := hok.grownG hg5 (by omega)
      have r5 : RdS aC 5 w5 w2.heap.size A2 ags.length ags := ⟨Nat.le_trans rk.1 hg5.size, rk.2.grownN HNE.out hg5⟩
      have g5 : Below w.heap.size w w5 := gk.trans (below_grown' hg5 (by omega) (by omega))
      have hs5 := hg5.size
      clear hg5 HFk HPk HZk HYk hok rk hck gk p0 p1 p2 hpl
      obtain ⟨p0, p1, p2, _, _, _⟩ := HP5.three
      obtain ⟨f0, f1, m0, m1⟩ := HF5.two
      have hpl := HP5.lt
      have hfl := HF5.lt
      obtain ⟨ba, oa, rfl, hbl, hca⟩ := r5.2.arg_ (by omega)
      obtain ⟨ek, es, evk, evn, evs, he, y0, y1, y2, y3, y4⟩ := hca k hlt
      have hbl5 : ba < w5.heap.size := by omega
      clear hca
      have hk0 : (0:Int) ≤ (k:Int) := by omega
      by_cases h2 : ek = 2
      · subst h2
        go_upto_region 10 with fail
        have H9 : Blk (w5.alloc (.cells #[.int .i64 evk, .int .i64 evn, .string evs] 37)) w5.heap.size 37 #[.int .i64 evk, .int .i64 evn, .string evs] := Blk.new _ _ _
        have b9 : Below w5.heap.size w5 (w5.alloc (.cells #[.int .i64 evk, .int .i64 evn, .string evs] 37)) := bel_alloc (bel_refl _) _
        generalize hw9 : w5.alloc (.cells #[.int .i64 evk, .int .i64 evn, .string evs] 37) = w9 at b9 H9 ⊢
        have HF9 := HF5.kept b9
        have HP9 := HP5.kept b9
        have HZ9 := HZ5.kept b9
        have HY9 := HY5.kept b9
        have ho9 := ho5.kept b9
        have r9 := r5.kept b9
        have hc9 := Cur.below hc5 b9
        have g9 := bel_trans g5 b9
        have hs9 := b9.size
        have hl9 := H9.lt
        clear he
        clear hw9 b9 HF5 HP5 HZ5 HY5 ho5 r5 hc5 g5 p0 p1 p2 f0 f1 m0 m1 hpl hfl
        obtain ⟨q0, q1, q2, _, _, _⟩ := H9.three
        obtain ⟨f0, f1, m0, m1⟩ := HF9.two
        have hfl := HF9.lt
        go_wp2_with (at_builtin; refine appT rfl (.tmp 40) (.tmp 42) _ rfl vC_sz (w2.heap.size + 1 + 1) 37 i0 Try.underlying27 HI.out hz0 hz1 hz2 rfl (by omega) _ acc rfl (ho9.alloc _) _ 1 1 [⟨evk, evn, evs⟩] rfl (RdT.new1 vC_sz w9 37 ⟨evk, evn, evs⟩) (by intro u hu; simp [fl, vC] at hu; rcases hu with rfl | rfl | rfl <;> rfl) (by have := HAL.out; omega) (by simp; omega) ?_ (by have := HAL.out; omega); intro v' w6 ho6 hb6 hs6; have hl6 : (acc ++ [(⟨evk, evn, evs⟩ : Vl)]).length = k + 1 := (by rw [List.length_append, HAL.out]; rfl); obtain ⟨A6, c6, hv6, _⟩ := ho6.form; rw [hl6] at hv6; subst hv6; have HF6 := Blk.bel (HF9.alloc _) hb6 (by omega); have hs6' := hs6; simp at hs6'; obtain ⟨h0, h1, n0, n1⟩ := HF6.two; have hf6 := HF6.lt)
        have HF7 := HF6.set_ 1 (.slice A6 (k + 1) c6)
        simp only [List.setIfInBounds_toArray, List.set_cons_zero, List.set_cons_succ] at HF7
        have HP7 := (Blk.bel (HP9.alloc _) hb6 (by omega)).far (p := ⟨w2.heap.size + 1, 1, none⟩) (by simp) (.slice A6 (k + 1) c6)
        have HZ7 := (Blk.bel (HZ9.alloc _) hb6 (by omega)).far (p := ⟨w2.heap.size + 1, 1, none⟩) (by simp; omega) (.slice A6 (k + 1) c6)
        have HY7 := (Blk.bel (HY9.alloc _) hb6 (by omega)).far (p := ⟨w2.heap.size + 1, 1, none⟩) (by simp; omega) (.slice A6 (k + 1) c6)
        have ho7 := ho6.low (p := ⟨w2.heap.size + 1, 1, none⟩) (by simp) (.slice A6 (k + 1) c6)
        have r7 := ((r9.alloc _).belowB (hb6.mono (by omega))).setCell (p := ⟨w2.heap.size + 1, 1, none⟩) (by simp) (.slice A6 (k + 1) c6)
        have hc7 := Cur.set (Cur.below' (hc9.alloc _) hb6 (by omega)) (p := ⟨w2.heap.size + 1, 1, none⟩) (by simp; omega) (.slice A6 (k + 1) c6)
        have g7 := bel_set ((bel_alloc g9 _).trans (hb6.mono (by omega))) (p := ⟨w2.heap.size + 1, 1, none⟩) (by simp; omega) (.slice A6 (k + 1) c6)
        go_roundw
        case rel => exact ⟨k + 1, A6, c6, acc ++ [⟨evk, evn, evs⟩], by omega, by go_num, hl6, HF7, HP7, HZ7, HY7, ho7, r7, hc7, g7, by simp; omega⟩
        case measure => simp [intOf]; omega
      · have hek : (ek == 2) = false := by simp; exact h2
        clear h2
        go_upto_region 10 with fail
        have H9 : Blk (w5.alloc (.cells #[.int .i64 vk, .int .i64 vn, .string vs] 37)) w5.heap.size 37 #[.int .i64 vk, .int .i64 vn, .string vs] := Blk.new _ _ _
        have b9 : Below w5.heap.size w5 (w5.alloc (.cells #[.int .i64 vk, .int .i64 vn, .string vs] 37)) := bel_alloc (bel_refl _) _
        generalize hw9 : w5.alloc (.cells #[.int .i64 vk, .int .i64 vn, .string vs] 37) = w9 at b9 H9 ⊢
        have HF9 := HF5.kept b9
        have HP9 := HP5.kept b9
        have HZ9 := HZ5.kept b9
        have HY9 := HY5.kept b9
        have ho9 := ho5.kept b9
        have r9 := r5.kept b9
        have hc9 := Cur.below hc5 b9
        have g9 := bel_trans g5 b9
        have hs9 := b9.size
        have hl9 := H9.lt
        clear he
        clear hw9 b9 HF5 HP5 HZ5 HY5 ho5 r5 hc5 g5 p0 p1 p2 f0 f1 m0 m1 hpl hfl
        obtain ⟨q0, q1, q2, _, _, _⟩ := H9.three
        obtain ⟨f0, f1, m0, m1⟩ := HF9.two
        have hfl := HF9.lt
        go_wp2_with (at_builtin; refine appT rfl (.tmp 40) (.tmp 42) _ rfl vC_sz (w2.heap.size + 1 + 1) 37 i0 Try.underlying27 HI.out hz0 hz1 hz2 rfl (by omega) _ acc rfl (ho9.alloc _) _ 1 1 [⟨vk, vn, vs⟩] rfl (RdT.new1 vC_sz w9 37 ⟨vk, vn, vs⟩) (by intro u hu; simp [fl, vC] at hu; rcases hu with rfl | rfl | rfl <;> rfl) (by have := HAL.out; omega) (by simp; omega) ?_ (by have := HAL.out; omega); intro v' w6 ho6 hb6 hs6; have hl6 : (acc ++ [(⟨vk, vn, vs⟩ : Vl)]).length = k + 1 := (by rw [List.length_append, HAL.out]; rfl); obtain ⟨A6, c6, hv6, _⟩ := ho6.form; rw [hl6] at hv6; subst hv6; have HF6 := Blk.bel (HF9.alloc _) hb6 (by omega); have hs6' := hs6; simp at hs6'; obtain ⟨h0, h1, n0, n1⟩ := HF6.two; have hf6 := HF6.lt)
        have HF7 := HF6.set_ 1 (.slice A6 (k + 1) c6)
        simp only [List.setIfInBounds_toArray, List.set_cons_zero, List.set_cons_succ] at HF7
        have HP7 := (Blk.bel (HP9.alloc _) hb6 (by omega)).far (p := ⟨w2.heap.size + 1, 1, none⟩) (by simp) (.slice A6 (k + 1) c6)
        have HZ7 := (Blk.bel (HZ9.alloc _) hb6 (by omega)).far (p := ⟨w2.heap.size + 1, 1, none⟩) (by simp; omega) (.slice A6 (k + 1) c6)
        have HY7 := (Blk.bel (HY9.alloc _) hb6 (by omega)).far (p := ⟨w2.heap.size + 1, 1, none⟩) (by simp; omega) (.slice A6 (k + 1) c6)
        have ho7 := ho6.low (p := ⟨w2.heap.size + 1, 1, none⟩) (by simp) (.slice A6 (k + 1) c6)
        have r7 := ((r9.alloc _).belowB (hb6.mono (by omega))).setCell (p := ⟨w2.heap.size + 1, 1, none⟩) (by simp) (.slice A6 (k + 1) c6)
        have hc7 := Cur.set (Cur.below' (hc9.alloc _) hb6 (by omega)) (p := ⟨w2.heap.size + 1, 1, none⟩) (by simp; omega) (.slice A6 (k + 1) c6)
        have g7 := bel_set ((bel_alloc g9 _).trans (hb6.mono (by omega))) (p := ⟨w2.heap.size + 1, 1, none⟩) (by simp; omega) (.slice A6 (k + 1) c6)
        go_roundw
        case rel => exact ⟨k + 1, A6, c6, acc ++ [⟨vk, vn, vs⟩], by omega, by go_num, hl6, HF7, HP7, HZ7, HY7, ho7, r7, hc7, g7, by simp; omega⟩
        case measure => simp [intOf]; omega
    · obtain ⟨f0, f1, m0, m1⟩ := HFk.two
      have hfl := HFk.lt
      obtain rfl : k = ags.length := by omega
      go_upto_region 11 with fail
      refine wp_region_held_drew (S := (fun w' => Below w.heap.size w w' ∧ w'.cell? ⟨w2.heap.size, 0, none⟩ = some (.string kd) ∧ w'.cell? ⟨w2.heap.size, 1, none⟩ = some (.slice A2 ags.length c2) ∧ w'.cell? ⟨w2.heap.size, 2, none⟩ = some (.bool nt) ∧ w'.cell? ⟨w2.heap.size + 1, 0, none⟩ = some (.string kd) ∧ w'.cell? ⟨w2.heap.size + 1, 1, none⟩ = some (.slice A' ags.length c'))) (by kernel_rfl) ?_ (fun hHeld => ?_)
      · (try dsimp only) <;> ((refine ⟨?_, ?_, ?_, ?_, ?_, ?_⟩ <;> first | with_reducible exact gy | with_reducible exact gy3 | with_reducible exact gy5 | with_reducible exact up0 | with_reducible exact up1 | with_reducible exact up2 | with_reducible exact uf0 | with_reducible exact uf1 | (rw [World.cell?_setCell_far _ _ _ _ (by first | (simp; done) | (simp; omega)), World.cell?_setCell_far _ _ _ _ (by first | (simp; done) | (simp; omega)), World.cell?_setCell_far _ _ _ _ (by first | (simp; done) | (simp; omega)), World.cell?_setCell_far _ _ _ _ (by first | (simp; done) | (simp; omega)), World.cell?_setCell_far _ _ _ _ (by first | (simp; done) | (simp; omega))]; first | with_reducible exact up0 | with_reducible exact up1 | with_reducible exact up2 | with_reducible exact uf0 | with_reducible exact uf1) | (rw [World.cell?_setCell_far _ _ _ _ (by first | (simp; done) | (simp; omega)), World.cell?_setCell_far _ _ _ _ (by first | (simp; done) | (simp; omega)), World.cell?_setCell_far _ _ _ _ (by first | (simp; done) | (simp; omega))]; first | with_reducible exact up0 | with_reducible exact up1 | with_reducible exact up2 | with_reducible exact uf0 | with_reducible exact uf1) | exact bel_drew gk | exact p0 | exact p1 | exact p2 | exact f0 | exact f1))
      refine h_take 0 (some 45) (?_) rfl rfl (by kernel_rfl) (by kernel_rfl) (by kernel_rfl) (fun _ _ _ h => h) (by kernel_rfl) ?_ (by assumption) ?_
      rotate_left
      · intro w hSw; (try dsimp only at hSw); go_simp
        all_goals first | with_reducible rfl | omega | (simp; omega)
      try simp only [Act.put, List.setIfInBounds_toArray, List.set_cons_zero, List.set_cons_succ]
      refine h_take 1 (some 46) (?_) rfl rfl (by kernel_rfl) (by kernel_rfl) (by kernel_rfl) (fun _ _ _ h => h) (by kernel_rfl) ?_ (by assumption) ?_
      rotate_left
      · intro w hSw; (try dsimp only at hSw); go_simp
        all_goals first | with_reducible rfl | omega | (simp; omega)
      try simp only [Act.put, List.setIfInBounds_toArray, List.set_cons_zero, List.set_cons_succ]
      refine h_take 2 (some 47) (?_) rfl rfl (by kernel_rfl) (by kernel_rfl) (by kernel_rfl) (fun _ _ _ h => h) (by kernel_rfl) ?_ (by assumption) ?_
      rotate_left
      · intro w hSw; (try dsimp only at hSw); go_simp
        all_goals first | with_reducible rfl | omega | (simp; omega)
      try simp only [Act.put, List.setIfInBounds_toArray, List.set_cons_zero, List.set_cons_succ]
      refine h_call 3 (by kernel_rfl) rfl (by kernel_rfl) (fun K hK => ?_)
      go_simp
      refine (l6Binds_any (w.heap.size + 1 + 1) code _ (by exact hck)).mono ?_
      rintro e wy ⟨A4, c4, bs, hbs, _, rfl, ob, hcy, hgy⟩
      have hsy := hgy.size
      simp only [drew_size'] at hsy
      have gy : Below w.heap.size w wy := (bel_drew gk).trans (below_grown' hgy (by omega) (by simp only [drew_size']; omega))
      have up0 := gr_cell (w := wr.drew) hgy p0 (by omega)
      have up1 := gr_cell (w := wr.drew) hgy p1 (by omega)
      have up2 := gr_cell (w := wr.drew) hgy p2 (by omega)
      have uf0 := gr_cell (w := wr.drew) hgy f0 (by omega)
      have uf1 := gr_cell (w := wr.drew) hgy f1 (by omega)
      have HZy := Blk.grown (w := wr.drew) HZk hgy (by omega)
      have HYy := Blk.grown (w := wr.drew) HYk hgy (by omega)
      obtain ⟨y0, y1, y2, y3, y4, y5⟩ := HZy.three
      obtain ⟨x0, x1, x2, x3⟩ := HYy.two
      have hzl := HZy.lt
      have hyl := HYy.lt
      have gy3 := bel_set (bel_set (bel_set gy (p := ⟨w.heap.size, 0, none⟩) (Nat.le_refl _) (.string kd)) (p := ⟨w.heap.size, 1, none⟩) (Nat.le_refl _) (.slice A2 ags.length c2)) (p := ⟨w.heap.size, 2, none⟩) (Nat.le_refl _) (.bool nt)
      have gy5 := bel_set (bel_set gy3 (p := ⟨w.heap.size + 1, 0, none⟩) (Nat.le_succ _) (.string kd)) (p := ⟨w.heap.size + 1, 1, none⟩) (Nat.le_succ _) (.slice A' ags.length c')
      have oy := OwnT.grownG (w := wr.drew) HO.out hgy (by omega)
      have ry : RdT aC 5 wy w2.heap.size A2 ags.length ags := RdT.grownN (w := wr.drew) rk.2 HNE.out hgy
      refine hK.out _ _ ?_ (fun hHeld => ?_)
      · (try dsimp only) <;> ((refine ⟨?_, ?_, ?_, ?_, ?_, ?_⟩ <;> first | with_reducible exact gy | with_reducible exact gy3 | with_reducible exact gy5 | with_reducible exact up0 | with_reducible exact up1 | with_reducible exact up2 | with_reducible exact uf0 | with_reducible exact uf1 | (rw [World.cell?_setCell_far _ _ _ _ (by first | (simp; done) | (simp; omega)), World.cell?_setCell_far _ _ _ _ (by first | (simp; done) | (simp; omega)), World.cell?_setCell_far _ _ _ _ (by first | (simp; done) | (simp; omega)), World.cell?_setCell_far _ _ _ _ (by first | (simp; done) | (simp; omega)), World.cell?_setCell_far _ _ _ _ (by first | (simp; done) | (simp; omega))]; first | with_reducible exact up0 | with_reducible exact up1 | with_reducible exact up2 | with_reducible exact uf0 | with_reducible exact uf1) | (rw [World.cell?_setCell_far _ _ _ _ (by first | (simp; done) | (simp; omega)), World.cell?_setCell_far _ _ _ _ (by first | (simp; done) | (simp; omega)), World.cell?_setCell_far _ _ _ _ (by first | (simp; done) | (simp; omega))]; first | with_reducible exact up0 | with_reducible exact up1 | with_reducible exact up2 | with_reducible exact uf0 | with_reducible exact uf1) | exact bel_drew gk | exact p0 | exact p1 | exact p2 | exact f0 | exact f1))
      clear hK K
      try simp only [Act.put, List.setIfInBounds_toArray, List.set_cons_zero, List.set_cons_succ]
      refine h_call 4 (by kernel_rfl) rfl (by kernel_rfl) (fun K hK => ?_)
      go_simp
      refine hK.out _ _ ?_ (fun hHeld => ?_)
      · (try dsimp only) <;> ((refine ⟨?_, ?_, ?_, ?_, ?_, ?_⟩ <;> first | with_reducible exact gy | with_reducible exact gy3 | with_reducible exact gy5 | with_reducible exact up0 | with_reducible exact up1 | with_reducible exact up2 | with_reducible exact uf0 | with_reducible exact uf1 | (rw [World.cell?_setCell_far _ _ _ _ (by first | (simp; done) | (simp; omega)), World.cell?_setCell_far _ _ _ _ (by first | (simp; done) | (simp; omega)), World.cell?_setCell_far _ _ _ _ (by first | (simp; done) | (simp; omega)), World.cell?_setCell_far _ _ _ _ (by first | (simp; done) | (simp; omega)), World.cell?_setCell_far _ _ _ _ (by first | (simp; done) | (simp; omega))]; first | with_reducible exact up0 | with_reducible exact up1 | with_reducible exact up2 | with_reducible exact uf0 | with_reducible exact uf1) | (rw [World.cell?_setCell_far _ _ _ _ (by first | (simp; done) | (simp; omega)), World.cell?_setCell_far _ _ _ _ (by first | (simp; done) | (simp; omega)), World.cell?_setCell_far _ _ _ _ (by first | (simp; done) | (simp; omega))]; first | with_reducible exact up0 | with_reducible exact up1 | with_reducible exact up2 | with_reducible exact uf0 | with_reducible exact uf1) | exact bel_drew gk | exact p0 | exact p1 | exact p2 | exact f0 | exact f1))
      clear hK K
      try simp only [Act.put, List.setIfInBounds_toArray, List.set_cons_zero, List.set_cons_succ]
      refine h_call 5 (by kernel_rfl) rfl (by kernel_rfl) (fun K hK => ?_)
      go_simp
      refine hK.out _ _ ?_ (fun hHeld => ?_)
      · (try dsimp only) <;> ((refine ⟨?_, ?_, ?_, ?_, ?_, ?_⟩ <;> first | with_reducible exact gy | with_reducible exact gy3 | with_reducible exact gy5 | with_reducible exact up0 | with_reducible exact up1 | with_reducible exact up2 | with_reducible exact uf0 | with_reducible exact uf1 | (rw [World.cell?_setCell_far _ _ _ _ (by first | (simp; done) | (simp; omega)), World.cell?_setCell_far _ _ _ _ (by first | (simp; done) | (simp; omega)), World.cell?_setCell_far _ _ _ _ (by first | (simp; done) | (simp; omega)), World.cell?_setCell_far _ _ _ _ (by first | (simp; done) | (simp; omega)), World.cell?_setCell_far _ _ _ _ (by first | (simp; done) | (simp; omega))]; first | with_reducible exact up0 | with_reducible exact up1 | with_reducible exact up2 | with_reducible exact uf0 | with_reducible exact uf1) | (rw [World.cell?_setCell_far _ _ _ _ (by first | (simp; done) | (simp; omega)), World.cell?_setCell_far _ _ _ _ (by first | (simp; done) | (simp; omega)), World.cell?_setCell_far _ _ _ _ (by first | (simp; done) | (simp; omega))]; first | with_reducible exact up0 | with_reducible exact up1 | with_reducible exact up2 | with_reducible exact uf0 | with_reducible exact uf1) | exact bel_drew gk | exact p0 | exact p1 | exact p2 | exact f0 | exact f1))
      clear hK K
      try simp only [Act.put, List.setIfInBounds_toArray, List.set_cons_zero, List.set_cons_succ]
      refine h_take 6 (some 4) (?_) rfl rfl (by kernel_rfl) (by kernel_rfl) (by kernel_rfl) (fun _ _ _ h => h) (by kernel_rfl) ?_ (by assumption) ?_
      rotate_left
      · intro w hSw; (try dsimp only at hSw); go_simp
        all_goals first | with_reducible rfl | omega | (simp; omega)
      try simp only [Act.put, List.setIfInBounds_toArray, List.set_cons_zero, List.set_cons_succ]
      refine wpAnyH_done (by kernel_rfl) ?_ _
      go_wp2
      obtain ⟨Ab, cb, heb, hcb, _⟩ := ob.form
      injection heb with heb1 heb2 heb3
      subst heb1 heb3
      have hfl2 : acc.length = ags.length := HAL.out
      refine bodyPost_ret (v := .tuple #[.agg #[.string kd, .slice A2 ags.length c2, .bool nt], .agg #[.string kd, .slice A' ags.length c'], .slice A4 bs.length c4]) (by simp [results, Try.results5, go_sem, y0, y1, y2, x0, x1]) rfl ⟨kd, A2, c2, ags, nt, A', c', acc, A4, c4, bs, hal, hfl2, hbs, hcb, by rw [hfl2], ?_, ?_, ?_, And.left hHeld⟩
      · refine ⟨Nat.le_refl _, RdT.more (B := w2.heap.size) ?_ (by simp; omega)⟩
        exact ((((ry.setN (fun b o e => by have := HLO.out b o e; dsimp only; omega) _).setN (fun b o e => by have := HLO.out b o e; dsimp only; omega) _).setN (fun b o e => by have := HLO.out b o e; dsimp only; omega) _).setN (fun b o e => by have := HLO.out b o e; dsimp only; omega) _).setN (fun b o e => by have := HLO.out b o e; dsimp only; omega) _
      · rw [← hfl2] at oy ⊢
        exact OwnT.rdO (((((oy.low (by simp; omega) _).low (by simp; omega) _).low (by simp; omega) _).low (by simp; omega) _).low (by simp; omega) _)
      · exact OwnT.rdO (((((ob.low (by simp; omega) _).low (by simp; omega) _).low (by simp; omega) _).low (by simp; omega) _).low (by simp; omega) _)
end Go.Proofs.Ytdlcbmhnagajdaa
