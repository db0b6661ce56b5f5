/- What the drawing functions of patterns answer. No condition but lengths. -/
import Derived.Test.YtdlcbmhnagajdaaDraw6
import Derived.Test.YtdlcbmhnagajdaaArgS
import Derived.Test.YtdlcbmhnagajdaaApp2
import Derived.Test.YtdlcbmhnagajdaaHeld2
namespace Go.Proofs.Ytdlcbmhnagajdaa
open Go.RowKit
set_option maxRecDepth 100000
set_option maxHeartbeats 8000000
def smallA (a : Ag) : Prop := a.s.size ≤ 30 ∧ a.v.s.size ≤ 30
def DrawnP (g : Nat) (code : List UInt8) (w : World) (e : Ending) (w' : World) : Prop :=
  ∃ (kd : ByteArray) (A : Option Addr) (c : Nat) (ags : List Ag) (nt : Bool), kd.size ≤ 30 ∧ ags.length ≤ 2 ∧ (∀ x ∈ ags, smallA x) ∧ e = .returned (.agg #[.string kd, .slice A ags.length c, .bool nt]) ∧ OwnT aC 5 w' w.heap.size 41 (.slice A ags.length c) ags ∧ Cur w' g code ∧ w.grownBy w' (some g)
theorem l6Draw_any (g : Nat) (code : List UInt8) (nt : Bool) (w : World) (hc : Cur w g code) : Calls Try.prog 11 #[.pointer (some ⟨g, 0, none⟩), .bool nt] w (DrawnP g code w) := by
  obtain ⟨i0, hi, hz0, hz1, hz2⟩ := info_parts infoArg
  have HI := Lib.hid hi; clear hi
  have hg := hc.lt
  have HZ := Blk.new w 26 #[.string ⟨#[]⟩, .slice none 0 0, .bool false]
  go_enter Try.func11, Try.ntmps11
  go_wp2_with fail
  refine (l1Str_any g code _ 4 4 [⟨#[111, 114, 100, 101, 114]⟩, ⟨#[112, 97, 105, 100]⟩, ⟨#[105, 116, 101, 109]⟩, ⟨#[111, 114, 100, 101, 114]⟩] _ _ ((hc.alloc _).alloc _) (by have h := Rd.lit (w.alloc (.cells #[.string ⟨#[]⟩, .slice none 0 0, .bool false] 26)) 9 #[.string ⟨#[111, 114, 100, 101, 114]⟩, .string ⟨#[112, 97, 105, 100]⟩, .string ⟨#[105, 116, 101, 109]⟩, .string ⟨#[111, 114, 100, 101, 114]⟩] 4 rfl; simpa using h) (by omega) (by omega) (fun b o e => by injection e with e; injection e with e1; omega)).mono ?_
  rintro e w1 ⟨kd, hs, rfl, hc1, hg1⟩
  have hkd : kd.size ≤ 30 := by
    simp only [List.mem_cons, List.not_mem_nil, or_false] at hs
    rcases hs with rfl | rfl | rfl | rfl <;> decide
  clear hs
  replace HZ := (HZ.alloc _).grown hg1 (by omega)
  have hs1 := hg1.size
  simp at hs1
  have hl1 := hc1.lt
  replace hg1 := ((World.grownBy_alloc w _ (some g)).trans (World.grownBy_alloc _ _ (some g))).trans hg1
  have HB := Blk.new w1 26 #[.string kd, .slice none 0 0, .bool nt]
  replace HZ := HZ.alloc (.cells #[.string kd, .slice none 0 0, .bool nt] 26)
  replace hc1 := hc1.alloc (.cells #[.string kd, .slice none 0 0, .bool nt] 26)
  replace hg1 := gr_alloc hg1 (.cells #[.string kd, .slice none 0 0, .bool nt] 26)
  have hz2' : w.heap.size < w1.heap.size := by omega
  have hgs : g < w.heap.size := hg
  obtain ⟨bk, hbk⟩ : ∃ bk : Bool, (kd.toList == [105, 116, 101, 109]) = bk := ⟨_, rfl⟩
  cases bk
  · obtain ⟨d0, d1, d2, e0, e1, e2⟩ := HB.three
    go_wp2
    go_loopw [7] (fun i wr => ∃ (k : Nat) (A' : Option Addr) (c' : Nat) (acc : List Ag), k ≤ 1 ∧ i = .int .i64 k ∧ acc.length = k ∧ (∀ x ∈ acc, smallA x) ∧ Blk wr w1.heap.size 26 #[.string kd, .slice A' k c', .bool nt] ∧ Blk wr w.heap.size 26 #[.string ⟨#[]⟩, .slice none 0 0, .bool false] ∧ OwnT aC 5 wr (w1.heap.size + 1) 41 (.slice A' k c') acc ∧ Cur wr g code ∧ w.grownBy wr (some g) ∧ w1.heap.size + 1 ≤ wr.heap.size) (fun i _ => 1 - (intOf i).toNat)
    case atStart => exact ⟨0, none, 0, [], Nat.zero_le _, rfl, rfl, fun x h => (by cases h), HB, HZ, OwnT.nil_ _ _ _, hc1, hg1, by simp⟩
    case round =>
      obtain ⟨k, A', c', acc, hk, rfl, hal, hsz, HBk, HZk, hok, hck, hgk, hsk⟩ := hrel
      have HAL := Lib.hid hal; clear hal
      have HSZ := Lib.hid hsz; clear hsz
      obtain ⟨d0, d1, d2, e0, e1, e2⟩ := HBk.three
      have hglt := hck.lt
      by_cases hlt : k < 1
      · have hj1 : (k:Int) < (1:Int) := by omega
        clear d0 d1 d2 e0 e1 e2
        have d1 := HBk.cell 1
        dsimp at d1
        go_wp2_with fail
        refine wp_region_held_drew (S := (fun _ => True)) (by kernel_rfl) ?_ (fun hHeld => ?_)
        · (try dsimp only) <;> (trivial)
        refine h_take 0 (some 21) (?_) rfl rfl (by kernel_rfl) (by kernel_rfl) (by kernel_rfl) (fun _ _ _ h => h) (by kernel_rfl) ?_ (by assumption) ?_
        rotate_left
        · intro w hSw; (try dsimp only at hSw); go_simp
          all_goals first | with_reducible rfl | omega | (simp; omega)
        try simp only [Act.put, List.setIfInBounds_toArray, List.set_cons_zero, List.set_cons_succ]
        refine h_take 2 (some 23) (?_) rfl rfl (by kernel_rfl) (by kernel_rfl) (by kernel_rfl) (fun _ _ _ h => h) (by kernel_rfl) ?_ (by assumption) ?_
        rotate_left
        · intro w hSw; (try dsimp only at hSw); go_simp
          all_goals first | with_reducible rfl | omega | (simp; omega)
        try simp only [Act.put, List.setIfInBounds_toArray, List.set_cons_zero, List.set_cons_succ]
        refine wpAnyH_ready (rs := [1, 3]) (by kernel_rfl) (by simp) ?_
        refine AllReadyH.cons rfl (fun K hK => ?_) (AllReadyH.cons rfl (fun K hK => ?_) AllReadyH.nil)
        · rw [if_pos (by kernel_rfl)]
          go_simp
          refine hK.out _ _ ?_ (fun hHeld => ?_)
          · (try dsimp only) <;> (trivial)
          clear hK K
          try simp only [Act.put, List.setIfInBounds_toArray, List.set_cons_zero, List.set_cons_succ]
          refine h_call 3 (by kernel_rfl) rfl (by kernel_rfl) (fun K hK => ?_)
          go_simp
          refine (l6Arg_any g code _ (by exact (by repeat (first | with_reducible assumption | with_reducible refine Cur.set ?_ (by first | (simp; done) | (simp; omega) | omega) _ | with_reducible refine Cur.alloc ?_ _ | with_reducible refine Cur.drew ?_ | with_reducible refine Cur.below ?_ (by assumption))))).mono ?_
          rintro e w5 ⟨ak, as_, vk, vn, vs, hvs1, hvs2, rfl, hc5, hg5⟩
          have HB5 := Blk.grown (w := wr.drew) HBk hg5 (by omega)
          have HZ5 := Blk.grown (w := wr.drew) HZk hg5 (by omega)
          obtain ⟨q0, q1, q2, q3, q4, q5⟩ := HB5.three
          have hs5 := hg5.size
          simp only [drew_size'] at hs5
          have hq5 : w1.heap.size < w5.heap.size := by omega
          try dsimp only
          refine hK.out _ _ ?_ (fun hHeld => ?_)
          · (try dsimp only) <;> (trivial)
          clear hK K
          try simp only [Act.put, List.setIfInBounds_toArray, List.set_cons_zero, List.set_cons_succ]
          refine h_call 4 (by kernel_rfl) rfl (by kernel_rfl) (fun K hK => ?_)
          go_simp
          refine hK.out _ _ ?_ (fun hHeld => ?_)
          · (try dsimp only) <;> (trivial)
          clear hK K
          try simp only [Act.put, List.setIfInBounds_toArray, List.set_cons_zero, List.set_cons_succ]
          refine h_call 5 (by kernel_rfl) rfl (by kernel_rfl) (fun K hK => ?_)
          refine appO (.tmp 22) (.tmp 25) _ rfl aC_sz (w1.heap.size + 1) 41 i0 Try.underlying24 HI.out hz0 hz1 hz2 rfl (by omega) _ acc rfl ((OwnT.grownG (w := wr.drew) hok hg5 (by omega)).alloc _) _ 1 1 [⟨ak, as_, ⟨vk, vn, vs⟩⟩] rfl (RdT.new1 aC_sz w5 41 ⟨ak, as_, ⟨vk, vn, vs⟩⟩) (by intro u hu; simp [fl, aC] at hu; rcases hu with rfl | rfl | rfl | rfl | rfl <;> rfl) (by have := HAL.out; omega) (by have := hg5.size; simp at this; simp; omega) ?_ (by have := HAL.out; omega)
          intro v' w6 ho6 hb6 hs6
          have hl6 : (acc ++ [(⟨ak, as_, ⟨vk, vn, vs⟩⟩ : Ag)]).length = k + 1 := by rw [List.length_append, HAL.out]; rfl
          obtain ⟨A6, c6, hv6, _⟩ := ho6.form
          rw [hl6] at hv6
          subst hv6
          have HB6 := Blk.bel (HB5.alloc _) hb6 (by omega)
          have HZ6 := Blk.bel (HZ5.alloc _) hb6 (by omega)
          simp at hs6
          obtain ⟨r0, r1, r2, r3, r4, r5⟩ := HB6.three
          change K (Act.put _ (some 26) _) _
          refine hK.out _ _ ?_ (fun hHeld => ?_)
          · (try dsimp only) <;> (trivial)
          clear hK K
          try simp only [Act.put, List.setIfInBounds_toArray, List.set_cons_zero, List.set_cons_succ]
          refine h_take 6 (some 27) (?_) rfl rfl (by kernel_rfl) (by kernel_rfl) (by kernel_rfl) (fun _ _ _ h => h) (by kernel_rfl) ?_ (by assumption) ?_
          rotate_left
          · intro w hSw; (try dsimp only at hSw); go_simp
            all_goals first | with_reducible rfl | omega | (simp; omega)
          try simp only [Act.put, List.setIfInBounds_toArray, List.set_cons_zero, List.set_cons_succ]
          refine h_call 7 (by kernel_rfl) rfl (by kernel_rfl) (fun K hK => ?_)
          go_simp
          refine hK.out _ _ ?_ (fun hHeld => ?_)
          · (try dsimp only) <;> (trivial)
          clear hK K
          try simp only [Act.put, List.setIfInBounds_toArray, List.set_cons_zero, List.set_cons_succ]
          refine wpAnyH_done (by kernel_rfl) ?_ _
          have HB7 := HB6.set_ 1 (.slice A6 (k + 1) c6)
          have HZ7 := HZ6.far (p := ⟨w1.heap.size, 1, none⟩) (by simp; omega) (.slice A6 (k + 1) c6)
          have ho7 := ho6.low (p := ⟨w1.heap.size, 1, none⟩) (by simp) (.slice A6 (k + 1) c6)
          have hc7 : Cur (w6.setCell ⟨w1.heap.size, 1, none⟩ (.slice A6 (k + 1) c6)) g code := Cur.set (Cur.below' (hc5.alloc _) hb6 (by omega)) (by simp; omega) _
          have hg7 : w.grownBy (w6.setCell ⟨w1.heap.size, 1, none⟩ (.slice A6 (k + 1) c6)) (some g) := gr_set (gr_bel (gr_alloc (World.grownBy.trans (gr_drew hgk) hg5) _) hb6 (by omega)) (by simp; omega) _
          go_wp2
          go_roundw
          case rel => exact ⟨k + 1, A6, c6, acc ++ [⟨ak, as_, ⟨vk, vn, vs⟩⟩], by omega, by go_num, hl6, fun x hx => (by rcases List.mem_append.1 hx with h | h; exact HSZ.out x h; rw [List.mem_singleton] at h; rw [h]; exact ⟨hvs1, hvs2⟩), by simpa using HB7, HZ7, ho7, hc7, hg7, by simp; omega⟩
          case measure => simp [intOf]; omega
        · rw [if_pos (by kernel_rfl)]
          go_simp
          refine (l6Arg_any g code _ (by exact (by repeat (first | with_reducible assumption | with_reducible refine Cur.set ?_ (by first | (simp; done) | (simp; omega) | omega) _ | with_reducible refine Cur.alloc ?_ _ | with_reducible refine Cur.drew ?_ | with_reducible refine Cur.below ?_ (by assumption))))).mono ?_
          rintro e w5 ⟨ak, as_, vk, vn, vs, hvs1, hvs2, rfl, hc5, hg5⟩
          have HB5 := Blk.grown (w := wr.drew) HBk hg5 (by omega)
          have HZ5 := Blk.grown (w := wr.drew) HZk hg5 (by omega)
          obtain ⟨q0, q1, q2, q3, q4, q5⟩ := HB5.three
          have hs5 := hg5.size
          simp only [drew_size'] at hs5
          have hq5 : w1.heap.size < w5.heap.size := by omega
          try dsimp only
          refine hK.out _ _ ?_ (fun hHeld => ?_)
          · (try dsimp only) <;> (trivial)
          clear hK K
          try simp only [Act.put, List.setIfInBounds_toArray, List.set_cons_zero, List.set_cons_succ]
          refine wpAnyH_ready (rs := [1, 4]) (by kernel_rfl) (by simp) ?_
          refine AllReadyH.cons rfl (fun K hK => ?_) (AllReadyH.cons rfl (fun K hK => ?_) AllReadyH.nil)
          · rw [if_pos (by kernel_rfl)]
            go_simp
            refine hK.out _ _ ?_ (fun hHeld => ?_)
            · (try dsimp only) <;> (trivial)
            clear hK K
            try simp only [Act.put, List.setIfInBounds_toArray, List.set_cons_zero, List.set_cons_succ]
            refine h_call 4 (by kernel_rfl) rfl (by kernel_rfl) (fun K hK => ?_)
            go_simp
            refine hK.out _ _ ?_ (fun hHeld => ?_)
            · (try dsimp only) <;> (trivial)
            clear hK K
            try simp only [Act.put, List.setIfInBounds_toArray, List.set_cons_zero, List.set_cons_succ]
            refine h_call 5 (by kernel_rfl) rfl (by kernel_rfl) (fun K hK => ?_)
            refine appO (.tmp 22) (.tmp 25) _ rfl aC_sz (w1.heap.size + 1) 41 i0 Try.underlying24 HI.out hz0 hz1 hz2 rfl (by omega) _ acc rfl ((OwnT.grownG (w := wr.drew) hok hg5 (by omega)).alloc _) _ 1 1 [⟨ak, as_, ⟨vk, vn, vs⟩⟩] rfl (RdT.new1 aC_sz w5 41 ⟨ak, as_, ⟨vk, vn, vs⟩⟩) (by intro u hu; simp [fl, aC] at hu; rcases hu with rfl | rfl | rfl | rfl | rfl <;> rfl) (by have := HAL.out; omega) (by have := hg5.size; simp at this; simp; omega) ?_ (by have := HAL.out; omega)
            intro v' w6 ho6 hb6 hs6
            have hl6 : (acc ++ [(⟨ak, as_, ⟨vk, vn, vs⟩⟩ : Ag)]).length = k + 1 := by rw [List.length_append, HAL.out]; rfl
            obtain ⟨A6, c6, hv6, _⟩ := ho6.form
            rw [hl6] at hv6
            subst hv6
            have HB6 := Blk.bel (HB5.alloc _) hb6 (by omega)
            have HZ6 := Blk.bel (HZ5.alloc _) hb6 (by omega)
            simp at hs6
            obtain ⟨r0, r1, r2, r3, r4, r5⟩ := HB6.three
            change K (Act.put _ (some 26) _) _
            refine hK.out _ _ ?_ (fun hHeld => ?_)
            · (try dsimp only) <;> (trivial)
            clear hK K
            try simp only [Act.put, List.setIfInBounds_toArray, List.set_cons_zero, List.set_cons_succ]
            refine h_take 6 (some 27) (?_) rfl rfl (by kernel_rfl) (by kernel_rfl) (by kernel_rfl) (fun _ _ _ h => h) (by kernel_rfl) ?_ (by assumption) ?_
            rotate_left
            · intro w hSw; (try dsimp only at hSw); go_simp
              all_goals first | with_reducible rfl | omega | (simp; omega)
            try simp only [Act.put, List.setIfInBounds_toArray, List.set_cons_zero, List.set_cons_succ]
            refine h_call 7 (by kernel_rfl) rfl (by kernel_rfl) (fun K hK => ?_)
            go_simp
            refine hK.out _ _ ?_ (fun hHeld => ?_)
            · (try dsimp only) <;> (trivial)
            clear hK K
            try simp only [Act.put, List.setIfInBounds_toArray, List.set_cons_zero, List.set_cons_succ]
            refine wpAnyH_done (by kernel_rfl) ?_ _
            have HB7 := HB6.set_ 1 (.slice A6 (k + 1) c6)
            have HZ7 := HZ6.far (p := ⟨w1.heap.size, 1, none⟩) (by simp; omega) (.slice A6 (k + 1) c6)
            have ho7 := ho6.low (p := ⟨w1.heap.size, 1, none⟩) (by simp) (.slice A6 (k + 1) c6)
            have hc7 : Cur (w6.setCell ⟨w1.heap.size, 1, none⟩ (.slice A6 (k + 1) c6)) g code := Cur.set (Cur.below' (hc5.alloc _) hb6 (by omega)) (by simp; omega) _
            have hg7 : w.grownBy (w6.setCell ⟨w1.heap.size, 1, none⟩ (.slice A6 (k + 1) c6)) (some g) := gr_set (gr_bel (gr_alloc (World.grownBy.trans (gr_drew hgk) hg5) _) hb6 (by omega)) (by simp; omega) _
            go_wp2
            go_roundw
            case rel => exact ⟨k + 1, A6, c6, acc ++ [⟨ak, as_, ⟨vk, vn, vs⟩⟩], by omega, by go_num, hl6, fun x hx => (by rcases List.mem_append.1 hx with h | h; exact HSZ.out x h; rw [List.mem_singleton] at h; rw [h]; exact ⟨hvs1, hvs2⟩), by simpa using HB7, HZ7, ho7, hc7, hg7, by simp; omega⟩
            case measure => simp [intOf]; omega
          · rw [if_pos (by kernel_rfl)]
            go_simp
            refine hK.out _ _ ?_ (fun hHeld => ?_)
            · (try dsimp only) <;> (trivial)
            clear hK K
            try simp only [Act.put, List.setIfInBounds_toArray, List.set_cons_zero, List.set_cons_succ]
            refine h_call 1 (by kernel_rfl) rfl (by kernel_rfl) (fun K hK => ?_)
            go_simp
            refine hK.out _ _ ?_ (fun hHeld => ?_)
            · (try dsimp only) <;> (trivial)
            clear hK K
            try simp only [Act.put, List.setIfInBounds_toArray, List.set_cons_zero, List.set_cons_succ]
            refine h_call 5 (by kernel_rfl) rfl (by kernel_rfl) (fun K hK => ?_)
            refine appO (.tmp 22) (.tmp 25) _ rfl aC_sz (w1.heap.size + 1) 41 i0 Try.underlying24 HI.out hz0 hz1 hz2 rfl (by omega) _ acc rfl ((OwnT.grownG (w := wr.drew) hok hg5 (by omega)).alloc _) _ 1 1 [⟨ak, as_, ⟨vk, vn, vs⟩⟩] rfl (RdT.new1 aC_sz w5 41 ⟨ak, as_, ⟨vk, vn, vs⟩⟩) (by intro u hu; simp [fl, aC] at hu; rcases hu with rfl | rfl | rfl | rfl | rfl <;> rfl) (by have := HAL.out; omega) (by have := hg5.size; simp at this; simp; omega) ?_ (by have := HAL.out; omega)
            intro v' w6 ho6 hb6 hs6
            have hl6 : (acc ++ [(⟨ak, as_, ⟨vk, vn, vs⟩⟩ : Ag)]).length = k + 1 := by rw [List.length_append, HAL.out]; rfl
            obtain ⟨A6, c6, hv6, _⟩ := ho6.form
            rw [hl6] at hv6
            subst hv6
            have HB6 := Blk.bel (HB5.alloc _) hb6 (by omega)
            have HZ6 := Blk.bel (HZ5.alloc _) hb6 (by omega)
            simp at hs6
            obtain ⟨r0, r1, r2, r3, r4, r5⟩ := HB6.three
            change K (Act.put _ (some 26) _) _
            refine hK.out _ _ ?_ (fun hHeld => ?_)
            · (try dsimp only) <;> (trivial)
            clear hK K
            try simp only [Act.put, List.setIfInBounds_toArray, List.set_cons_zero, List.set_cons_succ]
            refine h_take 6 (some 27) (?_) rfl rfl (by kernel_rfl) (by kernel_rfl) (by kernel_rfl) (fun _ _ _ h => h) (by kernel_rfl) ?_ (by assumption) ?_
            rotate_left
            · intro w hSw; (try dsimp only at hSw); go_simp
              all_goals first | with_reducible rfl | omega | (simp; omega)
            try simp only [Act.put, List.setIfInBounds_toArray, List.set_cons_zero, List.set_cons_succ]
            refine h_call 7 (by kernel_rfl) rfl (by kernel_rfl) (fun K hK => ?_)
            go_simp
            refine hK.out _ _ ?_ (fun hHeld => ?_)
            · (try dsimp only) <;> (trivial)
            clear hK K
            try simp only [Act.put, List.setIfInBounds_toArray, List.set_cons_zero, List.set_cons_succ]
            refine wpAnyH_done (by kernel_rfl) ?_ _
            have HB7 := HB6.set_ 1 (.slice A6 (k + 1) c6)
            have HZ7 := HZ6.far (p := ⟨w1.heap.size, 1, none⟩) (by simp; omega) (.slice A6 (k + 1) c6)
            have ho7 := ho6.low (p := ⟨w1.heap.size, 1, none⟩) (by simp) (.slice A6 (k + 1) c6)
            have hc7 : Cur (w6.setCell ⟨w1.heap.size, 1, none⟩ (.slice A6 (k + 1) c6)) g code := Cur.set (Cur.below' (hc5.alloc _) hb6 (by omega)) (by simp; omega) _
            have hg7 : w.grownBy (w6.setCell ⟨w1.heap.size, 1, none⟩ (.slice A6 (k + 1) c6)) (some g) := gr_set (gr_bel (gr_alloc (World.grownBy.trans (gr_drew hgk) hg5) _) hb6 (by omega)) (by simp; omega) _
            go_wp2
            go_roundw
            case rel => exact ⟨k + 1, A6, c6, acc ++ [⟨ak, as_, ⟨vk, vn, vs⟩⟩], by omega, by go_num, hl6, fun x hx => (by rcases List.mem_append.1 hx with h | h; exact HSZ.out x h; rw [List.mem_singleton] at h; rw [h]; exact ⟨hvs1, hvs2⟩), by simpa using HB7, HZ7, ho7, hc7, hg7, by simp; omega⟩
            case measure => simp [intOf]; omega
      · obtain ⟨z0, z1, z2, y0, y1, y2⟩ := HZk.three
        have HO := Lib.hid hok; clear hok
        go_wp2
        refine bodyPost_ret (v := .agg #[.string kd, .slice A' k c', .bool nt]) (by simp [results, Try.results11, go_sem, z0, z1, z2]) rfl ⟨kd, A', c', acc, nt, hkd, by have := HAL.out; omega, HSZ.out, by rw [HAL.out], ?_, (by repeat (first | with_reducible assumption | with_reducible refine Cur.set ?_ (by first | (simp; done) | (simp; omega) | omega) _ | with_reducible refine Cur.alloc ?_ _ | with_reducible refine Cur.drew ?_ | with_reducible refine Cur.below ?_ (by assumption))), (by repeat (first | with_reducible exact World.grownBy.refl _ _ | with_reducible assumption | with_reducible refine gr_alloc ?_ _ | with_reducible refine gr_drew ?_ | with_reducible refine gr_drewN ?_ _ | with_reducible refine gr_set ?_ (by first | (simp; done) | (simp; omega) | omega) _ | with_reducible refine World.grownBy.trans ?_ (by assumption) | with_reducible refine grown_below ?_ (by assumption)))⟩
        rw [HAL.out]
        exact ((((HO.out.low (by first | (simp; done) | (simp; omega)) _).low (by first | (simp; done) | (simp; omega)) _).low (by first | (simp; done) | (simp; omega)) _).lower (by omega))
  · obtain ⟨d0, d1, d2, e0, e1, e2⟩ := HB.three
    go_wp2
    go_loopw [7] (fun i wr => ∃ (k : Nat) (A' : Option Addr) (c' : Nat) (acc : List Ag), k ≤ 2 ∧ i = .int .i64 k ∧ acc.length = k ∧ (∀ x ∈ acc, smallA x) ∧ Blk wr w1.heap.size 26 #[.string kd, .slice A' k c', .bool nt] ∧ Blk wr w.heap.size 26 #[.string ⟨#[]⟩, .slice none 0 0, .bool false] ∧ OwnT aC 5 wr (w1.heap.size + 1) 41 (.slice A' k c') acc ∧ Cur wr g code ∧ w.grownBy wr (some g) ∧ w1.heap.size + 1 ≤ wr.heap.size) (fun i _ => 2 - (intOf i).toNat)
    case atStart => exact ⟨0, none, 0, [], Nat.zero_le _, rfl, rfl, fun x h => (by cases h), HB, HZ, OwnT.nil_ _ _ _, hc1, hg1, by simp⟩
    case round =>
      obtain ⟨k, A', c', acc, hk, rfl, hal, hsz, HBk, HZk, hok, hck, hgk, hsk⟩ := hrel
      have HAL := Lib.hid hal; clear hal
      have HSZ := Lib.hid hsz; clear hsz
      obtain ⟨d0, d1, d2, e0, e1, e2⟩ := HBk.three
      have hglt := hck.lt
      by_cases hlt : k < 2
      · have hj1 : (k:Int) < (2:Int) := by omega
        clear d0 d1 d2 e0 e1 e2
        have d1 := HBk.cell 1
        dsimp at d1
        go_wp2_with fail
        refine wp_region_held_drew (S := (fun _ => True)) (by kernel_rfl) ?_ (fun hHeld => ?_)
        · (try dsimp only) <;> (trivial)
        refine h_take 0 (some 21) (?_) rfl rfl (by kernel_rfl) (by kernel_rfl) (by kernel_rfl) (fun _ _ _ h => h) (by kernel_rfl) ?_ (by assumption) ?_
        rotate_left
        · intro w hSw; (try dsimp only at hSw); go_simp
          all_goals first | with_reducible rfl | omega | (simp; omega)
        try simp only [Act.put, List.setIfInBounds_toArray, List.set_cons_zero, List.set_cons_succ]
        refine h_take 2 (some 23) (?_) rfl rfl (by kernel_rfl) (by kernel_rfl) (by kernel_rfl) (fun _ _ _ h => h) (by kernel_rfl) ?_ (by assumption) ?_
        rotate_left
        · intro w hSw; (try dsimp only at hSw); go_simp
          all_goals first | with_reducible rfl | omega | (simp; omega)
        try simp only [Act.put, List.setIfInBounds_toArray, List.set_cons_zero, List.set_cons_succ]
        refine wpAnyH_ready (rs := [1, 3]) (by kernel_rfl) (by simp) ?_
        refine AllReadyH.cons rfl (fun K hK => ?_) (AllReadyH.cons rfl (fun K hK => ?_) AllReadyH.nil)
        · rw [if_pos (by kernel_rfl)]
          go_simp
          refine hK.out _ _ ?_ (fun hHeld => ?_)
          · (try dsimp only) <;> (trivial)
          clear hK K
          try simp only [Act.put, List.setIfInBounds_toArray, List.set_cons_zero, List.set_cons_succ]
          refine h_call 3 (by kernel_rfl) rfl (by kernel_rfl) (fun K hK => ?_)
          go_simp
          refine (l6Arg_any g code _ (by exact (by repeat (first | with_reducible assumption | with_reducible refine Cur.set ?_ (by first | (simp; done) | (simp; omega) | omega) _ | with_reducible refine Cur.alloc ?_ _ | with_reducible refine Cur.drew ?_ | with_reducible refine Cur.below ?_ (by assumption))))).mono ?_
          rintro e w5 ⟨ak, as_, vk, vn, vs, hvs1, hvs2, rfl, hc5, hg5⟩
          have HB5 := Blk.grown (w := wr.drew) HBk hg5 (by omega)
          have HZ5 := Blk.grown (w := wr.drew) HZk hg5 (by omega)
          obtain ⟨q0, q1, q2, q3, q4, q5⟩ := HB5.three
          have hs5 := hg5.size
          simp only [drew_size'] at hs5
          have hq5 : w1.heap.size < w5.heap.size := by omega
          try dsimp only
          refine hK.out _ _ ?_ (fun hHeld => ?_)
          · (try dsimp only) <;> (trivial)
          clear hK K
          try simp only [Act.put, List.setIfInBounds_toArray, List.set_cons_zero, List.set_cons_succ]
          refine h_call 4 (by kernel_rfl) rfl (by kernel_rfl) (fun K hK => ?_)
          go_simp
          refine hK.out _ _ ?_ (fun hHeld => ?_)
          · (try dsimp only) <;> (trivial)
          clear hK K
          try simp only [Act.put, List.setIfInBounds_toArray, List.set_cons_zero, List.set_cons_succ]
          refine h_call 5 (by kernel_rfl) rfl (by kernel_rfl) (fun K hK => ?_)
          refine appO (.tmp 22) (.tmp 25) _ rfl aC_sz (w1.heap.size + 1) 41 i0 Try.underlying24 HI.out hz0 hz1 hz2 rfl (by omega) _ acc rfl ((OwnT.grownG (w := wr.drew) hok hg5 (by omega)).alloc _) _ 1 1 [⟨ak, as_, ⟨vk, vn, vs⟩⟩] rfl (RdT.new1 aC_sz w5 41 ⟨ak, as_, ⟨vk, vn, vs⟩⟩) (by intro u hu; simp [fl, aC] at hu; rcases hu with rfl | rfl | rfl | rfl | rfl <;> rfl) (by have := HAL.out; omega) (by have := hg5.size; simp at this; simp; omega) ?_ (by have := HAL.out; omega)
          intro v' w6 ho6 hb6 hs6
          have hl6 : (acc ++ [(⟨ak, as_, ⟨vk, vn, vs⟩⟩ : Ag)]).length = k + 1 := by rw [List.length_append, HAL.out]; rfl
          obtain ⟨A6, c6, hv6, _⟩ := ho6.form
          rw [hl6] at hv6
          subst hv6
          have HB6 := Blk.bel (HB5.alloc _) hb6 (by omega)
          have HZ6 := Blk.bel (HZ5.alloc _) hb6 (by omega)
          simp at hs6
          obtain ⟨r0, r1, r2, r3, r4, r5⟩ := HB6.three
          change K (Act.put _ (some 26) _) _
          refine hK.out _ _ ?_ (fun hHeld => ?_)
          · (try dsimp only) <;> (trivial)
          clear hK K
          try simp only [Act.put, List.setIfInBounds_toArray, List.set_cons_zero, List.set_cons_succ]
          refine h_take 6 (some 27) (?_) rfl rfl (by kernel_rfl) (by kernel_rfl) (by kernel_rfl) (fun _ _ _ h => h) (by kernel_rfl) ?_ (by assumption) ?_
          rotate_left
          · intro w hSw; (try dsimp only at hSw); go_simp
            all_goals first | with_reducible rfl | omega | (simp; omega)
          try simp only [Act.put, List.setIfInBounds_toArray, List.set_cons_zero, List.set_cons_succ]
          refine h_call 7 (by kernel_rfl) rfl (by kernel_rfl) (fun K hK => ?_)
          go_simp
          refine hK.out _ _ ?_ (fun hHeld => ?_)
          · (try dsimp only) <;> (trivial)
          clear hK K
          try simp only [Act.put, List.setIfInBounds_toArray, List.set_cons_zero, List.set_cons_succ]
          refine wpAnyH_done (by kernel_rfl) ?_ _
          have HB7 := HB6.set_ 1 (.slice A6 (k + 1) c6)
          have HZ7 := HZ6.far (p := ⟨w1.heap.size, 1, none⟩) (by simp; omega) (.slice A6 (k + 1) c6)
          have ho7 := ho6.low (p := ⟨w1.heap.size, 1, none⟩) (by simp) (.slice A6 (k + 1) c6)
          have hc7 : Cur (w6.setCell ⟨w1.heap.size, 1, none⟩ (.slice A6 (k + 1) c6)) g code := Cur.set (Cur.below' (hc5.alloc _) hb6 (by omega)) (by simp; omega) _
          have hg7 : w.grownBy (w6.setCell ⟨w1.heap.size, 1, none⟩ (.slice A6 (k + 1) c6)) (some g) := gr_set (gr_bel (gr_alloc (World.grownBy.trans (gr_drew hgk) hg5) _) hb6 (by omega)) (by simp; omega) _
          go_wp2
          go_roundw
          case rel => exact ⟨k + 1, A6, c6, acc ++ [⟨ak, as_, ⟨vk, vn, vs⟩⟩], by omega, by go_num, hl6, fun x hx => (by rcases List.mem_append.1 hx with h | h; exact HSZ.out x h; rw [List.mem_singleton] at h; rw [h]; exact ⟨hvs1, hvs2⟩), by simpa using HB7, HZ7, ho7, hc7, hg7, by simp; omega⟩
          case measure => simp [intOf]; omega
        · rw [if_pos (by kernel_rfl)]
          go_simp
          refine (l6Arg_any g code _ (by exact (by repeat (first | with_reducible assumption | with_reducible refine Cur.set ?_ (by first | (simp; done) | (simp; omega) | omega) _ | with_reducible refine Cur.alloc ?_ _ | with_reducible refine Cur.drew ?_ | with_reducible refine Cur.below ?_ (by assumption))))).mono ?_
          rintro e w5 ⟨ak, as_, vk, vn, vs, hvs1, hvs2, rfl, hc5, hg5⟩
          have HB5 := Blk.grown (w := wr.drew) HBk hg5 (by omega)
          have HZ5 := Blk.grown (w := wr.drew) HZk hg5 (by omega)
          obtain ⟨q0, q1, q2, q3, q4, q5⟩ := HB5.three
          have hs5 := hg5.size
          simp only [drew_size'] at hs5
          have hq5 : w1.heap.size < w5.heap.size := by omega
          try dsimp only
          refine hK.out _ _ ?_ (fun hHeld => ?_)
          · (try dsimp only) <;> (trivial)
          clear hK K
          try simp only [Act.put, List.setIfInBounds_toArray, List.set_cons_zero, List.set_cons_succ]
          refine wpAnyH_ready (rs := [1, 4]) (by kernel_rfl) (by simp) ?_
          refine AllReadyH.cons rfl (fun K hK => ?_) (AllReadyH.cons rfl (fun K hK => ?_) AllReadyH.nil)
          · rw [if_pos (by kernel_rfl)]
            go_simp
            refine hK.out _ _ ?_ (fun hHeld => ?_)
            · (try dsimp only) <;> (trivial)
            clear hK K
            try simp only [Act.put, List.setIfInBounds_toArray, List.set_cons_zero, List.set_cons_succ]
            refine h_call 4 (by kernel_rfl) rfl (by kernel_rfl) (fun K hK => ?_)
            go_simp
            refine hK.out _ _ ?_ (fun hHeld => ?_)
            · (try dsimp only) <;> (trivial)
            clear hK K
            try simp only [Act.put, List.setIfInBounds_toArray, List.set_cons_zero, List.set_cons_succ]
            refine h_call 5 (by kernel_rfl) rfl (by kernel_rfl) (fun K hK => ?_)
            refine appO (.tmp 22) (.tmp 25) _ rfl aC_sz (w1.heap.size + 1) 41 i0 Try.underlying24 HI.out hz0 hz1 hz2 rfl (by omega) _ acc rfl ((OwnT.grownG (w := wr.drew) hok hg5 (by omega)).alloc _) _ 1 1 [⟨ak, as_, ⟨vk, vn, vs⟩⟩] rfl (RdT.new1 aC_sz w5 41 ⟨ak, as_, ⟨vk, vn, vs⟩⟩) (by intro u hu; simp [fl, aC] at hu; rcases hu with rfl | rfl | rfl | rfl | rfl <;> rfl) (by have := HAL.out; omega) (by have := hg5.size; simp at this; simp; omega) ?_ (by have := HAL.out; omega)
            intro v' w6 ho6 hb6 hs6
            have hl6 : (acc ++ [(⟨ak, as_, ⟨vk, vn, vs⟩⟩ : Ag)]).length = k + 1 := by rw [List.length_append, HAL.out]; rfl
            obtain ⟨A6, c6, hv6, _⟩ := ho6.form
            rw [hl6] at hv6
            subst hv6
            have HB6 := Blk.bel (HB5.alloc _) hb6 (by omega)
            have HZ6 := Blk.bel (HZ5.alloc _) hb6 (by omega)
            simp at hs6
            obtain ⟨r0, r1, r2, r3, r4, r5⟩ := HB6.three
            change K (Act.put _ (some 26) _) _
            refine hK.out _ _ ?_ (fun hHeld => ?_)
            · (try dsimp only) <;> (trivial)
            clear hK K
            try simp only [Act.put, List.setIfInBounds_toArray, List.set_cons_zero, List.set_cons_succ]
            refine h_take 6 (some 27) (?_) rfl rfl (by kernel_rfl) (by kernel_rfl) (by kernel_rfl) (fun _ _ _ h => h) (by kernel_rfl) ?_ (by assumption) ?_
            rotate_left
            · intro w hSw; (try dsimp only at hSw); go_simp
              all_goals first | with_reducible rfl | omega | (simp; omega)
            try simp only [Act.put, List.setIfInBounds_toArray, List.set_cons_zero, List.set_cons_succ]
            refine h_call 7 (by kernel_rfl) rfl (by kernel_rfl) (fun K hK => ?_)
            go_simp
            refine hK.out _ _ ?_ (fun hHeld => ?_)
            · (try dsimp only) <;> (trivial)
            clear hK K
            try simp only [Act.put, List.setIfInBounds_toArray, List.set_cons_zero, List.set_cons_succ]
            refine wpAnyH_done (by kernel_rfl) ?_ _
            have HB7 := HB6.set_ 1 (.slice A6 (k + 1) c6)
            have HZ7 := HZ6.far (p := ⟨w1.heap.size, 1, none⟩) (by simp; omega) (.slice A6 (k + 1) c6)
            have ho7 := ho6.low (p := ⟨w1.heap.size, 1, none⟩) (by simp) (.slice A6 (k + 1) c6)
            have hc7 : Cur (w6.setCell ⟨w1.heap.size, 1, none⟩ (.slice A6 (k + 1) c6)) g code := Cur.set (Cur.below' (hc5.alloc _) hb6 (by omega)) (by simp; omega) _
            have hg7 : w.grownBy (w6.setCell ⟨w1.heap.size, 1, none⟩ (.slice A6 (k + 1) c6)) (some g) := gr_set (gr_bel (gr_alloc (World.grownBy.trans (gr_drew hgk) hg5) _) hb6 (by omega)) (by simp; omega) _
            go_wp2
            go_roundw
            case rel => exact ⟨k + 1, A6, c6, acc ++ [⟨ak, as_, ⟨vk, vn, vs⟩⟩], by omega, by go_num, hl6, fun x hx => (by rcases List.mem_append.1 hx with h | h; exact HSZ.out x h; rw [List.mem_singleton] at h; rw [h]; exact ⟨hvs1, hvs2⟩), by simpa using HB7, HZ7, ho7, hc7, hg7, by simp; omega⟩
            case measure => simp [intOf]; omega
          · rw [if_pos (by kernel_rfl)]
            go_simp
            refine hK.out _ _ ?_ (fun hHeld => ?_)
            · (try dsimp only) <;> (trivial)
            clear hK K
            try simp only [Act.put, List.setIfInBounds_toArray, List.set_cons_zero, List.set_cons_succ]
            refine h_call 1 (by kernel_rfl) rfl (by kernel_rfl) (fun K hK => ?_)
            go_simp
            refine hK.out _ _ ?_ (fun hHeld => ?_)
            · (try dsimp only) <;> (trivial)
            clear hK K
            try simp only [Act.put, List.setIfInBounds_toArray, List.set_cons_zero, List.set_cons_succ]
            refine h_call 5 (by kernel_rfl) rfl (by kernel_rfl) (fun K hK => ?_)
            refine appO (.tmp 22) (.tmp 25) _ rfl aC_sz (w1.heap.size + 1) 41 i0 Try.underlying24 HI.out hz0 hz1 hz2 rfl (by omega) _ acc rfl ((OwnT.grownG (w := wr.drew) hok hg5 (by omega)).alloc _) _ 1 1 [⟨ak, as_, ⟨vk, vn, vs⟩⟩] rfl (RdT.new1 aC_sz w5 41 ⟨ak, as_, ⟨vk, vn, vs⟩⟩) (by intro u hu; simp [fl, aC] at hu; rcases hu with rfl | rfl | rfl | rfl | rfl <;> rfl) (by have := HAL.out; omega) (by have := hg5.size; simp at this; simp; omega) ?_ (by have := HAL.out; omega)
            intro v' w6 ho6 hb6 hs6
            have hl6 : (acc ++ [(⟨ak, as_, ⟨vk, vn, vs⟩⟩ : Ag)]).length = k + 1 := by rw [List.length_append, HAL.out]; rfl
            obtain ⟨A6, c6, hv6, _⟩ := ho6.form
            rw [hl6] at hv6
            subst hv6
            have HB6 := Blk.bel (HB5.alloc _) hb6 (by omega)
            have HZ6 := Blk.bel (HZ5.alloc _) hb6 (by omega)
            simp at hs6
            obtain ⟨r0, r1, r2, r3, r4, r5⟩ := HB6.three
            change K (Act.put _ (some 26) _) _
            refine hK.out _ _ ?_ (fun hHeld => ?_)
            · (try dsimp only) <;> (trivial)
            clear hK K
            try simp only [Act.put, List.setIfInBounds_toArray, List.set_cons_zero, List.set_cons_succ]
            refine h_take 6 (some 27) (?_) rfl rfl (by kernel_rfl) (by kernel_rfl) (by kernel_rfl) (fun _ _ _ h => h) (by kernel_rfl) ?_ (by assumption) ?_
            rotate_left
            · intro w hSw; (try dsimp only at hSw); go_simp
              all_goals first | with_reducible rfl | omega | (simp; omega)
            try simp only [Act.put, List.setIfInBounds_toArray, List.set_cons_zero, List.set_cons_succ]
            refine h_call 7 (by kernel_rfl) rfl (by kernel_rfl) (fun K hK => ?_)
            go_simp
            refine hK.out _ _ ?_ (fun hHeld => ?_)
            · (try dsimp only) <;> (trivial)
            clear hK K
            try simp only [Act.put, List.setIfInBounds_toArray, List.set_cons_zero, List.set_cons_succ]
            refine wpAnyH_done (by kernel_rfl) ?_ _
            have HB7 := HB6.set_ 1 (.slice A6 (k + 1) c6)
            have HZ7 := HZ6.far (p := ⟨w1.heap.size, 1, none⟩) (by simp; omega) (.slice A6 (k + 1) c6)
            have ho7 := ho6.low (p := ⟨w1.heap.size, 1, none⟩) (by simp) (.slice A6 (k + 1) c6)
            have hc7 : Cur (w6.setCell ⟨w1.heap.size, 1, none⟩ (.slice A6 (k + 1) c6)) g code := Cur.set (Cur.below' (hc5.alloc _) hb6 (by omega)) (by simp; omega) _
            have hg7 : w.grownBy (w6.setCell ⟨w1.heap.size, 1, none⟩ (.slice A6 (k + 1) c6)) (some g) := gr_set (gr_bel (gr_alloc (World.grownBy.trans (gr_drew hgk) hg5) _) hb6 (by omega)) (by simp; omega) _
            go_wp2
            go_roundw
            case rel => exact ⟨k + 1, A6, c6, acc ++ [⟨ak, as_, ⟨vk, vn, vs⟩⟩], by omega, by go_num, hl6, fun x hx => (by rcases List.mem_append.1 hx with h | h; exact HSZ.out x h; rw [List.mem_singleton] at h; rw [h]; exact ⟨hvs1, hvs2⟩), by simpa using HB7, HZ7, ho7, hc7, hg7, by simp; omega⟩
            case measure => simp [intOf]; omega
      · obtain ⟨z0, z1, z2, y0, y1, y2⟩ := HZk.three
        have HO := Lib.hid hok; clear hok
        go_wp2
        refine bodyPost_ret (v := .agg #[.string kd, .slice A' k c', .bool nt]) (by simp [results, Try.results11, go_sem, z0, z1, z2]) rfl ⟨kd, A', c', acc, nt, hkd, by have := HAL.out; omega, HSZ.out, by rw [HAL.out], ?_, (by repeat (first | with_reducible assumption | with_reducible refine Cur.set ?_ (by first | (simp; done) | (simp; omega) | omega) _ | with_reducible refine Cur.alloc ?_ _ | with_reducible refine Cur.drew ?_ | with_reducible refine Cur.below ?_ (by assumption))), (by repeat (first | with_reducible exact World.grownBy.refl _ _ | with_reducible assumption | with_reducible refine gr_alloc ?_ _ | with_reducible refine gr_drew ?_ | with_reducible refine gr_drewN ?_ _ | with_reducible refine gr_set ?_ (by first | (simp; done) | (simp; omega) | omega) _ | with_reducible refine World.grownBy.trans ?_ (by assumption) | with_reducible refine grown_below ?_ (by assumption)))⟩
        rw [HAL.out]
        exact ((((HO.out.low (by first | (simp; done) | (simp; omega)) _).low (by first | (simp; done) | (simp; omega)) _).low (by first | (simp; done) | (simp; omega)) _).lower (by omega))
end Go.Proofs.Ytdlcbmhnagajdaa
