import Derived.Test.YtcbbefibebkfgaaGreatDoorBlk
import Derived.Test.YtcbbefibebkfgaaGreatDoorApp2
import Derived.Test.YtcbbefibebkfgaaGreatDoorPkFact
import Derived.Test.YtcbbefibebkfgaaGreatDoorHeld
/- What the drawing functions of facts answer. No condition but lengths. -/
namespace Go.Proofs.YtcbbefibebkfgaaGreatDoor
open Go.RowKit
set_option maxRecDepth 100000
set_option maxHeartbeats 4000000
theorem l3Small_any (g : Nat) (code : List UInt8) (w : World) (hc : Cur w g code) : Calls Tryz.prog 71 #[.pointer (some ⟨g, 0, none⟩)] w (DrawnV g code w) := by
  have hg := hc.lt
  have HZ := Blk.new w 47 #[.int .i64 0, .int .i64 0, .string ⟨#[]⟩]
  go_enter Tryz.func71, Tryz.ntmps71
  go_wp2_with fail
  refine (l1Once_any g code _ _ (hc.alloc _) (by omega)).mono ?_
  rintro e w1 ⟨b, rfl, hc1, hg1⟩
  replace HZ := HZ.grown hg1 (by omega)
  have hs1 := hg1.size
  simp at hs1
  have hl1 := hc1.lt
  replace hg1 := (World.grownBy_alloc w _ (some g)).trans hg1
  cases b
  · go_wp2_with fail
    refine (l1Str_any g code _ 2 2 [⟨#[97]⟩, ⟨#[98]⟩] _ _ (hc1.alloc _) (Rd.lit w1 9 _ 2 rfl) (by omega) (by omega) (ne_lit hl1)).mono ?_
    rintro e w2 ⟨s, hs, rfl, hc2, hg2⟩
    have hss : s.size ≤ 30 := by
      simp only [List.mem_cons, List.not_mem_nil, or_false] at hs
      rcases hs with rfl | rfl <;> decide
    clear hs
    replace HZ := (HZ.alloc _).grown hg2 (by omega)
    obtain ⟨c0, c1, c2, f0, f1, f2⟩ := HZ.three
    replace hg2 := (World.grownBy_alloc w1 _ (some g)).trans hg2
    go_wp2
    refine bodyPost_ret (v := .agg #[.int .i64 2, .int .i64 0, .string s]) (by simp [results, Tryz.results71, go_sem, c0, c1, c2]) rfl ⟨2, 0, s, hss, rfl, (by repeat (first | with_reducible assumption | with_reducible refine Cur.set ?_ (by first | (simp; done) | (simp; omega) | omega) _ | with_reducible refine Cur.alloc ?_ _ | with_reducible refine Cur.drew ?_ | with_reducible refine Cur.below ?_ (by assumption))), (by repeat (first | with_reducible exact World.grownBy.refl _ _ | with_reducible assumption | with_reducible refine gr_alloc ?_ _ | with_reducible refine gr_drew ?_ | with_reducible refine gr_drewN ?_ _ | with_reducible refine gr_set ?_ (by first | (simp; done) | (simp; omega) | omega) _ | with_reducible refine World.grownBy.trans ?_ (by assumption) | with_reducible refine grown_below ?_ (by assumption)))⟩
  · go_wp2_with fail
    refine (l1Below_any g code 3 _ hc1 (by omega)).mono ?_
    rintro e w2 ⟨x, hx, rfl, hc2, hg2⟩
    replace HZ := HZ.grown hg2 (by omega)
    obtain ⟨c0, c1, c2, f0, f1, f2⟩ := HZ.three
    go_wp2
    refine bodyPost_ret (v := .agg #[.int .i64 1, .int .i64 (1 + x), .string ⟨#[]⟩]) (by simp [results, Tryz.results71, go_sem, c0, c1, c2]) rfl ⟨1, 1 + x, ⟨#[]⟩, by decide, rfl, (by repeat (first | with_reducible assumption | with_reducible refine Cur.set ?_ (by first | (simp; done) | (simp; omega) | omega) _ | with_reducible refine Cur.alloc ?_ _ | with_reducible refine Cur.drew ?_ | with_reducible refine Cur.below ?_ (by assumption))), (by repeat (first | with_reducible exact World.grownBy.refl _ _ | with_reducible assumption | with_reducible refine gr_alloc ?_ _ | with_reducible refine gr_drew ?_ | with_reducible refine gr_drewN ?_ _ | with_reducible refine gr_set ?_ (by first | (simp; done) | (simp; omega) | omega) _ | with_reducible refine World.grownBy.trans ?_ (by assumption) | with_reducible refine grown_below ?_ (by assumption)))⟩
def DrawnF (g : Nat) (code : List UInt8) (w : World) (e : Ending) (w' : World) : Prop :=
  ∃ (kd : ByteArray) (A : Option Addr) (c : Nat) (fs : List Vl), kd.size ≤ 30 ∧ fs.length ≤ 6 ∧ (∀ x ∈ fs, x.s.size ≤ 30) ∧ e = .returned (.agg #[.string kd, .slice A fs.length c]) ∧ OwnT vC 3 w' w.heap.size 47 (.slice A fs.length c) fs ∧ Cur w' g code ∧ w.grownBy w' (some g)
theorem OwnT.grownG {α : Type} {f : α → List Value} {z : Nat} {w w' : World} {base g : Nat} {e : TypeId} {v : Value} {xs : List α} (h : OwnT f z w base e v xs) (hg : w.grownBy w' (some g)) (hb : g < base) : OwnT f z w' base e v xs :=
  World.ownsRow.kept h hg (by cases hv : v.ownBlock with | none => exact .inl rfl | some b => exact .inr fun e => by have := (World.ownsRow.lt h b hv).1; injection e with e; omega)
theorem Blk.bel {w w' : World} {b B : Nat} {t : TypeId} {cs : Array Value} (h : Blk w b t cs) (hb : Below B w w') (hB : b < B) : Blk w' b t cs := (hb.block b hB).trans h
theorem drew_size' (w : World) : w.drew.heap.size = w.heap.size := rfl
theorem gr_bel {a w w' : World} {g B : Nat} (h : a.grownBy w (some g)) (hb : Below B w w') (hB : a.heap.size ≤ B) : a.grownBy w' (some g) :=
  ⟨hb.os.trans h.os, hb.tape.trans h.tape, hb.output.trans h.output, Nat.le_trans h.size hb.size, fun i hi hne => (hb.block i (by omega)).trans (h.block i hi hne)⟩
/-- the same, and its kind is another than one word -/
def fullB : ByteArray := ⟨#[102, 117, 108, 108]⟩
def DrawnK (g : Nat) (code : List UInt8) (w : World) (e : Ending) (w' : World) : Prop :=
  ∃ (kd : ByteArray) (A : Option Addr) (c : Nat) (fs : List Vl), (kd.size ≤ 30 ∧ kd ≠ fullB) ∧ fs.length ≤ 6 ∧ (∀ x ∈ fs, x.s.size ≤ 30) ∧ e = .returned (.agg #[.string kd, .slice A fs.length c]) ∧ OwnT vC 3 w' w.heap.size 47 (.slice A fs.length c) fs ∧ Cur w' g code ∧ w.grownBy w' (some g)
theorem l3DrawK_any (g : Nat) (code : List UInt8) (w : World) (hc : Cur w g code) : Calls Tryz.prog 40 #[.pointer (some ⟨g, 0, none⟩)] w (DrawnK g code w) := by
  obtain ⟨i0, hi, hz0, hz1, hz2⟩ := info_parts infoVal
  have HI := Lib.hid hi; clear hi
  have hg := hc.lt
  have HZ := Blk.new w 26 #[.string ⟨#[]⟩, .slice none 0 0]
  go_enter Tryz.func40, Tryz.ntmps40
  go_wp2_with fail
  refine (l1Str_any g code _ 4 4 [⟨#[111, 114, 100, 101, 114]⟩, ⟨#[112, 97, 105, 100]⟩, ⟨#[105, 116, 101, 109]⟩, ⟨#[111, 114, 100, 101, 114]⟩] _ _ ((hc.alloc _).alloc _) (by have h := Rd.lit (w.alloc (.cells #[.string ⟨#[]⟩, .slice none 0 0] 26)) 9 #[.string ⟨#[111, 114, 100, 101, 114]⟩, .string ⟨#[112, 97, 105, 100]⟩, .string ⟨#[105, 116, 101, 109]⟩, .string ⟨#[111, 114, 100, 101, 114]⟩] 4 rfl; simpa using h) (by omega) (by omega) (fun b o e => by injection e with e; injection e with e1; omega)).mono ?_
  rintro e w1 ⟨kd, hs, rfl, hc1, hg1⟩
  have hkd : kd.size ≤ 30 ∧ kd ≠ fullB := by
    simp only [List.mem_cons, List.not_mem_nil, or_false] at hs
    rcases hs with rfl | rfl | rfl | rfl <;> exact ⟨by decide, by decide⟩
  clear hs
  replace HZ := (HZ.alloc _).grown hg1 (by omega)
  have hs1 := hg1.size
  simp at hs1
  have hl1 := hc1.lt
  replace hg1 := ((World.grownBy_alloc w _ (some g)).trans (World.grownBy_alloc _ _ (some g))).trans hg1
  have HB := Blk.new w1 26 #[.string kd, .slice none 0 0]
  replace HZ := HZ.alloc (.cells #[.string kd, .slice none 0 0] 26)
  replace hc1 := hc1.alloc (.cells #[.string kd, .slice none 0 0] 26)
  replace hg1 := gr_alloc hg1 (.cells #[.string kd, .slice none 0 0] 26)
  have hz2' : w.heap.size < w1.heap.size := by omega
  have hgs : g < w.heap.size := hg
  obtain ⟨bk, hbk⟩ : ∃ bk : Bool, (kd.toList == [105, 116, 101, 109]) = bk := ⟨_, rfl⟩
  cases bk
  all_goals
    obtain ⟨d0, d1, e0, e1⟩ := HB.two
    go_wp2_with fail
    refine (l1Once_any g code _ _ hc1 (by omega)).mono ?_
    rintro e w3 ⟨b, rfl, hc3, hg3⟩
    replace HZ := HZ.grown hg3 (by omega)
    replace HB := HB.grown hg3 (by omega)
    have hs3 := hg3.size
    simp at hs3
    replace hg1 := World.grownBy.trans hg1 hg3
    clear d0 d1 e0 e1 hg3
    cases b
  · obtain ⟨d0, d1, e0, e1⟩ := HB.two
    go_wp2
    go_loopw [5] (fun i wr => ∃ (k : Nat) (A' : Option Addr) (c' : Nat) (acc : List Vl), k ≤ 1 ∧ i = .int .i64 k ∧ acc.length = k ∧ (∀ x ∈ acc, x.s.size ≤ 30) ∧ Blk wr w1.heap.size 26 #[.string kd, .slice A' k c'] ∧ Blk wr w.heap.size 26 #[.string ⟨#[]⟩, .slice none 0 0] ∧ OwnT vC 3 wr (w1.heap.size + 1) 47 (.slice A' k c') acc ∧ Cur wr g code ∧ w.grownBy wr (some g) ∧ w1.heap.size + 1 ≤ wr.heap.size) (fun i _ => 1 - (intOf i).toNat)
    case atStart => exact ⟨0, none, 0, [], Nat.zero_le _, rfl, rfl, fun x h => (by cases h), HB, HZ, OwnT.nil_ _ _ _, hc3, hg1, hs3⟩
    case round =>
      obtain ⟨k, A', c', acc, hk, rfl, hal, hsz, HBk, HZk, hok, hck, hgk, hsk⟩ := hrel
      have HAL := Lib.hid hal; clear hal
      have HSZ := Lib.hid hsz; clear hsz
      obtain ⟨d0, d1, e0, e1⟩ := HBk.two
      have hglt := hck.lt
      by_cases hlt : k < 1
      · have hj1 : (k:Int) < (1:Int) := by omega
        clear d0 d1 e0 e1
        have d1 := HBk.cell 1
        dsimp at d1
        go_wp2_with fail
        refine wp_region_held_drew (S := (fun _ => True)) (by kernel_rfl) ?_ (fun hHeld => ?_)
        · (try dsimp only) <;> (trivial)
        refine h_take 0 (some 22) (?_) rfl rfl (by kernel_rfl) (by kernel_rfl) (by kernel_rfl) (fun _ _ _ h => h) (by kernel_rfl) ?_ (by assumption) ?_
        rotate_left
        · intro w hSw; (try dsimp only at hSw); go_simp
          all_goals first | with_reducible rfl | omega | (simp; omega)
        try simp only [Act.put, List.setIfInBounds_toArray, List.set_cons_zero, List.set_cons_succ]
        refine h_take 2 (some 24) (?_) rfl rfl (by kernel_rfl) (by kernel_rfl) (by kernel_rfl) (fun _ _ _ h => h) (by kernel_rfl) ?_ (by assumption) ?_
        rotate_left
        · intro w hSw; (try dsimp only at hSw); go_simp
          all_goals first | with_reducible rfl | omega | (simp; omega)
        try simp only [Act.put, List.setIfInBounds_toArray, List.set_cons_zero, List.set_cons_succ]
        refine wpAnyH_ready (rs := [1, 3]) (by kernel_rfl) (by simp) ?_
        refine AllReadyH.cons rfl (fun K hK => ?_) (AllReadyH.cons rfl (fun K hK => ?_) AllReadyH.nil)
        · rw [if_pos (by kernel_rfl)]
          go_simp
          refine hK.out _ _ ?_ (fun hHeld => ?_)
          · (try dsimp only) <;> (trivial)
          clear hK K
          try simp only [Act.put, List.setIfInBounds_toArray, List.set_cons_zero, List.set_cons_succ]
          refine h_call 3 (by kernel_rfl) rfl (by kernel_rfl) (fun K hK => ?_)
          go_simp
          refine (l3Small_any g code _ (by exact (by repeat (first | with_reducible assumption | with_reducible refine Cur.set ?_ (by first | (simp; done) | (simp; omega) | omega) _ | with_reducible refine Cur.alloc ?_ _ | with_reducible refine Cur.drew ?_ | with_reducible refine Cur.below ?_ (by assumption))))).mono ?_
          rintro e w5 ⟨vk, vn, vs, hvs, rfl, hc5, hg5⟩
          have HB5 := Blk.grown (w := wr.drew) HBk hg5 (by omega)
          have HZ5 := Blk.grown (w := wr.drew) HZk hg5 (by omega)
          obtain ⟨q0, q1, q2, q3⟩ := HB5.two
          have hs5 := hg5.size
          simp only [drew_size'] at hs5
          have hq5 : w1.heap.size < w5.heap.size := by omega
          try dsimp only
          refine hK.out _ _ ?_ (fun hHeld => ?_)
          · (try dsimp only) <;> (trivial)
          clear hK K
          try simp only [Act.put, List.setIfInBounds_toArray, List.set_cons_zero, List.set_cons_succ]
          refine h_call 4 (by kernel_rfl) rfl (by kernel_rfl) (fun K hK => ?_)
          go_simp
          refine hK.out _ _ ?_ (fun hHeld => ?_)
          · (try dsimp only) <;> (trivial)
          clear hK K
          try simp only [Act.put, List.setIfInBounds_toArray, List.set_cons_zero, List.set_cons_succ]
          refine h_call 5 (by kernel_rfl) rfl (by kernel_rfl) (fun K hK => ?_)
          refine appO (.tmp 23) (.tmp 26) _ rfl vC_sz (w1.heap.size + 1) 47 i0 Tryz.underlying24 HI.out hz0 hz1 hz2 rfl (by omega) _ acc rfl ((OwnT.grownG (w := wr.drew) hok hg5 (by omega)).alloc _) _ 1 1 [⟨vk, vn, vs⟩] rfl (RdT.new1 vC_sz w5 47 ⟨vk, vn, vs⟩) (by intro u hu; simp [fl, vC] at hu; rcases hu with rfl | rfl | rfl <;> rfl) (by have := HAL.out; omega) (by have := hg5.size; simp at this; simp; omega) ?_ (by have := HAL.out; omega)
          intro v' w6 ho6 hb6 hs6
          have hl6 : (acc ++ [(⟨vk, vn, vs⟩ : Vl)]).length = k + 1 := by rw [List.length_append, HAL.out]; rfl
          obtain ⟨A6, c6, hv6, _⟩ := ho6.form
          rw [hl6] at hv6
          subst hv6
          have HB6 := Blk.bel (HB5.alloc _) hb6 (by omega)
          have HZ6 := Blk.bel (HZ5.alloc _) hb6 (by omega)
          simp at hs6
          obtain ⟨r0, r1, r2, r3⟩ := HB6.two
          change K (Act.put _ (some 27) _) _
          refine hK.out _ _ ?_ (fun hHeld => ?_)
          · (try dsimp only) <;> (trivial)
          clear hK K
          try simp only [Act.put, List.setIfInBounds_toArray, List.set_cons_zero, List.set_cons_succ]
          refine h_take 6 (some 28) (?_) rfl rfl (by kernel_rfl) (by kernel_rfl) (by kernel_rfl) (fun _ _ _ h => h) (by kernel_rfl) ?_ (by assumption) ?_
          rotate_left
          · intro w hSw; (try dsimp only at hSw); go_simp
            all_goals first | with_reducible rfl | omega | (simp; omega)
          try simp only [Act.put, List.setIfInBounds_toArray, List.set_cons_zero, List.set_cons_succ]
          refine h_call 7 (by kernel_rfl) rfl (by kernel_rfl) (fun K hK => ?_)
          go_simp
          refine hK.out _ _ ?_ (fun hHeld => ?_)
          · (try dsimp only) <;> (trivial)
          clear hK K
          try simp only [Act.put, List.setIfInBounds_toArray, List.set_cons_zero, List.set_cons_succ]
          refine wpAnyH_done (by kernel_rfl) ?_ _
          have HB7 := HB6.set_ 1 (.slice A6 (k + 1) c6)
          have HZ7 := HZ6.far (p := ⟨w1.heap.size, 1, none⟩) (by simp; omega) (.slice A6 (k + 1) c6)
          have ho7 := ho6.low (p := ⟨w1.heap.size, 1, none⟩) (by simp) (.slice A6 (k + 1) c6)
          have hc7 : Cur (w6.setCell ⟨w1.heap.size, 1, none⟩ (.slice A6 (k + 1) c6)) g code := Cur.set (Cur.below' (hc5.alloc _) hb6 (by omega)) (by simp; omega) _
          have hg7 : w.grownBy (w6.setCell ⟨w1.heap.size, 1, none⟩ (.slice A6 (k + 1) c6)) (some g) := gr_set (gr_bel (gr_alloc (World.grownBy.trans (gr_drew hgk) hg5) _) hb6 (by omega)) (by simp; omega) _
          go_wp2
          go_roundw
          case rel => exact ⟨k + 1, A6, c6, acc ++ [⟨vk, vn, vs⟩], by omega, by go_num, hl6, fun x hx => (by rcases List.mem_append.1 hx with h | h; exact HSZ.out x h; rw [List.mem_singleton] at h; rw [h]; exact hvs), by simpa using HB7, HZ7, ho7, hc7, hg7, by simp; omega⟩
          case measure => simp [intOf]; omega
        · rw [if_pos (by kernel_rfl)]
          go_simp
          refine (l3Small_any g code _ (by exact (by repeat (first | with_reducible assumption | with_reducible refine Cur.set ?_ (by first | (simp; done) | (simp; omega) | omega) _ | with_reducible refine Cur.alloc ?_ _ | with_reducible refine Cur.drew ?_ | with_reducible refine Cur.below ?_ (by assumption))))).mono ?_
          rintro e w5 ⟨vk, vn, vs, hvs, rfl, hc5, hg5⟩
          have HB5 := Blk.grown (w := wr.drew) HBk hg5 (by omega)
          have HZ5 := Blk.grown (w := wr.drew) HZk hg5 (by omega)
          obtain ⟨q0, q1, q2, q3⟩ := HB5.two
          have hs5 := hg5.size
          simp only [drew_size'] at hs5
          have hq5 : w1.heap.size < w5.heap.size := by omega
          try dsimp only
          refine hK.out _ _ ?_ (fun hHeld => ?_)
          · (try dsimp only) <;> (trivial)
          clear hK K
          try simp only [Act.put, List.setIfInBounds_toArray, List.set_cons_zero, List.set_cons_succ]
          refine wpAnyH_ready (rs := [1, 4]) (by kernel_rfl) (by simp) ?_
          refine AllReadyH.cons rfl (fun K hK => ?_) (AllReadyH.cons rfl (fun K hK => ?_) AllReadyH.nil)
          · rw [if_pos (by kernel_rfl)]
            go_simp
            refine hK.out _ _ ?_ (fun hHeld => ?_)
            · (try dsimp only) <;> (trivial)
            clear hK K
            try simp only [Act.put, List.setIfInBounds_toArray, List.set_cons_zero, List.set_cons_succ]
            refine h_call 4 (by kernel_rfl) rfl (by kernel_rfl) (fun K hK => ?_)
            go_simp
            refine hK.out _ _ ?_ (fun hHeld => ?_)
            · (try dsimp only) <;> (trivial)
            clear hK K
            try simp only [Act.put, List.setIfInBounds_toArray, List.set_cons_zero, List.set_cons_succ]
            refine h_call 5 (by kernel_rfl) rfl (by kernel_rfl) (fun K hK => ?_)
            refine appO (.tmp 23) (.tmp 26) _ rfl vC_sz (w1.heap.size + 1) 47 i0 Tryz.underlying24 HI.out hz0 hz1 hz2 rfl (by omega) _ acc rfl ((OwnT.grownG (w := wr.drew) hok hg5 (by omega)).alloc _) _ 1 1 [⟨vk, vn, vs⟩] rfl (RdT.new1 vC_sz w5 47 ⟨vk, vn, vs⟩) (by intro u hu; simp [fl, vC] at hu; rcases hu with rfl | rfl | rfl <;> rfl) (by have := HAL.out; omega) (by have := hg5.size; simp at this; simp; omega) ?_ (by have := HAL.out; omega)
            intro v' w6 ho6 hb6 hs6
            have hl6 : (acc ++ [(⟨vk, vn, vs⟩ : Vl)]).length = k + 1 := by rw [List.length_append, HAL.out]; rfl
            obtain ⟨A6, c6, hv6, _⟩ := ho6.form
            rw [hl6] at hv6
            subst hv6
            have HB6 := Blk.bel (HB5.alloc _) hb6 (by omega)
            have HZ6 := Blk.bel (HZ5.alloc _) hb6 (by omega)
            simp at hs6
            obtain ⟨r0, r1, r2, r3⟩ := HB6.two
            change K (Act.put _ (some 27) _) _
            refine hK.out _ _ ?_ (fun hHeld => ?_)
            · (try dsimp only) <;> (trivial)
            clear hK K
            try simp only [Act.put, List.setIfInBounds_toArray, List.set_cons_zero, List.set_cons_succ]
            refine h_take 6 (some 28) (?_) rfl rfl (by kernel_rfl) (by kernel_rfl) (by kernel_rfl) (fun _ _ _ h => h) (by kernel_rfl) ?_ (by assumption) ?_
            rotate_left
            · intro w hSw; (try dsimp only at hSw); go_simp
              all_goals first | with_reducible rfl | omega | (simp; omega)
            try simp only [Act.put, List.setIfInBounds_toArray, List.set_cons_zero, List.set_cons_succ]
            refine h_call 7 (by kernel_rfl) rfl (by kernel_rfl) (fun K hK => ?_)
            go_simp
            refine hK.out _ _ ?_ (fun hHeld => ?_)
            · (try dsimp only) <;> (trivial)
            clear hK K
            try simp only [Act.put, List.setIfInBounds_toArray, List.set_cons_zero, List.set_cons_succ]
            refine wpAnyH_done (by kernel_rfl) ?_ _
            have HB7 := HB6.set_ 1 (.slice A6 (k + 1) c6)
            have HZ7 := HZ6.far (p := ⟨w1.heap.size, 1, none⟩) (by simp; omega) (.slice A6 (k + 1) c6)
            have ho7 := ho6.low (p := ⟨w1.heap.size, 1, none⟩) (by simp) (.slice A6 (k + 1) c6)
            have hc7 : Cur (w6.setCell ⟨w1.heap.size, 1, none⟩ (.slice A6 (k + 1) c6)) g code := Cur.set (Cur.below' (hc5.alloc _) hb6 (by omega)) (by simp; omega) _
            have hg7 : w.grownBy (w6.setCell ⟨w1.heap.size, 1, none⟩ (.slice A6 (k + 1) c6)) (some g) := gr_set (gr_bel (gr_alloc (World.grownBy.trans (gr_drew hgk) hg5) _) hb6 (by omega)) (by simp; omega) _
            go_wp2
            go_roundw
            case rel => exact ⟨k + 1, A6, c6, acc ++ [⟨vk, vn, vs⟩], by omega, by go_num, hl6, fun x hx => (by rcases List.mem_append.1 hx with h | h; exact HSZ.out x h; rw [List.mem_singleton] at h; rw [h]; exact hvs), by simpa using HB7, HZ7, ho7, hc7, hg7, by simp; omega⟩
            case measure => simp [intOf]; omega
          · rw [if_pos (by kernel_rfl)]
            go_simp
            refine hK.out _ _ ?_ (fun hHeld => ?_)
            · (try dsimp only) <;> (trivial)
            clear hK K
            try simp only [Act.put, List.setIfInBounds_toArray, List.set_cons_zero, List.set_cons_succ]
            refine h_call 1 (by kernel_rfl) rfl (by kernel_rfl) (fun K hK => ?_)
            go_simp
            refine hK.out _ _ ?_ (fun hHeld => ?_)
            · (try dsimp only) <;> (trivial)
            clear hK K
            try simp only [Act.put, List.setIfInBounds_toArray, List.set_cons_zero, List.set_cons_succ]
            refine h_call 5 (by kernel_rfl) rfl (by kernel_rfl) (fun K hK => ?_)
            refine appO (.tmp 23) (.tmp 26) _ rfl vC_sz (w1.heap.size + 1) 47 i0 Tryz.underlying24 HI.out hz0 hz1 hz2 rfl (by omega) _ acc rfl ((OwnT.grownG (w := wr.drew) hok hg5 (by omega)).alloc _) _ 1 1 [⟨vk, vn, vs⟩] rfl (RdT.new1 vC_sz w5 47 ⟨vk, vn, vs⟩) (by intro u hu; simp [fl, vC] at hu; rcases hu with rfl | rfl | rfl <;> rfl) (by have := HAL.out; omega) (by have := hg5.size; simp at this; simp; omega) ?_ (by have := HAL.out; omega)
            intro v' w6 ho6 hb6 hs6
            have hl6 : (acc ++ [(⟨vk, vn, vs⟩ : Vl)]).length = k + 1 := by rw [List.length_append, HAL.out]; rfl
            obtain ⟨A6, c6, hv6, _⟩ := ho6.form
            rw [hl6] at hv6
            subst hv6
            have HB6 := Blk.bel (HB5.alloc _) hb6 (by omega)
            have HZ6 := Blk.bel (HZ5.alloc _) hb6 (by omega)
            simp at hs6
            obtain ⟨r0, r1, r2, r3⟩ := HB6.two
            change K (Act.put _ (some 27) _) _
            refine hK.out _ _ ?_ (fun hHeld => ?_)
            · (try dsimp only) <;> (trivial)
            clear hK K
            try simp only [Act.put, List.setIfInBounds_toArray, List.set_cons_zero, List.set_cons_succ]
            refine h_take 6 (some 28) (?_) rfl rfl (by kernel_rfl) (by kernel_rfl) (by kernel_rfl) (fun _ _ _ h => h) (by kernel_rfl) ?_ (by assumption) ?_
            rotate_left
            · intro w hSw; (try dsimp only at hSw); go_simp
              all_goals first | with_reducible rfl | omega | (simp; omega)
            try simp only [Act.put, List.setIfInBounds_toArray, List.set_cons_zero, List.set_cons_succ]
            refine h_call 7 (by kernel_rfl) rfl (by kernel_rfl) (fun K hK => ?_)
            go_simp
            refine hK.out _ _ ?_ (fun hHeld => ?_)
            · (try dsimp only) <;> (trivial)
            clear hK K
            try simp only [Act.put, List.setIfInBounds_toArray, List.set_cons_zero, List.set_cons_succ]
            refine wpAnyH_done (by kernel_rfl) ?_ _
            have HB7 := HB6.set_ 1 (.slice A6 (k + 1) c6)
            have HZ7 := HZ6.far (p := ⟨w1.heap.size, 1, none⟩) (by simp; omega) (.slice A6 (k + 1) c6)
            have ho7 := ho6.low (p := ⟨w1.heap.size, 1, none⟩) (by simp) (.slice A6 (k + 1) c6)
            have hc7 : Cur (w6.setCell ⟨w1.heap.size, 1, none⟩ (.slice A6 (k + 1) c6)) g code := Cur.set (Cur.below' (hc5.alloc _) hb6 (by omega)) (by simp; omega) _
            have hg7 : w.grownBy (w6.setCell ⟨w1.heap.size, 1, none⟩ (.slice A6 (k + 1) c6)) (some g) := gr_set (gr_bel (gr_alloc (World.grownBy.trans (gr_drew hgk) hg5) _) hb6 (by omega)) (by simp; omega) _
            go_wp2
            go_roundw
            case rel => exact ⟨k + 1, A6, c6, acc ++ [⟨vk, vn, vs⟩], by omega, by go_num, hl6, fun x hx => (by rcases List.mem_append.1 hx with h | h; exact HSZ.out x h; rw [List.mem_singleton] at h; rw [h]; exact hvs), by simpa using HB7, HZ7, ho7, hc7, hg7, by simp; omega⟩
            case measure => simp [intOf]; omega
      · obtain ⟨z0, z1, y0, y1⟩ := HZk.two
        have HO := Lib.hid hok; clear hok
        go_wp2
        refine bodyPost_ret (v := .agg #[.string kd, .slice A' k c']) (by simp [results, Tryz.results40, go_sem, z0, z1]) rfl ⟨kd, A', c', acc, hkd, by have := HAL.out; omega, HSZ.out, by rw [HAL.out], ?_, (by repeat (first | with_reducible assumption | with_reducible refine Cur.set ?_ (by first | (simp; done) | (simp; omega) | omega) _ | with_reducible refine Cur.alloc ?_ _ | with_reducible refine Cur.drew ?_ | with_reducible refine Cur.below ?_ (by assumption))), (by repeat (first | with_reducible exact World.grownBy.refl _ _ | with_reducible assumption | with_reducible refine gr_alloc ?_ _ | with_reducible refine gr_drew ?_ | with_reducible refine gr_drewN ?_ _ | with_reducible refine gr_set ?_ (by first | (simp; done) | (simp; omega) | omega) _ | with_reducible refine World.grownBy.trans ?_ (by assumption) | with_reducible refine grown_below ?_ (by assumption)))⟩
        rw [HAL.out]
        exact (((HO.out.low (by first | (simp; done) | (simp; omega)) _).low (by first | (simp; done) | (simp; omega)) _).lower (by omega))
  · go_wp2_with fail
    refine (l1Below_any g code 6 _ hc3 (by omega)).mono ?_
    rintro e w4 ⟨x, hx, rfl, hc4, hg4⟩
    have hx6 : x ≤ 5 := by omega
    replace HZ := HZ.grown hg4 (by omega)
    replace HB := HB.grown hg4 (by omega)
    replace hs3 := Nat.le_trans hs3 hg4.size
    replace hg1 := World.grownBy.trans hg1 hg4
    clear hc3 hg4
    have hc3 := hc4
    clear hc4
    obtain ⟨d0, d1, e0, e1⟩ := HB.two
    go_wp2
    go_loopw [5] (fun i wr => ∃ (k : Nat) (A' : Option Addr) (c' : Nat) (acc : List Vl), k ≤ x ∧ i = .int .i64 k ∧ acc.length = k ∧ (∀ x ∈ acc, x.s.size ≤ 30) ∧ Blk wr w1.heap.size 26 #[.string kd, .slice A' k c'] ∧ Blk wr w.heap.size 26 #[.string ⟨#[]⟩, .slice none 0 0] ∧ OwnT vC 3 wr (w1.heap.size + 1) 47 (.slice A' k c') acc ∧ Cur wr g code ∧ w.grownBy wr (some g) ∧ w1.heap.size + 1 ≤ wr.heap.size) (fun i _ => x - (intOf i).toNat)
    case atStart => exact ⟨0, none, 0, [], Nat.zero_le _, rfl, rfl, fun x h => (by cases h), HB, HZ, OwnT.nil_ _ _ _, hc3, hg1, hs3⟩
    case round =>
      obtain ⟨k, A', c', acc, hk, rfl, hal, hsz, HBk, HZk, hok, hck, hgk, hsk⟩ := hrel
      have HAL := Lib.hid hal; clear hal
      have HSZ := Lib.hid hsz; clear hsz
      obtain ⟨d0, d1, e0, e1⟩ := HBk.two
      have hglt := hck.lt
      by_cases hlt : k < x
      · have hj1 : (k:Int) < (x:Int) := by omega
        clear d0 d1 e0 e1
        have d1 := HBk.cell 1
        dsimp at d1
        go_wp2_with fail
        refine wp_region_held_drew (S := (fun _ => True)) (by kernel_rfl) ?_ (fun hHeld => ?_)
        · (try dsimp only) <;> (trivial)
        refine h_take 0 (some 22) (?_) rfl rfl (by kernel_rfl) (by kernel_rfl) (by kernel_rfl) (fun _ _ _ h => h) (by kernel_rfl) ?_ (by assumption) ?_
        rotate_left
        · intro w hSw; (try dsimp only at hSw); go_simp
          all_goals first | with_reducible rfl | omega | (simp; omega)
        try simp only [Act.put, List.setIfInBounds_toArray, List.set_cons_zero, List.set_cons_succ]
        refine h_take 2 (some 24) (?_) rfl rfl (by kernel_rfl) (by kernel_rfl) (by kernel_rfl) (fun _ _ _ h => h) (by kernel_rfl) ?_ (by assumption) ?_
        rotate_left
        · intro w hSw; (try dsimp only at hSw); go_simp
          all_goals first | with_reducible rfl | omega | (simp; omega)
        try simp only [Act.put, List.setIfInBounds_toArray, List.set_cons_zero, List.set_cons_succ]
        refine wpAnyH_ready (rs := [1, 3]) (by kernel_rfl) (by simp) ?_
        refine AllReadyH.cons rfl (fun K hK => ?_) (AllReadyH.cons rfl (fun K hK => ?_) AllReadyH.nil)
        · rw [if_pos (by kernel_rfl)]
          go_simp
          refine hK.out _ _ ?_ (fun hHeld => ?_)
          · (try dsimp only) <;> (trivial)
          clear hK K
          try simp only [Act.put, List.setIfInBounds_toArray, List.set_cons_zero, List.set_cons_succ]
          refine h_call 3 (by kernel_rfl) rfl (by kernel_rfl) (fun K hK => ?_)
          go_simp
          refine (l3Small_any g code _ (by exact (by repeat (first | with_reducible assumption | with_reducible refine Cur.set ?_ (by first | (simp; done) | (simp; omega) | omega) _ | with_reducible refine Cur.alloc ?_ _ | with_reducible refine Cur.drew ?_ | with_reducible refine Cur.below ?_ (by assumption))))).mono ?_
          rintro e w5 ⟨vk, vn, vs, hvs, rfl, hc5, hg5⟩
          have HB5 := Blk.grown (w := wr.drew) HBk hg5 (by omega)
          have HZ5 := Blk.grown (w := wr.drew) HZk hg5 (by omega)
          obtain ⟨q0, q1, q2, q3⟩ := HB5.two
          have hs5 := hg5.size
          simp only [drew_size'] at hs5
          have hq5 : w1.heap.size < w5.heap.size := by omega
          try dsimp only
          refine hK.out _ _ ?_ (fun hHeld => ?_)
          · (try dsimp only) <;> (trivial)
          clear hK K
          try simp only [Act.put, List.setIfInBounds_toArray, List.set_cons_zero, List.set_cons_succ]
          refine h_call 4 (by kernel_rfl) rfl (by kernel_rfl) (fun K hK => ?_)
          go_simp
          refine hK.out _ _ ?_ (fun hHeld => ?_)
          · (try dsimp only) <;> (trivial)
          clear hK K
          try simp only [Act.put, List.setIfInBounds_toArray, List.set_cons_zero, List.set_cons_succ]
          refine h_call 5 (by kernel_rfl) rfl (by kernel_rfl) (fun K hK => ?_)
          refine appO (.tmp 23) (.tmp 26) _ rfl vC_sz (w1.heap.size + 1) 47 i0 Tryz.underlying24 HI.out hz0 hz1 hz2 rfl (by omega) _ acc rfl ((OwnT.grownG (w := wr.drew) hok hg5 (by omega)).alloc _) _ 1 1 [⟨vk, vn, vs⟩] rfl (RdT.new1 vC_sz w5 47 ⟨vk, vn, vs⟩) (by intro u hu; simp [fl, vC] at hu; rcases hu with rfl | rfl | rfl <;> rfl) (by have := HAL.out; omega) (by have := hg5.size; simp at this; simp; omega) ?_ (by have := HAL.out; omega)
          intro v' w6 ho6 hb6 hs6
          have hl6 : (acc ++ [(⟨vk, vn, vs⟩ : Vl)]).length = k + 1 := by rw [List.length_append, HAL.out]; rfl
          obtain ⟨A6, c6, hv6, _⟩ := ho6.form
          rw [hl6] at hv6
          subst hv6
          have HB6 := Blk.bel (HB5.alloc _) hb6 (by omega)
          have HZ6 := Blk.bel (HZ5.alloc _) hb6 (by omega)
          simp at hs6
          obtain ⟨r0, r1, r2, r3⟩ := HB6.two
          change K (Act.put _ (some 27) _) _
          refine hK.out _ _ ?_ (fun hHeld => ?_)
          · (try dsimp only) <;> (trivial)
          clear hK K
          try simp only [Act.put, List.setIfInBounds_toArray, List.set_cons_zero, List.set_cons_succ]
          refine h_take 6 (some 28) (?_) rfl rfl (by kernel_rfl) (by kernel_rfl) (by kernel_rfl) (fun _ _ _ h => h) (by kernel_rfl) ?_ (by assumption) ?_
          rotate_left
          · intro w hSw; (try dsimp only at hSw); go_simp
            all_goals first | with_reducible rfl | omega | (simp; omega)
          try simp only [Act.put, List.setIfInBounds_toArray, List.set_cons_zero, List.set_cons_succ]
          refine h_call 7 (by kernel_rfl) rfl (by kernel_rfl) (fun K hK => ?_)
          go_simp
          refine hK.out _ _ ?_ (fun hHeld => ?_)
          · (try dsimp only) <;> (trivial)
          clear hK K
          try simp only [Act.put, List.setIfInBounds_toArray, List.set_cons_zero, List.set_cons_succ]
          refine wpAnyH_done (by kernel_rfl) ?_ _
          have HB7 := HB6.set_ 1 (.slice A6 (k + 1) c6)
          have HZ7 := HZ6.far (p := ⟨w1.heap.size, 1, none⟩) (by simp; omega) (.slice A6 (k + 1) c6)
          have ho7 := ho6.low (p := ⟨w1.heap.size, 1, none⟩) (by simp) (.slice A6 (k + 1) c6)
          have hc7 : Cur (w6.setCell ⟨w1.heap.size, 1, none⟩ (.slice A6 (k + 1) c6)) g code := Cur.set (Cur.below' (hc5.alloc _) hb6 (by omega)) (by simp; omega) _
          have hg7 : w.grownBy (w6.setCell ⟨w1.heap.size, 1, none⟩ (.slice A6 (k + 1) c6)) (some g) := gr_set (gr_bel (gr_alloc (World.grownBy.trans (gr_drew hgk) hg5) _) hb6 (by omega)) (by simp; omega) _
          go_wp2
          go_roundw
          case rel => exact ⟨k + 1, A6, c6, acc ++ [⟨vk, vn, vs⟩], by omega, by go_num, hl6, fun x hx => (by rcases List.mem_append.1 hx with h | h; exact HSZ.out x h; rw [List.mem_singleton] at h; rw [h]; exact hvs), by simpa using HB7, HZ7, ho7, hc7, hg7, by simp; omega⟩
          case measure => simp [intOf]; omega
        · rw [if_pos (by kernel_rfl)]
          go_simp
          refine (l3Small_any g code _ (by exact (by repeat (first | with_reducible assumption | with_reducible refine Cur.set ?_ (by first | (simp; done) | (simp; omega) | omega) _ | with_reducible refine Cur.alloc ?_ _ | with_reducible refine Cur.drew ?_ | with_reducible refine Cur.below ?_ (by assumption))))).mono ?_
          rintro e w5 ⟨vk, vn, vs, hvs, rfl, hc5, hg5⟩
          have HB5 := Blk.grown (w := wr.drew) HBk hg5 (by omega)
          have HZ5 := Blk.grown (w := wr.drew) HZk hg5 (by omega)
          obtain ⟨q0, q1, q2, q3⟩ := HB5.two
          have hs5 := hg5.size
          simp only [drew_size'] at hs5
          have hq5 : w1.heap.size < w5.heap.size := by omega
          try dsimp only
          refine hK.out _ _ ?_ (fun hHeld => ?_)
          · (try dsimp only) <;> (trivial)
          clear hK K
          try simp only [Act.put, List.setIfInBounds_toArray, List.set_cons_zero, List.set_cons_succ]
          refine wpAnyH_ready (rs := [1, 4]) (by kernel_rfl) (by simp) ?_
          refine AllReadyH.cons rfl (fun K hK => ?_) (AllReadyH.cons rfl (fun K hK => ?_) AllReadyH.nil)
          · rw [if_pos (by kernel_rfl)]
            go_simp
            refine hK.out _ _ ?_ (fun hHeld => ?_)
            · (try dsimp only) <;> (trivial)
            clear hK K
            try simp only [Act.put, List.setIfInBounds_toArray, List.set_cons_zero, List.set_cons_succ]
            refine h_call 4 (by kernel_rfl) rfl (by kernel_rfl) (fun K hK => ?_)
            go_simp
            refine hK.out _ _ ?_ (fun hHeld => ?_)
            · (try dsimp only) <;> (trivial)
            clear hK K
            try simp only [Act.put, List.setIfInBounds_toArray, List.set_cons_zero, List.set_cons_succ]
            refine h_call 5 (by kernel_rfl) rfl (by kernel_rfl) (fun K hK => ?_)
            refine appO (.tmp 23) (.tmp 26) _ rfl vC_sz (w1.heap.size + 1) 47 i0 Tryz.underlying24 HI.out hz0 hz1 hz2 rfl (by omega) _ acc rfl ((OwnT.grownG (w := wr.drew) hok hg5 (by omega)).alloc _) _ 1 1 [⟨vk, vn, vs⟩] rfl (RdT.new1 vC_sz w5 47 ⟨vk, vn, vs⟩) (by intro u hu; simp [fl, vC] at hu; rcases hu with rfl | rfl | rfl <;> rfl) (by have := HAL.out; omega) (by have := hg5.size; simp at this; simp; omega) ?_ (by have := HAL.out; omega)
            intro v' w6 ho6 hb6 hs6
            have hl6 : (acc ++ [(⟨vk, vn, vs⟩ : Vl)]).length = k + 1 := by rw [List.length_append, HAL.out]; rfl
            obtain ⟨A6, c6, hv6, _⟩ := ho6.form
            rw [hl6] at hv6
            subst hv6
            have HB6 := Blk.bel (HB5.alloc _) hb6 (by omega)
            have HZ6 := Blk.bel (HZ5.alloc _) hb6 (by omega)
            simp at hs6
            obtain ⟨r0, r1, r2, r3⟩ := HB6.two
            change K (Act.put _ (some 27) _) _
            refine hK.out _ _ ?_ (fun hHeld => ?_)
            · (try dsimp only) <;> (trivial)
            clear hK K
            try simp only [Act.put, List.setIfInBounds_toArray, List.set_cons_zero, List.set_cons_succ]
            refine h_take 6 (some 28) (?_) rfl rfl (by kernel_rfl) (by kernel_rfl) (by kernel_rfl) (fun _ _ _ h => h) (by kernel_rfl) ?_ (by assumption) ?_
            rotate_left
            · intro w hSw; (try dsimp only at hSw); go_simp
              all_goals first | with_reducible rfl | omega | (simp; omega)
            try simp only [Act.put, List.setIfInBounds_toArray, List.set_cons_zero, List.set_cons_succ]
            refine h_call 7 (by kernel_rfl) rfl (by kernel_rfl) (fun K hK => ?_)
            go_simp
            refine hK.out _ _ ?_ (fun hHeld => ?_)
            · (try dsimp only) <;> (trivial)
            clear hK K
            try simp only [Act.put, List.setIfInBounds_toArray, List.set_cons_zero, List.set_cons_succ]
            refine wpAnyH_done (by kernel_rfl) ?_ _
            have HB7 := HB6.set_ 1 (.slice A6 (k + 1) c6)
            have HZ7 := HZ6.far (p := ⟨w1.heap.size, 1, none⟩) (by simp; omega) (.slice A6 (k + 1) c6)
            have ho7 := ho6.low (p := ⟨w1.heap.size, 1, none⟩) (by simp) (.slice A6 (k + 1) c6)
            have hc7 : Cur (w6.setCell ⟨w1.heap.size, 1, none⟩ (.slice A6 (k + 1) c6)) g code := Cur.set (Cur.below' (hc5.alloc _) hb6 (by omega)) (by simp; omega) _
            have hg7 : w.grownBy (w6.setCell ⟨w1.heap.size, 1, none⟩ (.slice A6 (k + 1) c6)) (some g) := gr_set (gr_bel (gr_alloc (World.grownBy.trans (gr_drew hgk) hg5) _) hb6 (by omega)) (by simp; omega) _
            go_wp2
            go_roundw
            case rel => exact ⟨k + 1, A6, c6, acc ++ [⟨vk, vn, vs⟩], by omega, by go_num, hl6, fun x hx => (by rcases List.mem_append.1 hx with h | h; exact HSZ.out x h; rw [List.mem_singleton] at h; rw [h]; exact hvs), by simpa using HB7, HZ7, ho7, hc7, hg7, by simp; omega⟩
            case measure => simp [intOf]; omega
          · rw [if_pos (by kernel_rfl)]
            go_simp
            refine hK.out _ _ ?_ (fun hHeld => ?_)
            · (try dsimp only) <;> (trivial)
            clear hK K
            try simp only [Act.put, List.setIfInBounds_toArray, List.set_cons_zero, List.set_cons_succ]
            refine h_call 1 (by kernel_rfl) rfl (by kernel_rfl) (fun K hK => ?_)
            go_simp
            refine hK.out _ _ ?_ (fun hHeld => ?_)
            · (try dsimp only) <;> (trivial)
            clear hK K
            try simp only [Act.put, List.setIfInBounds_toArray, List.set_cons_zero, List.set_cons_succ]
            refine h_call 5 (by kernel_rfl) rfl (by kernel_rfl) (fun K hK => ?_)
            refine appO (.tmp 23) (.tmp 26) _ rfl vC_sz (w1.heap.size + 1) 47 i0 Tryz.underlying24 HI.out hz0 hz1 hz2 rfl (by omega) _ acc rfl ((OwnT.grownG (w := wr.drew) hok hg5 (by omega)).alloc _) _ 1 1 [⟨vk, vn, vs⟩] rfl (RdT.new1 vC_sz w5 47 ⟨vk, vn, vs⟩) (by intro u hu; simp [fl, vC] at hu; rcases hu with rfl | rfl | rfl <;> rfl) (by have := HAL.out; omega) (by have := hg5.size; simp at this; simp; omega) ?_ (by have := HAL.out; omega)
            intro v' w6 ho6 hb6 hs6
            have hl6 : (acc ++ [(⟨vk, vn, vs⟩ : Vl)]).length = k + 1 := by rw [List.length_append, HAL.out]; rfl
            obtain ⟨A6, c6, hv6, _⟩ := ho6.form
            rw [hl6] at hv6
            subst hv6
            have HB6 := Blk.bel (HB5.alloc _) hb6 (by omega)
            have HZ6 := Blk.bel (HZ5.alloc _) hb6 (by omega)
            simp at hs6
            obtain ⟨r0, r1, r2, r3⟩ := HB6.two
            change K (Act.put _ (some 27) _) _
            refine hK.out _ _ ?_ (fun hHeld => ?_)
            · (try dsimp only) <;> (trivial)
            clear hK K
            try simp only [Act.put, List.setIfInBounds_toArray, List.set_cons_zero, List.set_cons_succ]
            refine h_take 6 (some 28) (?_) rfl rfl (by kernel_rfl) (by kernel_rfl) (by kernel_rfl) (fun _ _ _ h => h) (by kernel_rfl) ?_ (by assumption) ?_
            rotate_left
            · intro w hSw; (try dsimp only at hSw); go_simp
              all_goals first | with_reducible rfl | omega | (simp; omega)
            try simp only [Act.put, List.setIfInBounds_toArray, List.set_cons_zero, List.set_cons_succ]
            refine h_call 7 (by kernel_rfl) rfl (by kernel_rfl) (fun K hK => ?_)
            go_simp
            refine hK.out _ _ ?_ (fun hHeld => ?_)
            · (try dsimp only) <;> (trivial)
            clear hK K
            try simp only [Act.put, List.setIfInBounds_toArray, List.set_cons_zero, List.set_cons_succ]
            refine wpAnyH_done (by kernel_rfl) ?_ _
            have HB7 := HB6.set_ 1 (.slice A6 (k + 1) c6)
            have HZ7 := HZ6.far (p := ⟨w1.heap.size, 1, none⟩) (by simp; omega) (.slice A6 (k + 1) c6)
            have ho7 := ho6.low (p := ⟨w1.heap.size, 1, none⟩) (by simp) (.slice A6 (k + 1) c6)
            have hc7 : Cur (w6.setCell ⟨w1.heap.size, 1, none⟩ (.slice A6 (k + 1) c6)) g code := Cur.set (Cur.below' (hc5.alloc _) hb6 (by omega)) (by simp; omega) _
            have hg7 : w.grownBy (w6.setCell ⟨w1.heap.size, 1, none⟩ (.slice A6 (k + 1) c6)) (some g) := gr_set (gr_bel (gr_alloc (World.grownBy.trans (gr_drew hgk) hg5) _) hb6 (by omega)) (by simp; omega) _
            go_wp2
            go_roundw
            case rel => exact ⟨k + 1, A6, c6, acc ++ [⟨vk, vn, vs⟩], by omega, by go_num, hl6, fun x hx => (by rcases List.mem_append.1 hx with h | h; exact HSZ.out x h; rw [List.mem_singleton] at h; rw [h]; exact hvs), by simpa using HB7, HZ7, ho7, hc7, hg7, by simp; omega⟩
            case measure => simp [intOf]; omega
      · obtain ⟨z0, z1, y0, y1⟩ := HZk.two
        have HO := Lib.hid hok; clear hok
        go_wp2
        refine bodyPost_ret (v := .agg #[.string kd, .slice A' k c']) (by simp [results, Tryz.results40, go_sem, z0, z1]) rfl ⟨kd, A', c', acc, hkd, by have := HAL.out; omega, HSZ.out, by rw [HAL.out], ?_, (by repeat (first | with_reducible assumption | with_reducible refine Cur.set ?_ (by first | (simp; done) | (simp; omega) | omega) _ | with_reducible refine Cur.alloc ?_ _ | with_reducible refine Cur.drew ?_ | with_reducible refine Cur.below ?_ (by assumption))), (by repeat (first | with_reducible exact World.grownBy.refl _ _ | with_reducible assumption | with_reducible refine gr_alloc ?_ _ | with_reducible refine gr_drew ?_ | with_reducible refine gr_drewN ?_ _ | with_reducible refine gr_set ?_ (by first | (simp; done) | (simp; omega) | omega) _ | with_reducible refine World.grownBy.trans ?_ (by assumption) | with_reducible refine grown_below ?_ (by assumption)))⟩
        rw [HAL.out]
        exact (((HO.out.low (by first | (simp; done) | (simp; omega)) _).low (by first | (simp; done) | (simp; omega)) _).lower (by omega))
  · obtain ⟨d0, d1, e0, e1⟩ := HB.two
    go_wp2
    go_loopw [5] (fun i wr => ∃ (k : Nat) (A' : Option Addr) (c' : Nat) (acc : List Vl), k ≤ 2 ∧ i = .int .i64 k ∧ acc.length = k ∧ (∀ x ∈ acc, x.s.size ≤ 30) ∧ Blk wr w1.heap.size 26 #[.string kd, .slice A' k c'] ∧ Blk wr w.heap.size 26 #[.string ⟨#[]⟩, .slice none 0 0] ∧ OwnT vC 3 wr (w1.heap.size + 1) 47 (.slice A' k c') acc ∧ Cur wr g code ∧ w.grownBy wr (some g) ∧ w1.heap.size + 1 ≤ wr.heap.size) (fun i _ => 2 - (intOf i).toNat)
    case atStart => exact ⟨0, none, 0, [], Nat.zero_le _, rfl, rfl, fun x h => (by cases h), HB, HZ, OwnT.nil_ _ _ _, hc3, hg1, hs3⟩
    case round =>
      obtain ⟨k, A', c', acc, hk, rfl, hal, hsz, HBk, HZk, hok, hck, hgk, hsk⟩ := hrel
      have HAL := Lib.hid hal; clear hal
      have HSZ := Lib.hid hsz; clear hsz
      obtain ⟨d0, d1, e0, e1⟩ := HBk.two
      have hglt := hck.lt
      by_cases hlt : k < 2
      · have hj1 : (k:Int) < (2:Int) := by omega
        clear d0 d1 e0 e1
        have d1 := HBk.cell 1
        dsimp at d1
        go_wp2_with fail
        refine wp_region_held_drew (S := (fun _ => True)) (by kernel_rfl) ?_ (fun hHeld => ?_)
        · (try dsimp only) <;> (trivial)
        refine h_take 0 (some 22) (?_) rfl rfl (by kernel_rfl) (by kernel_rfl) (by kernel_rfl) (fun _ _ _ h => h) (by kernel_rfl) ?_ (by assumption) ?_
        rotate_left
        · intro w hSw; (try dsimp only at hSw); go_simp
          all_goals first | with_reducible rfl | omega | (simp; omega)
        try simp only [Act.put, List.setIfInBounds_toArray, List.set_cons_zero, List.set_cons_succ]
        refine h_take 2 (some 24) (?_) rfl rfl (by kernel_rfl) (by kernel_rfl) (by kernel_rfl) (fun _ _ _ h => h) (by kernel_rfl) ?_ (by assumption) ?_
        rotate_left
        · intro w hSw; (try dsimp only at hSw); go_simp
          all_goals first | with_reducible rfl | omega | (simp; omega)
        try simp only [Act.put, List.setIfInBounds_toArray, List.set_cons_zero, List.set_cons_succ]
        refine wpAnyH_ready (rs := [1, 3]) (by kernel_rfl) (by simp) ?_
        refine AllReadyH.cons rfl (fun K hK => ?_) (AllReadyH.cons rfl (fun K hK => ?_) AllReadyH.nil)
        · rw [if_pos (by kernel_rfl)]
          go_simp
          refine hK.out _ _ ?_ (fun hHeld => ?_)
          · (try dsimp only) <;> (trivial)
          clear hK K
          try simp only [Act.put, List.setIfInBounds_toArray, List.set_cons_zero, List.set_cons_succ]
          refine h_call 3 (by kernel_rfl) rfl (by kernel_rfl) (fun K hK => ?_)
          go_simp
          refine (l3Small_any g code _ (by exact (by repeat (first | with_reducible assumption | with_reducible refine Cur.set ?_ (by first | (simp; done) | (simp; omega) | omega) _ | with_reducible refine Cur.alloc ?_ _ | with_reducible refine Cur.drew ?_ | with_reducible refine Cur.below ?_ (by assumption))))).mono ?_
          rintro e w5 ⟨vk, vn, vs, hvs, rfl, hc5, hg5⟩
          have HB5 := Blk.grown (w := wr.drew) HBk hg5 (by omega)
          have HZ5 := Blk.grown (w := wr.drew) HZk hg5 (by omega)
          obtain ⟨q0, q1, q2, q3⟩ := HB5.two
          have hs5 := hg5.size
          simp only [drew_size'] at hs5
          have hq5 : w1.heap.size < w5.heap.size := by omega
          try dsimp only
          refine hK.out _ _ ?_ (fun hHeld => ?_)
          · (try dsimp only) <;> (trivial)
          clear hK K
          try simp only [Act.put, List.setIfInBounds_toArray, List.set_cons_zero, List.set_cons_succ]
          refine h_call 4 (by kernel_rfl) rfl (by kernel_rfl) (fun K hK => ?_)
          go_simp
          refine hK.out _ _ ?_ (fun hHeld => ?_)
          · (try dsimp only) <;> (trivial)
          clear hK K
          try simp only [Act.put, List.setIfInBounds_toArray, List.set_cons_zero, List.set_cons_succ]
          refine h_call 5 (by kernel_rfl) rfl (by kernel_rfl) (fun K hK => ?_)
          refine appO (.tmp 23) (.tmp 26) _ rfl vC_sz (w1.heap.size + 1) 47 i0 Tryz.underlying24 HI.out hz0 hz1 hz2 rfl (by omega) _ acc rfl ((OwnT.grownG (w := wr.drew) hok hg5 (by omega)).alloc _) _ 1 1 [⟨vk, vn, vs⟩] rfl (RdT.new1 vC_sz w5 47 ⟨vk, vn, vs⟩) (by intro u hu; simp [fl, vC] at hu; rcases hu with rfl | rfl | rfl <;> rfl) (by have := HAL.out; omega) (by have := hg5.size; simp at this; simp; omega) ?_ (by have := HAL.out; omega)
          intro v' w6 ho6 hb6 hs6
          have hl6 : (acc ++ [(⟨vk, vn, vs⟩ : Vl)]).length = k + 1 := by rw [List.length_append, HAL.out]; rfl
          obtain ⟨A6, c6, hv6, _⟩ := ho6.form
          rw [hl6] at hv6
          subst hv6
          have HB6 := Blk.bel (HB5.alloc _) hb6 (by omega)
          have HZ6 := Blk.bel (HZ5.alloc _) hb6 (by omega)
          simp at hs6
          obtain ⟨r0, r1, r2, r3⟩ := HB6.two
          change K (Act.put _ (some 27) _) _
          refine hK.out _ _ ?_ (fun hHeld => ?_)
          · (try dsimp only) <;> (trivial)
          clear hK K
          try simp only [Act.put, List.setIfInBounds_toArray, List.set_cons_zero, List.set_cons_succ]
          refine h_take 6 (some 28) (?_) rfl rfl (by kernel_rfl) (by kernel_rfl) (by kernel_rfl) (fun _ _ _ h => h) (by kernel_rfl) ?_ (by assumption) ?_
          rotate_left
          · intro w hSw; (try dsimp only at hSw); go_simp
            all_goals first | with_reducible rfl | omega | (simp; omega)
          try simp only [Act.put, List.setIfInBounds_toArray, List.set_cons_zero, List.set_cons_succ]
          refine h_call 7 (by kernel_rfl) rfl (by kernel_rfl) (fun K hK => ?_)
          go_simp
          refine hK.out _ _ ?_ (fun hHeld => ?_)
          · (try dsimp only) <;> (trivial)
          clear hK K
          try simp only [Act.put, List.setIfInBounds_toArray, List.set_cons_zero, List.set_cons_succ]
          refine wpAnyH_done (by kernel_rfl) ?_ _
          have HB7 := HB6.set_ 1 (.slice A6 (k + 1) c6)
          have HZ7 := HZ6.far (p := ⟨w1.heap.size, 1, none⟩) (by simp; omega) (.slice A6 (k + 1) c6)
          have ho7 := ho6.low (p := ⟨w1.heap.size, 1, none⟩) (by simp) (.slice A6 (k + 1) c6)
          have hc7 : Cur (w6.setCell ⟨w1.heap.size, 1, none⟩ (.slice A6 (k + 1) c6)) g code := Cur.set (Cur.below' (hc5.alloc _) hb6 (by omega)) (by simp; omega) _
          have hg7 : w.grownBy (w6.setCell ⟨w1.heap.size, 1, none⟩ (.slice A6 (k + 1) c6)) (some g) := gr_set (gr_bel (gr_alloc (World.grownBy.trans (gr_drew hgk) hg5) _) hb6 (by omega)) (by simp; omega) _
          go_wp2
          go_roundw
          case rel => exact ⟨k + 1, A6, c6, acc ++ [⟨vk, vn, vs⟩], by omega, by go_num, hl6, fun x hx => (by rcases List.mem_append.1 hx with h | h; exact HSZ.out x h; rw [List.mem_singleton] at h; rw [h]; exact hvs), by simpa using HB7, HZ7, ho7, hc7, hg7, by simp; omega⟩
          case measure => simp [intOf]; omega
        · rw [if_pos (by kernel_rfl)]
          go_simp
          refine (l3Small_any g code _ (by exact (by repeat (first | with_reducible assumption | with_reducible refine Cur.set ?_ (by first | (simp; done) | (simp; omega) | omega) _ | with_reducible refine Cur.alloc ?_ _ | with_reducible refine Cur.drew ?_ | with_reducible refine Cur.below ?_ (by assumption))))).mono ?_
          rintro e w5 ⟨vk, vn, vs, hvs, rfl, hc5, hg5⟩
          have HB5 := Blk.grown (w := wr.drew) HBk hg5 (by omega)
          have HZ5 := Blk.grown (w := wr.drew) HZk hg5 (by omega)
          obtain ⟨q0, q1, q2, q3⟩ := HB5.two
          have hs5 := hg5.size
          simp only [drew_size'] at hs5
          have hq5 : w1.heap.size < w5.heap.size := by omega
          try dsimp only
          refine hK.out _ _ ?_ (fun hHeld => ?_)
          · (try dsimp only) <;> (trivial)
          clear hK K
          try simp only [Act.put, List.setIfInBounds_toArray, List.set_cons_zero, List.set_cons_succ]
          refine wpAnyH_ready (rs := [1, 4]) (by kernel_rfl) (by simp) ?_
          refine AllReadyH.cons rfl (fun K hK => ?_) (AllReadyH.cons rfl (fun K hK => ?_) AllReadyH.nil)
          · rw [if_pos (by kernel_rfl)]
            go_simp
            refine hK.out _ _ ?_ (fun hHeld => ?_)
            · (try dsimp only) <;> (trivial)
            clear hK K
            try simp only [Act.put, List.setIfInBounds_toArray, List.set_cons_zero, List.set_cons_succ]
            refine h_call 4 (by kernel_rfl) rfl (by kernel_rfl) (fun K hK => ?_)
            go_simp
            refine hK.out _ _ ?_ (fun hHeld => ?_)
            · (try dsimp only) <;> (trivial)
            clear hK K
            try simp only [Act.put, List.setIfInBounds_toArray, List.set_cons_zero, List.set_cons_succ]
            refine h_call 5 (by kernel_rfl) rfl (by kernel_rfl) (fun K hK => ?_)
            refine appO (.tmp 23) (.tmp 26) _ rfl vC_sz (w1.heap.size + 1) 47 i0 Tryz.underlying24 HI.out hz0 hz1 hz2 rfl (by omega) _ acc rfl ((OwnT.grownG (w := wr.drew) hok hg5 (by omega)).alloc _) _ 1 1 [⟨vk, vn, vs⟩] rfl (RdT.new1 vC_sz w5 47 ⟨vk, vn, vs⟩) (by intro u hu; simp [fl, vC] at hu; rcases hu with rfl | rfl | rfl <;> rfl) (by have := HAL.out; omega) (by have := hg5.size; simp at this; simp; omega) ?_ (by have := HAL.out; omega)
            intro v' w6 ho6 hb6 hs6
            have hl6 : (acc ++ [(⟨vk, vn, vs⟩ : Vl)]).length = k + 1 := by rw [List.length_append, HAL.out]; rfl
            obtain ⟨A6, c6, hv6, _⟩ := ho6.form
            rw [hl6] at hv6
            subst hv6
            have HB6 := Blk.bel (HB5.alloc _) hb6 (by omega)
            have HZ6 := Blk.bel (HZ5.alloc _) hb6 (by omega)
            simp at hs6
            obtain ⟨r0, r1, r2, r3⟩ := HB6.two
            change K (Act.put _ (some 27) _) _
            refine hK.out _ _ ?_ (fun hHeld => ?_)
            · (try dsimp only) <;> (trivial)
            clear hK K
            try simp only [Act.put, List.setIfInBounds_toArray, List.set_cons_zero, List.set_cons_succ]
            refine h_take 6 (some 28) (?_) rfl rfl (by kernel_rfl) (by kernel_rfl) (by kernel_rfl) (fun _ _ _ h => h) (by kernel_rfl) ?_ (by assumption) ?_
            rotate_left
            · intro w hSw; (try dsimp only at hSw); go_simp
              all_goals first | with_reducible rfl | omega | (simp; omega)
            try simp only [Act.put, List.setIfInBounds_toArray, List.set_cons_zero, List.set_cons_succ]
            refine h_call 7 (by kernel_rfl) rfl (by kernel_rfl) (fun K hK => ?_)
            go_simp
            refine hK.out _ _ ?_ (fun hHeld => ?_)
            · (try dsimp only) <;> (trivial)
            clear hK K
            try simp only [Act.put, List.setIfInBounds_toArray, List.set_cons_zero, List.set_cons_succ]
            refine wpAnyH_done (by kernel_rfl) ?_ _
            have HB7 := HB6.set_ 1 (.slice A6 (k + 1) c6)
            have HZ7 := HZ6.far (p := ⟨w1.heap.size, 1, none⟩) (by simp; omega) (.slice A6 (k + 1) c6)
            have ho7 := ho6.low (p := ⟨w1.heap.size, 1, none⟩) (by simp) (.slice A6 (k + 1) c6)
            have hc7 : Cur (w6.setCell ⟨w1.heap.size, 1, none⟩ (.slice A6 (k + 1) c6)) g code := Cur.set (Cur.below' (hc5.alloc _) hb6 (by omega)) (by simp; omega) _
            have hg7 : w.grownBy (w6.setCell ⟨w1.heap.size, 1, none⟩ (.slice A6 (k + 1) c6)) (some g) := gr_set (gr_bel (gr_alloc (World.grownBy.trans (gr_drew hgk) hg5) _) hb6 (by omega)) (by simp; omega) _
            go_wp2
            go_roundw
            case rel => exact ⟨k + 1, A6, c6, acc ++ [⟨vk, vn, vs⟩], by omega, by go_num, hl6, fun x hx => (by rcases List.mem_append.1 hx with h | h; exact HSZ.out x h; rw [List.mem_singleton] at h; rw [h]; exact hvs), by simpa using HB7, HZ7, ho7, hc7, hg7, by simp; omega⟩
            case measure => simp [intOf]; omega
          · rw [if_pos (by kernel_rfl)]
            go_simp
            refine hK.out _ _ ?_ (fun hHeld => ?_)
            · (try dsimp only) <;> (trivial)
            clear hK K
            try simp only [Act.put, List.setIfInBounds_toArray, List.set_cons_zero, List.set_cons_succ]
            refine h_call 1 (by kernel_rfl) rfl (by kernel_rfl) (fun K hK => ?_)
            go_simp
            refine hK.out _ _ ?_ (fun hHeld => ?_)
            · (try dsimp only) <;> (trivial)
            clear hK K
            try simp only [Act.put, List.setIfInBounds_toArray, List.set_cons_zero, List.set_cons_succ]
            refine h_call 5 (by kernel_rfl) rfl (by kernel_rfl) (fun K hK => ?_)
            refine appO (.tmp 23) (.tmp 26) _ rfl vC_sz (w1.heap.size + 1) 47 i0 Tryz.underlying24 HI.out hz0 hz1 hz2 rfl (by omega) _ acc rfl ((OwnT.grownG (w := wr.drew) hok hg5 (by omega)).alloc _) _ 1 1 [⟨vk, vn, vs⟩] rfl (RdT.new1 vC_sz w5 47 ⟨vk, vn, vs⟩) (by intro u hu; simp [fl, vC] at hu; rcases hu with rfl | rfl | rfl <;> rfl) (by have := HAL.out; omega) (by have := hg5.size; simp at this; simp; omega) ?_ (by have := HAL.out; omega)
            intro v' w6 ho6 hb6 hs6
            have hl6 : (acc ++ [(⟨vk, vn, vs⟩ : Vl)]).length = k + 1 := by rw [List.length_append, HAL.out]; rfl
            obtain ⟨A6, c6, hv6, _⟩ := ho6.form
            rw [hl6] at hv6
            subst hv6
            have HB6 := Blk.bel (HB5.alloc _) hb6 (by omega)
            have HZ6 := Blk.bel (HZ5.alloc _) hb6 (by omega)
            simp at hs6
            obtain ⟨r0, r1, r2, r3⟩ := HB6.two
            change K (Act.put _ (some 27) _) _
            refine hK.out _ _ ?_ (fun hHeld => ?_)
            · (try dsimp only) <;> (trivial)
            clear hK K
            try simp only [Act.put, List.setIfInBounds_toArray, List.set_cons_zero, List.set_cons_succ]
            refine h_take 6 (some 28) (?_) rfl rfl (by kernel_rfl) (by kernel_rfl) (by kernel_rfl) (fun _ _ _ h => h) (by kernel_rfl) ?_ (by assumption) ?_
            rotate_left
            · intro w hSw; (try dsimp only at hSw); go_simp
              all_goals first | with_reducible rfl | omega | (simp; omega)
            try simp only [Act.put, List.setIfInBounds_toArray, List.set_cons_zero, List.set_cons_succ]
            refine h_call 7 (by kernel_rfl) rfl (by kernel_rfl) (fun K hK => ?_)
            go_simp
            refine hK.out _ _ ?_ (fun hHeld => ?_)
            · (try dsimp only) <;> (trivial)
            clear hK K
            try simp only [Act.put, List.setIfInBounds_toArray, List.set_cons_zero, List.set_cons_succ]
            refine wpAnyH_done (by kernel_rfl) ?_ _
            have HB7 := HB6.set_ 1 (.slice A6 (k + 1) c6)
            have HZ7 := HZ6.far (p := ⟨w1.heap.size, 1, none⟩) (by simp; omega) (.slice A6 (k + 1) c6)
            have ho7 := ho6.low (p := ⟨w1.heap.size, 1, none⟩) (by simp) (.slice A6 (k + 1) c6)
            have hc7 : Cur (w6.setCell ⟨w1.heap.size, 1, none⟩ (.slice A6 (k + 1) c6)) g code := Cur.set (Cur.below' (hc5.alloc _) hb6 (by omega)) (by simp; omega) _
            have hg7 : w.grownBy (w6.setCell ⟨w1.heap.size, 1, none⟩ (.slice A6 (k + 1) c6)) (some g) := gr_set (gr_bel (gr_alloc (World.grownBy.trans (gr_drew hgk) hg5) _) hb6 (by omega)) (by simp; omega) _
            go_wp2
            go_roundw
            case rel => exact ⟨k + 1, A6, c6, acc ++ [⟨vk, vn, vs⟩], by omega, by go_num, hl6, fun x hx => (by rcases List.mem_append.1 hx with h | h; exact HSZ.out x h; rw [List.mem_singleton] at h; rw [h]; exact hvs), by simpa using HB7, HZ7, ho7, hc7, hg7, by simp; omega⟩
            case measure => simp [intOf]; omega
      · obtain ⟨z0, z1, y0, y1⟩ := HZk.two
        have HO := Lib.hid hok; clear hok
        go_wp2
        refine bodyPost_ret (v := .agg #[.string kd, .slice A' k c']) (by simp [results, Tryz.results40, go_sem, z0, z1]) rfl ⟨kd, A', c', acc, hkd, by have := HAL.out; omega, HSZ.out, by rw [HAL.out], ?_, (by repeat (first | with_reducible assumption | with_reducible refine Cur.set ?_ (by first | (simp; done) | (simp; omega) | omega) _ | with_reducible refine Cur.alloc ?_ _ | with_reducible refine Cur.drew ?_ | with_reducible refine Cur.below ?_ (by assumption))), (by repeat (first | with_reducible exact World.grownBy.refl _ _ | with_reducible assumption | with_reducible refine gr_alloc ?_ _ | with_reducible refine gr_drew ?_ | with_reducible refine gr_drewN ?_ _ | with_reducible refine gr_set ?_ (by first | (simp; done) | (simp; omega) | omega) _ | with_reducible refine World.grownBy.trans ?_ (by assumption) | with_reducible refine grown_below ?_ (by assumption)))⟩
        rw [HAL.out]
        exact (((HO.out.low (by first | (simp; done) | (simp; omega)) _).low (by first | (simp; done) | (simp; omega)) _).lower (by omega))
  · go_wp2_with fail
    refine (l1Below_any g code 6 _ hc3 (by omega)).mono ?_
    rintro e w4 ⟨x, hx, rfl, hc4, hg4⟩
    have hx6 : x ≤ 5 := by omega
    replace HZ := HZ.grown hg4 (by omega)
    replace HB := HB.grown hg4 (by omega)
    replace hs3 := Nat.le_trans hs3 hg4.size
    replace hg1 := World.grownBy.trans hg1 hg4
    clear hc3 hg4
    have hc3 := hc4
    clear hc4
    obtain ⟨d0, d1, e0, e1⟩ := HB.two
    go_wp2
    go_loopw [5] (fun i wr => ∃ (k : Nat) (A' : Option Addr) (c' : Nat) (acc : List Vl), k ≤ x ∧ i = .int .i64 k ∧ acc.length = k ∧ (∀ x ∈ acc, x.s.size ≤ 30) ∧ Blk wr w1.heap.size 26 #[.string kd, .slice A' k c'] ∧ Blk wr w.heap.size 26 #[.string ⟨#[]⟩, .slice none 0 0] ∧ OwnT vC 3 wr (w1.heap.size + 1) 47 (.slice A' k c') acc ∧ Cur wr g code ∧ w.grownBy wr (some g) ∧ w1.heap.size + 1 ≤ wr.heap.size) (fun i _ => x - (intOf i).toNat)
    case atStart => exact ⟨0, none, 0, [], Nat.zero_le _, rfl, rfl, fun x h => (by cases h), HB, HZ, OwnT.nil_ _ _ _, hc3, hg1, hs3⟩
    case round =>
      obtain ⟨k, A', c', acc, hk, rfl, hal, hsz, HBk, HZk, hok, hck, hgk, hsk⟩ := hrel
      have HAL := Lib.hid hal; clear hal
      have HSZ := Lib.hid hsz; clear hsz
      obtain ⟨d0, d1, e0, e1⟩ := HBk.two
      have hglt := hck.lt
      by_cases hlt : k < x
      · have hj1 : (k:Int) < (x:Int) := by omega
        clear d0 d1 e0 e1
        have d1 := HBk.cell 1
        dsimp at d1
        go_wp2_with fail
        refine wp_region_held_drew (S := (fun _ => True)) (by kernel_rfl) ?_ (fun hHeld => ?_)
        · (try dsimp only) <;> (trivial)
        refine h_take 0 (some 22) (?_) rfl rfl (by kernel_rfl) (by kernel_rfl) (by kernel_rfl) (fun _ _ _ h => h) (by kernel_rfl) ?_ (by assumption) ?_
        rotate_left
        · intro w hSw; (try dsimp only at hSw); go_simp
          all_goals first | with_reducible rfl | omega | (simp; omega)
        try simp only [Act.put, List.setIfInBounds_toArray, List.set_cons_zero, List.set_cons_succ]
        refine h_take 2 (some 24) (?_) rfl rfl (by kernel_rfl) (by kernel_rfl) (by kernel_rfl) (fun _ _ _ h => h) (by kernel_rfl) ?_ (by assumption) ?_
        rotate_left
        · intro w hSw; (try dsimp only at hSw); go_simp
          all_goals first | with_reducible rfl | omega | (simp; omega)
        try simp only [Act.put, List.setIfInBounds_toArray, List.set_cons_zero, List.set_cons_succ]
        refine wpAnyH_ready (rs := [1, 3]) (by kernel_rfl) (by simp) ?_
        refine AllReadyH.cons rfl (fun K hK => ?_) (AllReadyH.cons rfl (fun K hK => ?_) AllReadyH.nil)
        · rw [if_pos (by kernel_rfl)]
          go_simp
          refine hK.out _ _ ?_ (fun hHeld => ?_)
          · (try dsimp only) <;> (trivial)
          clear hK K
          try simp only [Act.put, List.setIfInBounds_toArray, List.set_cons_zero, List.set_cons_succ]
          refine h_call 3 (by kernel_rfl) rfl (by kernel_rfl) (fun K hK => ?_)
          go_simp
          refine (l3Small_any g code _ (by exact (by repeat (first | with_reducible assumption | with_reducible refine Cur.set ?_ (by first | (simp; done) | (simp; omega) | omega) _ | with_reducible refine Cur.alloc ?_ _ | with_reducible refine Cur.drew ?_ | with_reducible refine Cur.below ?_ (by assumption))))).mono ?_
          rintro e w5 ⟨vk, vn, vs, hvs, rfl, hc5, hg5⟩
          have HB5 := Blk.grown (w := wr.drew) HBk hg5 (by omega)
          have HZ5 := Blk.grown (w := wr.drew) HZk hg5 (by omega)
          obtain ⟨q0, q1, q2, q3⟩ := HB5.two
          have hs5 := hg5.size
          simp only [drew_size'] at hs5
          have hq5 : w1.heap.size < w5.heap.size := by omega
          try dsimp only
          refine hK.out _ _ ?_ (fun hHeld => ?_)
          · (try dsimp only) <;> (trivial)
          clear hK K
          try simp only [Act.put, List.setIfInBounds_toArray, List.set_cons_zero, List.set_cons_succ]
          refine h_call 4 (by kernel_rfl) rfl (by kernel_rfl) (fun K hK => ?_)
          go_simp
          refine hK.out _ _ ?_ (fun hHeld => ?_)
          · (try dsimp only) <;> (trivial)
          clear hK K
          try simp only [Act.put, List.setIfInBounds_toArray, List.set_cons_zero, List.set_cons_succ]
          refine h_call 5 (by kernel_rfl) rfl (by kernel_rfl) (fun K hK => ?_)
          refine appO (.tmp 23) (.tmp 26) _ rfl vC_sz (w1.heap.size + 1) 47 i0 Tryz.underlying24 HI.out hz0 hz1 hz2 rfl (by omega) _ acc rfl ((OwnT.grownG (w := wr.drew) hok hg5 (by omega)).alloc _) _ 1 1 [⟨vk, vn, vs⟩] rfl (RdT.new1 vC_sz w5 47 ⟨vk, vn, vs⟩) (by intro u hu; simp [fl, vC] at hu; rcases hu with rfl | rfl | rfl <;> rfl) (by have := HAL.out; omega) (by have := hg5.size; simp at this; simp; omega) ?_ (by have := HAL.out; omega)
          intro v' w6 ho6 hb6 hs6
          have hl6 : (acc ++ [(⟨vk, vn, vs⟩ : Vl)]).length = k + 1 := by rw [List.length_append, HAL.out]; rfl
          obtain ⟨A6, c6, hv6, _⟩ := ho6.form
          rw [hl6] at hv6
          subst hv6
          have HB6 := Blk.bel (HB5.alloc _) hb6 (by omega)
          have HZ6 := Blk.bel (HZ5.alloc _) hb6 (by omega)
          simp at hs6
          obtain ⟨r0, r1, r2, r3⟩ := HB6.two
          change K (Act.put _ (some 27) _) _
          refine hK.out _ _ ?_ (fun hHeld => ?_)
          · (try dsimp only) <;> (trivial)
          clear hK K
          try simp only [Act.put, List.setIfInBounds_toArray, List.set_cons_zero, List.set_cons_succ]
          refine h_take 6 (some 28) (?_) rfl rfl (by kernel_rfl) (by kernel_rfl) (by kernel_rfl) (fun _ _ _ h => h) (by kernel_rfl) ?_ (by assumption) ?_
          rotate_left
          · intro w hSw; (try dsimp only at hSw); go_simp
            all_goals first | with_reducible rfl | omega | (simp; omega)
          try simp only [Act.put, List.setIfInBounds_toArray, List.set_cons_zero, List.set_cons_succ]
          refine h_call 7 (by kernel_rfl) rfl (by kernel_rfl) (fun K hK => ?_)
          go_simp
          refine hK.out _ _ ?_ (fun hHeld => ?_)
          · (try dsimp only) <;> (trivial)
          clear hK K
          try simp only [Act.put, List.setIfInBounds_toArray, List.set_cons_zero, List.set_cons_succ]
          refine wpAnyH_done (by kernel_rfl) ?_ _
          have HB7 := HB6.set_ 1 (.slice A6 (k + 1) c6)
          have HZ7 := HZ6.far (p := ⟨w1.heap.size, 1, none⟩) (by simp; omega) (.slice A6 (k + 1) c6)
          have ho7 := ho6.low (p := ⟨w1.heap.size, 1, none⟩) (by simp) (.slice A6 (k + 1) c6)
          have hc7 : Cur (w6.setCell ⟨w1.heap.size, 1, none⟩ (.slice A6 (k + 1) c6)) g code := Cur.set (Cur.below' (hc5.alloc _) hb6 (by omega)) (by simp; omega) _
          have hg7 : w.grownBy (w6.setCell ⟨w1.heap.size, 1, none⟩ (.slice A6 (k + 1) c6)) (some g) := gr_set (gr_bel (gr_alloc (World.grownBy.trans (gr_drew hgk) hg5) _) hb6 (by omega)) (by simp; omega) _
          go_wp2
          go_roundw
          case rel => exact ⟨k + 1, A6, c6, acc ++ [⟨vk, vn, vs⟩], by omega, by go_num, hl6, fun x hx => (by rcases List.mem_append.1 hx with h | h; exact HSZ.out x h; rw [List.mem_singleton] at h; rw [h]; exact hvs), by simpa using HB7, HZ7, ho7, hc7, hg7, by simp; omega⟩
          case measure => simp [intOf]; omega
        · rw [if_pos (by kernel_rfl)]
          go_simp
          refine (l3Small_any g code _ (by exact (by repeat (first | with_reducible assumption | with_reducible refine Cur.set ?_ (by first | (simp; done) | (simp; omega) | omega) _ | with_reducible refine Cur.alloc ?_ _ | with_reducible refine Cur.drew ?_ | with_reducible refine Cur.below ?_ (by assumption))))).mono ?_
          rintro e w5 ⟨vk, vn, vs, hvs, rfl, hc5, hg5⟩
          have HB5 := Blk.grown (w := wr.drew) HBk hg5 (by omega)
          have HZ5 := Blk.grown (w := wr.drew) HZk hg5 (by omega)
          obtain ⟨q0, q1, q2, q3⟩ := HB5.two
          have hs5 := hg5.size
          simp only [drew_size'] at hs5
          have hq5 : w1.heap.size < w5.heap.size := by omega
          try dsimp only
          refine hK.out _ _ ?_ (fun hHeld => ?_)
          · (try dsimp only) <;> (trivial)
          clear hK K
          try simp only [Act.put, List.setIfInBounds_toArray, List.set_cons_zero, List.set_cons_succ]
          refine wpAnyH_ready (rs := [1, 4]) (by kernel_rfl) (by simp) ?_
          refine AllReadyH.cons rfl (fun K hK => ?_) (AllReadyH.cons rfl (fun K hK => ?_) AllReadyH.nil)
          · rw [if_pos (by kernel_rfl)]
            go_simp
            refine hK.out _ _ ?_ (fun hHeld => ?_)
            · (try dsimp only) <;> (trivial)
            clear hK K
            try simp only [Act.put, List.setIfInBounds_toArray, List.set_cons_zero, List.set_cons_succ]
            refine h_call 4 (by kernel_rfl) rfl (by kernel_rfl) (fun K hK => ?_)
            go_simp
            refine hK.out _ _ ?_ (fun hHeld => ?_)
            · (try dsimp only) <;> (trivial)
            clear hK K
            try simp only [Act.put, List.setIfInBounds_toArray, List.set_cons_zero, List.set_cons_succ]
            refine h_call 5 (by kernel_rfl) rfl (by kernel_rfl) (fun K hK => ?_)
            refine appO (.tmp 23) (.tmp 26) _ rfl vC_sz (w1.heap.size + 1) 47 i0 Tryz.underlying24 HI.out hz0 hz1 hz2 rfl (by omega) _ acc rfl ((OwnT.grownG (w := wr.drew) hok hg5 (by omega)).alloc _) _ 1 1 [⟨vk, vn, vs⟩] rfl (RdT.new1 vC_sz w5 47 ⟨vk, vn, vs⟩) (by intro u hu; simp [fl, vC] at hu; rcases hu with rfl | rfl | rfl <;> rfl) (by have := HAL.out; omega) (by have := hg5.size; simp at this; simp; omega) ?_ (by have := HAL.out; omega)
            intro v' w6 ho6 hb6 hs6
            have hl6 : (acc ++ [(⟨vk, vn, vs⟩ : Vl)]).length = k + 1 := by rw [List.length_append, HAL.out]; rfl
            obtain ⟨A6, c6, hv6, _⟩ := ho6.form
            rw [hl6] at hv6
            subst hv6
            have HB6 := Blk.bel (HB5.alloc _) hb6 (by omega)
            have HZ6 := Blk.bel (HZ5.alloc _) hb6 (by omega)
            simp at hs6
            obtain ⟨r0, r1, r2, r3⟩ := HB6.two
            change K (Act.put _ (some 27) _) _
            refine hK.out _ _ ?_ (fun hHeld => ?_)
            · (try dsimp only) <;> (trivial)
            clear hK K
            try simp only [Act.put, List.setIfInBounds_toArray, List.set_cons_zero, List.set_cons_succ]
            refine h_take 6 (some 28) (?_) rfl rfl (by kernel_rfl) (by kernel_rfl) (by kernel_rfl) (fun _ _ _ h => h) (by kernel_rfl) ?_ (by assumption) ?_
            rotate_left
            · intro w hSw; (try dsimp only at hSw); go_simp
              all_goals first | with_reducible rfl | omega | (simp; omega)
            try simp only [Act.put, List.setIfInBounds_toArray, List.set_cons_zero, List.set_cons_succ]
            refine h_call 7 (by kernel_rfl) rfl (by kernel_rfl) (fun K hK => ?_)
            go_simp
            refine hK.out _ _ ?_ (fun hHeld => ?_)
            · (try dsimp only) <;> (trivial)
            clear hK K
            try simp only [Act.put, List.setIfInBounds_toArray, List.set_cons_zero, List.set_cons_succ]
            refine wpAnyH_done (by kernel_rfl) ?_ _
            have HB7 := HB6.set_ 1 (.slice A6 (k + 1) c6)
            have HZ7 := HZ6.far (p := ⟨w1.heap.size, 1, none⟩) (by simp; omega) (.slice A6 (k + 1) c6)
            have ho7 := ho6.low (p := ⟨w1.heap.size, 1, none⟩) (by simp) (.slice A6 (k + 1) c6)
            have hc7 : Cur (w6.setCell ⟨w1.heap.size, 1, none⟩ (.slice A6 (k + 1) c6)) g code := Cur.set (Cur.below' (hc5.alloc _) hb6 (by omega)) (by simp; omega) _
            have hg7 : w.grownBy (w6.setCell ⟨w1.heap.size, 1, none⟩ (.slice A6 (k + 1) c6)) (some g) := gr_set (gr_bel (gr_alloc (World.grownBy.trans (gr_drew hgk) hg5) _) hb6 (by omega)) (by simp; omega) _
            go_wp2
            go_roundw
            case rel => exact ⟨k + 1, A6, c6, acc ++ [⟨vk, vn, vs⟩], by omega, by go_num, hl6, fun x hx => (by rcases List.mem_append.1 hx with h | h; exact HSZ.out x h; rw [List.mem_singleton] at h; rw [h]; exact hvs), by simpa using HB7, HZ7, ho7, hc7, hg7, by simp; omega⟩
            case measure => simp [intOf]; omega
          · rw [if_pos (by kernel_rfl)]
            go_simp
            refine hK.out _ _ ?_ (fun hHeld => ?_)
            · (try dsimp only) <;> (trivial)
            clear hK K
            try simp only [Act.put, List.setIfInBounds_toArray, List.set_cons_zero, List.set_cons_succ]
            refine h_call 1 (by kernel_rfl) rfl (by kernel_rfl) (fun K hK => ?_)
            go_simp
            refine hK.out _ _ ?_ (fun hHeld => ?_)
            · (try dsimp only) <;> (trivial)
            clear hK K
            try simp only [Act.put, List.setIfInBounds_toArray, List.set_cons_zero, List.set_cons_succ]
            refine h_call 5 (by kernel_rfl) rfl (by kernel_rfl) (fun K hK => ?_)
            refine appO (.tmp 23) (.tmp 26) _ rfl vC_sz (w1.heap.size + 1) 47 i0 Tryz.underlying24 HI.out hz0 hz1 hz2 rfl (by omega) _ acc rfl ((OwnT.grownG (w := wr.drew) hok hg5 (by omega)).alloc _) _ 1 1 [⟨vk, vn, vs⟩] rfl (RdT.new1 vC_sz w5 47 ⟨vk, vn, vs⟩) (by intro u hu; simp [fl, vC] at hu; rcases hu with rfl | rfl | rfl <;> rfl) (by have := HAL.out; omega) (by have := hg5.size; simp at this; simp; omega) ?_ (by have := HAL.out; omega)
            intro v' w6 ho6 hb6 hs6
            have hl6 : (acc ++ [(⟨vk, vn, vs⟩ : Vl)]).length = k + 1 := by rw [List.length_append, HAL.out]; rfl
            obtain ⟨A6, c6, hv6, _⟩ := ho6.form
            rw [hl6] at hv6
            subst hv6
            have HB6 := Blk.bel (HB5.alloc _) hb6 (by omega)
            have HZ6 := Blk.bel (HZ5.alloc _) hb6 (by omega)
            simp at hs6
            obtain ⟨r0, r1, r2, r3⟩ := HB6.two
            change K (Act.put _ (some 27) _) _
            refine hK.out _ _ ?_ (fun hHeld => ?_)
            · (try dsimp only) <;> (trivial)
            clear hK K
            try simp only [Act.put, List.setIfInBounds_toArray, List.set_cons_zero, List.set_cons_succ]
            refine h_take 6 (some 28) (?_) rfl rfl (by kernel_rfl) (by kernel_rfl) (by kernel_rfl) (fun _ _ _ h => h) (by kernel_rfl) ?_ (by assumption) ?_
            rotate_left
            · intro w hSw; (try dsimp only at hSw); go_simp
              all_goals first | with_reducible rfl | omega | (simp; omega)
            try simp only [Act.put, List.setIfInBounds_toArray, List.set_cons_zero, List.set_cons_succ]
            refine h_call 7 (by kernel_rfl) rfl (by kernel_rfl) (fun K hK => ?_)
            go_simp
            refine hK.out _ _ ?_ (fun hHeld => ?_)
            · (try dsimp only) <;> (trivial)
            clear hK K
            try simp only [Act.put, List.setIfInBounds_toArray, List.set_cons_zero, List.set_cons_succ]
            refine wpAnyH_done (by kernel_rfl) ?_ _
            have HB7 := HB6.set_ 1 (.slice A6 (k + 1) c6)
            have HZ7 := HZ6.far (p := ⟨w1.heap.size, 1, none⟩) (by simp; omega) (.slice A6 (k + 1) c6)
            have ho7 := ho6.low (p := ⟨w1.heap.size, 1, none⟩) (by simp) (.slice A6 (k + 1) c6)
            have hc7 : Cur (w6.setCell ⟨w1.heap.size, 1, none⟩ (.slice A6 (k + 1) c6)) g code := Cur.set (Cur.below' (hc5.alloc _) hb6 (by omega)) (by simp; omega) _
            have hg7 : w.grownBy (w6.setCell ⟨w1.heap.size, 1, none⟩ (.slice A6 (k + 1) c6)) (some g) := gr_set (gr_bel (gr_alloc (World.grownBy.trans (gr_drew hgk) hg5) _) hb6 (by omega)) (by simp; omega) _
            go_wp2
            go_roundw
            case rel => exact ⟨k + 1, A6, c6, acc ++ [⟨vk, vn, vs⟩], by omega, by go_num, hl6, fun x hx => (by rcases List.mem_append.1 hx with h | h; exact HSZ.out x h; rw [List.mem_singleton] at h; rw [h]; exact hvs), by simpa using HB7, HZ7, ho7, hc7, hg7, by simp; omega⟩
            case measure => simp [intOf]; omega
      · obtain ⟨z0, z1, y0, y1⟩ := HZk.two
        have HO := Lib.hid hok; clear hok
        go_wp2
        refine bodyPost_ret (v := .agg #[.string kd, .slice A' k c']) (by simp [results, Tryz.results40, go_sem, z0, z1]) rfl ⟨kd, A', c', acc, hkd, by have := HAL.out; omega, HSZ.out, by rw [HAL.out], ?_, (by repeat (first | with_reducible assumption | with_reducible refine Cur.set ?_ (by first | (simp; done) | (simp; omega) | omega) _ | with_reducible refine Cur.alloc ?_ _ | with_reducible refine Cur.drew ?_ | with_reducible refine Cur.below ?_ (by assumption))), (by repeat (first | with_reducible exact World.grownBy.refl _ _ | with_reducible assumption | with_reducible refine gr_alloc ?_ _ | with_reducible refine gr_drew ?_ | with_reducible refine gr_drewN ?_ _ | with_reducible refine gr_set ?_ (by first | (simp; done) | (simp; omega) | omega) _ | with_reducible refine World.grownBy.trans ?_ (by assumption) | with_reducible refine grown_below ?_ (by assumption)))⟩
        rw [HAL.out]
        exact (((HO.out.low (by first | (simp; done) | (simp; omega)) _).low (by first | (simp; done) | (simp; omega)) _).lower (by omega))
theorem l3Draw_any (g : Nat) (code : List UInt8) (w : World) (hc : Cur w g code) : Calls Tryz.prog 40 #[.pointer (some ⟨g, 0, none⟩)] w (DrawnF g code w) :=
  (l3DrawK_any g code w hc).mono fun _ _ ⟨kd, A, c, fs, h, r⟩ => ⟨kd, A, c, fs, h.1, r⟩
end Go.Proofs.YtcbbefibebkfgaaGreatDoor
