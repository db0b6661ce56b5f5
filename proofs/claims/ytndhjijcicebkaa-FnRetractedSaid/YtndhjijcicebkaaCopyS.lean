/- A copy of a store by the program: its items, and their fields, are rows of the call's own. No condition but lengths. -/
import Derived.Test.YtndhjijcicebkaaStore
import Derived.Test.YtndhjijcicebkaaCopy
import Derived.Test.YtndhjijcicebkaaItemA
import Derived.Test.YtndhjijcicebkaaApp3
namespace Go.Proofs.Ytndhjijcicebkaa
open Go.RowKit
set_option maxRecDepth 100000
set_option maxHeartbeats 4000000

theorem blkB {w w' : World} {b B : Nat} {t : TypeId} {cs : Array Value} (h : Blk w b t cs) (hb : Below B w w') (hB : b < B) : Blk w' b t cs := (hb.block b hB).trans h
theorem cell_other {w : World} {p : Addr} {u v : Value} {b o : Nat} (h : w.cell? ⟨b, o, none⟩ = some v) (hne : b ≠ p.block) : (w.setCell p u).cell? ⟨b, o, none⟩ = some v :=
  (World.cell?_setCell_other w p ⟨b, o, none⟩ u (fun e => hne (by first | (rw [← e]; done) | (rw [e]; done) | (subst e; rfl)))).trans h
theorem copyStore_any (A : Option Addr) (n c : Nat) (rs : List IR) (nx : Int) (w : World) (B : Nat) (hr : RdI w B A n rs) (hn : n ≤ 1048576) (hs : ∀ r ∈ rs, r.fs.length ≤ 1048576) :
    Calls Try.prog 40 #[.agg #[.slice A n c, .int .i64 nx]] w fun e w' => ∃ A' c' rs', e = .returned (.agg #[.slice A' rs'.length c', .int .i64 nx]) ∧ rs'.length ≤ c' ∧ rs'.map itOf = rs.map itOf ∧ OwnI w' w.heap.size (.slice A' rs'.length c') rs' ∧ Below w.heap.size w w' := by
  obtain ⟨i0, hi, hz0, hz1, hz2⟩ := info_parts infoItem
  have HI := Lib.hid hi; clear hi
  have HL := Lib.hid hr.len
  have HS := Lib.hid hs; clear hs
  have HZ := Blk.new (w.alloc (.cells #[.slice A n c, .int .i64 nx] 32)) 32 #[.slice none 0 0, .int .i64 0]
  have HB := Blk.new ((w.alloc (.cells #[.slice A n c, .int .i64 nx] 32)).alloc (.cells #[.slice none 0 0, .int .i64 0] 32)) 32 #[.slice none 0 0, .int .i64 nx]
  replace HZ := HZ.alloc (.cells #[.slice none 0 0, .int .i64 nx] 32)
  have es1 : (w.alloc (.cells #[.slice A n c, .int .i64 nx] 32)).heap.size = w.heap.size + 1 := by simp
  have es2 : ((w.alloc (.cells #[.slice A n c, .int .i64 nx] 32)).alloc (.cells #[.slice none 0 0, .int .i64 0] 32)).heap.size = w.heap.size + 2 := by simp
  rw [es1] at HZ
  rw [es2] at HB
  clear es1 es2
  go_enter Try.func40, Try.ntmps40
  go_wp2
  go_loopw [12] (fun i wr => ∃ (k : Nat) (A' : Option Addr) (c' : Nat) (qs : List IR), k ≤ n ∧ i = .int .i64 k ∧ qs.length = k ∧ qs.map itOf = (rs.take k).map itOf ∧ k ≤ c' ∧ Blk wr (w.heap.size + 2) 32 #[.slice A' k c', .int .i64 nx] ∧ Blk wr (w.heap.size + 1) 32 #[.slice none 0 0, .int .i64 0] ∧ OwnI wr (w.heap.size + 3) (.slice A' k c') qs ∧ Below w.heap.size w wr ∧ w.heap.size + 3 ≤ wr.heap.size) (fun i _ => n - (intOf i).toNat)
  case atStart => exact ⟨0, none, 0, [], Nat.zero_le _, rfl, rfl, rfl, Nat.le_refl _, HB, HZ, OwnI.nil_ _ _, (by repeat (first | with_reducible exact bel_refl _ | with_reducible assumption | with_reducible refine bel_set ?_ (by first | (simp; done) | (simp; omega) | omega) _ | with_reducible refine bel_alloc ?_ _ | with_reducible refine bel_drew ?_ | with_reducible refine bel_drewN ?_ _ | with_reducible refine bel_trans ?_ (by assumption))), by simp⟩
  case round =>
    obtain ⟨k, A', c', qs, hk, rfl, hql, hqm, hkc, HBk, HZk, ho, hbel, hbs⟩ := hrel
    have HQL := Lib.hid hql; clear hql
    have HQM := Lib.hid hqm; clear hqm
    by_cases hlt : k < n
    · obtain ⟨b, o, rfl, hb0, hc⟩ := (hr.kept hbel).at_ (by omega)
      obtain ⟨id, kd, Ai, ci, fs, he, p0, p1, p2, hri⟩ := hc k hlt
      clear hc
      have hkl : k < rs.length := by rw [HL.out]; exact hlt
      have hfl : fs.length ≤ 1048576 := by
        have := HS.out (rs[k]'hkl) (List.getElem_mem _)
        rw [he] at this; exact this
      have HE := Lib.hid he; clear he
      have hj0 : (0:Int) ≤ (k : Int) := by omega
      have hj1 : (k:Int) < (n : Int) := by omega
      have hbl : b < wr.heap.size := Nat.lt_of_lt_of_le hb0 (hr.kept hbel).1.1
      have hnw : (Value.slice A' k c').ownBlock ≠ some wr.heap.size := fun he => by have := (World.ownsRow.lt ho.1 _ he).2; omega
      go_wp2_with fail
      have x0 : (wr.alloc (.cells #[.int .i64 id, .string kd, .slice Ai fs.length ci] 55)).cell? ⟨wr.heap.size, 0, none⟩ = some (.int .i64 id) := by go_simp
      have x1 : (wr.alloc (.cells #[.int .i64 id, .string kd, .slice Ai fs.length ci] 55)).cell? ⟨wr.heap.size, 1, none⟩ = some (.string kd) := by go_simp
      have x2 : (wr.alloc (.cells #[.int .i64 id, .string kd, .slice Ai fs.length ci] 55)).cell? ⟨wr.heap.size, 2, none⟩ = some (.slice Ai fs.length ci) := by go_simp
      have gv : Below wr.heap.size wr (wr.alloc (.cells #[.int .i64 id, .string kd, .slice Ai fs.length ci] 55)) := bel_alloc (bel_refl wr) _
      have hsv : (wr.alloc (.cells #[.int .i64 id, .string kd, .slice Ai fs.length ci] 55)).heap.size = wr.heap.size + 1 := by simp
      generalize hv : wr.alloc (.cells #[.int .i64 id, .string kd, .slice Ai fs.length ci] 55) = v at x0 x1 x2 gv hsv ⊢
      clear hv p0 p1 p2
      have hsv' : wr.heap.size + 1 ≤ v.heap.size := by omega
      clear hsv
      replace hri := hri.kept gv
      replace HBk := HBk.kept gv
      replace HZk := HZk.kept gv
      replace ho := ho.kept gv
      replace hbel := bel_trans hbel gv
      have d0 := HBk.cell 0
      dsimp at d0
      refine wp_region_held_drew (S := (fun w' => w'.cell? ⟨wr.heap.size, 0, none⟩ = some (.int .i64 id) ∧ w'.cell? ⟨wr.heap.size, 1, none⟩ = some (.string kd) ∧ w'.cell? ⟨wr.heap.size, 2, none⟩ = some (.slice Ai fs.length ci))) (by kernel_rfl) ?_ (fun hHeld => ?_)
      · (try dsimp only) <;> (first | exact ⟨x0, x1, x2⟩ | exact hHeld | exact ⟨hg6.cell (a := ⟨wr.heap.size, 0, none⟩) hHeld.1 (fun e => hnw e.symm), hg6.cell (a := ⟨wr.heap.size, 1, none⟩) hHeld.2.1 (fun e => hnw e.symm), hg6.cell (a := ⟨wr.heap.size, 2, none⟩) hHeld.2.2 (fun e => hnw e.symm)⟩ | exact ⟨old_cell hb5 hHeld.1, old_cell hb5 hHeld.2.1, old_cell hb5 hHeld.2.2⟩ | exact ⟨cell_other hHeld.1 (by simp; omega), cell_other hHeld.2.1 (by simp; omega), cell_other hHeld.2.2 (by simp; omega)⟩ | exact ⟨old_cell (bel_alloc (bel_refl _) _) hHeld.1, old_cell (bel_alloc (bel_refl _) _) hHeld.2.1, old_cell (bel_alloc (bel_refl _) _) hHeld.2.2⟩)
      refine h_take 0 (some 16) (?_) rfl rfl (by kernel_rfl) (by kernel_rfl) (by kernel_rfl) (fun _ _ _ h => h) (by kernel_rfl) ?_ (by assumption) ?_
      rotate_left
      · intro w hSw; (try dsimp only at hSw); go_simp
        all_goals first | with_reducible rfl | omega | (simp; omega)
      try simp only [Act.put, List.setIfInBounds_toArray, List.set_cons_zero, List.set_cons_succ]
      refine h_take 2 (some 18) (?_) rfl rfl (by kernel_rfl) (by kernel_rfl) (by kernel_rfl) (fun _ _ _ h => h) (by kernel_rfl) ?_ (by assumption) ?_
      rotate_left
      · intro w hSw; (try dsimp only at hSw); go_simp
        all_goals first | with_reducible rfl | omega | (simp; omega)
      try simp only [Act.put, List.setIfInBounds_toArray, List.set_cons_zero, List.set_cons_succ]
      refine h_take 3 (some 19) (?_) rfl rfl (by kernel_rfl) (by kernel_rfl) (by kernel_rfl) (fun _ _ _ h => h) (by kernel_rfl) ?_ (by assumption) ?_
      rotate_left
      · intro w hSw; (try dsimp only at hSw); go_simp
        all_goals first | with_reducible rfl | omega | (simp; omega)
      try simp only [Act.put, List.setIfInBounds_toArray, List.set_cons_zero, List.set_cons_succ]
      refine h_take 4 (some 20) (?_) rfl rfl (by kernel_rfl) (by kernel_rfl) (by kernel_rfl) (fun _ _ _ h => h) (by kernel_rfl) ?_ (by assumption) ?_
      rotate_left
      · intro w hSw; (try dsimp only at hSw); go_simp
        all_goals first | with_reducible rfl | omega | (simp; omega)
      try simp only [Act.put, List.setIfInBounds_toArray, List.set_cons_zero, List.set_cons_succ]
      refine h_take 5 (some 21) (?_) rfl rfl (by kernel_rfl) (by kernel_rfl) (by kernel_rfl) (fun _ _ _ h => h) (by kernel_rfl) ?_ (by assumption) ?_
      rotate_left
      · intro w hSw; (try dsimp only at hSw); go_simp
        all_goals first | with_reducible rfl | omega | (simp; omega)
      try simp only [Act.put, List.setIfInBounds_toArray, List.set_cons_zero, List.set_cons_succ]
      refine wpAnyH_ready (rs := [1, 6]) (by kernel_rfl) (by simp) ?_
      refine AllReadyH.cons rfl (fun K hK => ?_) (AllReadyH.cons rfl (fun K hK => ?_) AllReadyH.nil)
      · rw [if_pos (by kernel_rfl)]
        go_simp
        refine hK.out _ _ ?_ (fun hHeld => ?_)
        · (try dsimp only) <;> (first | exact ⟨x0, x1, x2⟩ | exact hHeld | exact ⟨hg6.cell (a := ⟨wr.heap.size, 0, none⟩) hHeld.1 (fun e => hnw e.symm), hg6.cell (a := ⟨wr.heap.size, 1, none⟩) hHeld.2.1 (fun e => hnw e.symm), hg6.cell (a := ⟨wr.heap.size, 2, none⟩) hHeld.2.2 (fun e => hnw e.symm)⟩ | exact ⟨old_cell hb5 hHeld.1, old_cell hb5 hHeld.2.1, old_cell hb5 hHeld.2.2⟩ | exact ⟨cell_other hHeld.1 (by simp; omega), cell_other hHeld.2.1 (by simp; omega), cell_other hHeld.2.2 (by simp; omega)⟩ | exact ⟨old_cell (bel_alloc (bel_refl _) _) hHeld.1, old_cell (bel_alloc (bel_refl _) _) hHeld.2.1, old_cell (bel_alloc (bel_refl _) _) hHeld.2.2⟩)
        clear hK K
        try simp only [Act.put, List.setIfInBounds_toArray, List.set_cons_zero, List.set_cons_succ]
        refine h_call 6 (by kernel_rfl) rfl (by kernel_rfl) (fun K hK => ?_)
        go_simp
        refine (copyFact_any kd Ai _ ci fs _ _ (show RdS vC 3 v.drew B Ai fs.length fs from hri) hfl).mono ?_
        rintro e w5 ⟨A5, c5, rfl, ho5, hb5⟩
        have HB5 := Blk.kept (w := v.drew) HBk hb5
        have HZ5 := Blk.kept (w := v.drew) HZk hb5
        have hoi5 := OwnI.kept (w := v.drew) ho hb5
        have hfr := fresh_row (w := v.drew) (r := ⟨id, kd, A5, c5, fs⟩) ho ho5
        obtain ⟨q0, q1, q2, q3⟩ := HB5.two
        have hs5 := hb5.size
        simp at hs5
        have hq5 : w.heap.size + 2 < w5.heap.size := by omega
        try dsimp only
        refine hK.out _ _ ?_ (fun hHeld => ?_)
        · (try dsimp only) <;> (first | exact ⟨x0, x1, x2⟩ | exact hHeld | exact ⟨hg6.cell (a := ⟨wr.heap.size, 0, none⟩) hHeld.1 (fun e => hnw e.symm), hg6.cell (a := ⟨wr.heap.size, 1, none⟩) hHeld.2.1 (fun e => hnw e.symm), hg6.cell (a := ⟨wr.heap.size, 2, none⟩) hHeld.2.2 (fun e => hnw e.symm)⟩ | exact ⟨old_cell hb5 hHeld.1, old_cell hb5 hHeld.2.1, old_cell hb5 hHeld.2.2⟩ | exact ⟨cell_other hHeld.1 (by simp; omega), cell_other hHeld.2.1 (by simp; omega), cell_other hHeld.2.2 (by simp; omega)⟩ | exact ⟨old_cell (bel_alloc (bel_refl _) _) hHeld.1, old_cell (bel_alloc (bel_refl _) _) hHeld.2.1, old_cell (bel_alloc (bel_refl _) _) hHeld.2.2⟩)
        clear hK K
        try simp only [Act.put, List.setIfInBounds_toArray, List.set_cons_zero, List.set_cons_succ]
        refine h_take 7 (some 23) (?_) rfl rfl (by kernel_rfl) (by kernel_rfl) (by kernel_rfl) (fun _ _ _ h => h) (by kernel_rfl) ?_ (by assumption) ?_
        rotate_left
        · intro w hSw; (try dsimp only at hSw); go_simp
          all_goals first | with_reducible rfl | omega | (simp; omega)
        try simp only [Act.put, List.setIfInBounds_toArray, List.set_cons_zero, List.set_cons_succ]
        refine h_call 8 (by kernel_rfl) rfl (by kernel_rfl) (fun K hK => ?_)
        go_simp
        refine hK.out _ _ ?_ (fun hHeld => ?_)
        · (try dsimp only) <;> (first | exact ⟨x0, x1, x2⟩ | exact hHeld | exact ⟨hg6.cell (a := ⟨wr.heap.size, 0, none⟩) hHeld.1 (fun e => hnw e.symm), hg6.cell (a := ⟨wr.heap.size, 1, none⟩) hHeld.2.1 (fun e => hnw e.symm), hg6.cell (a := ⟨wr.heap.size, 2, none⟩) hHeld.2.2 (fun e => hnw e.symm)⟩ | exact ⟨old_cell hb5 hHeld.1, old_cell hb5 hHeld.2.1, old_cell hb5 hHeld.2.2⟩ | exact ⟨cell_other hHeld.1 (by simp; omega), cell_other hHeld.2.1 (by simp; omega), cell_other hHeld.2.2 (by simp; omega)⟩ | exact ⟨old_cell (bel_alloc (bel_refl _) _) hHeld.1, old_cell (bel_alloc (bel_refl _) _) hHeld.2.1, old_cell (bel_alloc (bel_refl _) _) hHeld.2.2⟩)
        clear hK K
        try simp only [Act.put, List.setIfInBounds_toArray, List.set_cons_zero, List.set_cons_succ]
        refine h_call 9 (by kernel_rfl) rfl (by kernel_rfl) (fun K hK => ?_)
        refine appG (.tmp 17) (.tmp 24) _ rfl irC_sz (w.heap.size + 3) 55 i0 Try.underlying30 HI.out hz0 hz1 hz2 rfl (by omega) _ qs rfl (hoi5.1.alloc _) _ 1 1 [⟨id, kd, A5, c5, fs⟩] rfl (RdT.new1 irC_sz w5 55 ⟨id, kd, A5, c5, fs⟩) (irC_one _) (by have := HQL.out; omega) (by simp; omega) ?_ (by have := HQL.out; omega)
        intro v' w6 ho6 hb6 hg6
        have hoi6 := OwnI.snoc (hoi5.alloc _) (OwnT.alloc (OwnT.lower ho5 (by simp; omega)) _) hfr ho6 hg6
        have hl6 : (qs ++ [(⟨id, kd, A5, c5, fs⟩ : IR)]).length = k + 1 := by rw [List.length_append, HQL.out]; rfl
        obtain ⟨A6, c6, hv6, hc6⟩ := hoi6.form
        rw [hl6] at hv6 hc6
        subst hv6
        have HB6 := blkB (HB5.alloc _) hb6 (by omega)
        have HZ6 := blkB (HZ5.alloc _) hb6 (by omega)
        have hs6 := hg6.size
        simp at hs6
        obtain ⟨r0, r1, r2, r3⟩ := HB6.two
        change K (Act.put _ (some 25) _) _
        refine hK.out _ _ ?_ (fun hHeld => ?_)
        · (try dsimp only) <;> (first | exact ⟨x0, x1, x2⟩ | exact hHeld | exact ⟨hg6.cell (a := ⟨wr.heap.size, 0, none⟩) hHeld.1 (fun e => hnw e.symm), hg6.cell (a := ⟨wr.heap.size, 1, none⟩) hHeld.2.1 (fun e => hnw e.symm), hg6.cell (a := ⟨wr.heap.size, 2, none⟩) hHeld.2.2 (fun e => hnw e.symm)⟩ | exact ⟨old_cell hb5 hHeld.1, old_cell hb5 hHeld.2.1, old_cell hb5 hHeld.2.2⟩ | exact ⟨cell_other hHeld.1 (by simp; omega), cell_other hHeld.2.1 (by simp; omega), cell_other hHeld.2.2 (by simp; omega)⟩ | exact ⟨old_cell (bel_alloc (bel_refl _) _) hHeld.1, old_cell (bel_alloc (bel_refl _) _) hHeld.2.1, old_cell (bel_alloc (bel_refl _) _) hHeld.2.2⟩)
        clear hK K
        try simp only [Act.put, List.setIfInBounds_toArray, List.set_cons_zero, List.set_cons_succ]
        refine h_take 10 (some 26) (?_) rfl rfl (by kernel_rfl) (by kernel_rfl) (by kernel_rfl) (fun _ _ _ h => h) (by kernel_rfl) ?_ (by assumption) ?_
        rotate_left
        · intro w hSw; (try dsimp only at hSw); go_simp
          all_goals first | with_reducible rfl | omega | (simp; omega)
        try simp only [Act.put, List.setIfInBounds_toArray, List.set_cons_zero, List.set_cons_succ]
        refine h_call 11 (by kernel_rfl) rfl (by kernel_rfl) (fun K hK => ?_)
        go_simp
        refine hK.out _ _ ?_ (fun hHeld => ?_)
        · (try dsimp only) <;> (first | exact ⟨x0, x1, x2⟩ | exact hHeld | exact ⟨hg6.cell (a := ⟨wr.heap.size, 0, none⟩) hHeld.1 (fun e => hnw e.symm), hg6.cell (a := ⟨wr.heap.size, 1, none⟩) hHeld.2.1 (fun e => hnw e.symm), hg6.cell (a := ⟨wr.heap.size, 2, none⟩) hHeld.2.2 (fun e => hnw e.symm)⟩ | exact ⟨old_cell hb5 hHeld.1, old_cell hb5 hHeld.2.1, old_cell hb5 hHeld.2.2⟩ | exact ⟨cell_other hHeld.1 (by simp; omega), cell_other hHeld.2.1 (by simp; omega), cell_other hHeld.2.2 (by simp; omega)⟩ | exact ⟨old_cell (bel_alloc (bel_refl _) _) hHeld.1, old_cell (bel_alloc (bel_refl _) _) hHeld.2.1, old_cell (bel_alloc (bel_refl _) _) hHeld.2.2⟩)
        clear hK K
        try simp only [Act.put, List.setIfInBounds_toArray, List.set_cons_zero, List.set_cons_succ]
        refine wpAnyH_done (by kernel_rfl) ?_ _
        have HB7 := HB6.set_ 0 (.slice A6 (k + 1) c6)
        have HZ7 := HZ6.far (p := ⟨w.heap.size + 2, 0, none⟩) (by simp) (.slice A6 (k + 1) c6)
        have hoi7 := hoi6.low (p := ⟨w.heap.size + 2, 0, none⟩) (by simp) (.slice A6 (k + 1) c6)
        have hb7 : Below w.heap.size w (w6.setCell ⟨w.heap.size + 2, 0, none⟩ (.slice A6 (k + 1) c6)) := bel_set ((bel_alloc (bel_trans (bel_drew hbel) hb5) _).trans (hb6.mono (by omega))) (by simp) _
        go_wp2
        go_roundw
        case rel => exact ⟨k + 1, A6, c6, qs ++ [⟨id, kd, A5, c5, fs⟩], by omega, by go_num, hl6, by rw [List.map_append, HQM.out, List.take_succ_eq_append_getElem hkl, List.map_append, HE.out]; rfl, hc6, by simpa using HB7, HZ7, hoi7, hb7, by simp; omega⟩
        case measure => simp [intOf]; omega
      · rw [if_pos (by kernel_rfl)]
        go_simp
        refine (copyFact_any kd Ai _ ci fs _ _ (show RdS vC 3 v.drew B Ai fs.length fs from hri) hfl).mono ?_
        rintro e w5 ⟨A5, c5, rfl, ho5, hb5⟩
        have HB5 := Blk.kept (w := v.drew) HBk hb5
        have HZ5 := Blk.kept (w := v.drew) HZk hb5
        have hoi5 := OwnI.kept (w := v.drew) ho hb5
        have hfr := fresh_row (w := v.drew) (r := ⟨id, kd, A5, c5, fs⟩) ho ho5
        obtain ⟨q0, q1, q2, q3⟩ := HB5.two
        have hs5 := hb5.size
        simp at hs5
        have hq5 : w.heap.size + 2 < w5.heap.size := by omega
        try dsimp only
        refine hK.out _ _ ?_ (fun hHeld => ?_)
        · (try dsimp only) <;> (first | exact ⟨x0, x1, x2⟩ | exact hHeld | exact ⟨hg6.cell (a := ⟨wr.heap.size, 0, none⟩) hHeld.1 (fun e => hnw e.symm), hg6.cell (a := ⟨wr.heap.size, 1, none⟩) hHeld.2.1 (fun e => hnw e.symm), hg6.cell (a := ⟨wr.heap.size, 2, none⟩) hHeld.2.2 (fun e => hnw e.symm)⟩ | exact ⟨old_cell hb5 hHeld.1, old_cell hb5 hHeld.2.1, old_cell hb5 hHeld.2.2⟩ | exact ⟨cell_other hHeld.1 (by simp; omega), cell_other hHeld.2.1 (by simp; omega), cell_other hHeld.2.2 (by simp; omega)⟩ | exact ⟨old_cell (bel_alloc (bel_refl _) _) hHeld.1, old_cell (bel_alloc (bel_refl _) _) hHeld.2.1, old_cell (bel_alloc (bel_refl _) _) hHeld.2.2⟩)
        clear hK K
        try simp only [Act.put, List.setIfInBounds_toArray, List.set_cons_zero, List.set_cons_succ]
        refine h_take 7 (some 23) (?_) rfl rfl (by kernel_rfl) (by kernel_rfl) (by kernel_rfl) (fun _ _ _ h => h) (by kernel_rfl) ?_ (by assumption) ?_
        rotate_left
        · intro w hSw; (try dsimp only at hSw); go_simp
          all_goals first | with_reducible rfl | omega | (simp; omega)
        try simp only [Act.put, List.setIfInBounds_toArray, List.set_cons_zero, List.set_cons_succ]
        refine wpAnyH_ready (rs := [1, 8]) (by kernel_rfl) (by simp) ?_
        refine AllReadyH.cons rfl (fun K hK => ?_) (AllReadyH.cons rfl (fun K hK => ?_) AllReadyH.nil)
        · rw [if_pos (by kernel_rfl)]
          go_simp
          refine hK.out _ _ ?_ (fun hHeld => ?_)
          · (try dsimp only) <;> (first | exact ⟨x0, x1, x2⟩ | exact hHeld | exact ⟨hg6.cell (a := ⟨wr.heap.size, 0, none⟩) hHeld.1 (fun e => hnw e.symm), hg6.cell (a := ⟨wr.heap.size, 1, none⟩) hHeld.2.1 (fun e => hnw e.symm), hg6.cell (a := ⟨wr.heap.size, 2, none⟩) hHeld.2.2 (fun e => hnw e.symm)⟩ | exact ⟨old_cell hb5 hHeld.1, old_cell hb5 hHeld.2.1, old_cell hb5 hHeld.2.2⟩ | exact ⟨cell_other hHeld.1 (by simp; omega), cell_other hHeld.2.1 (by simp; omega), cell_other hHeld.2.2 (by simp; omega)⟩ | exact ⟨old_cell (bel_alloc (bel_refl _) _) hHeld.1, old_cell (bel_alloc (bel_refl _) _) hHeld.2.1, old_cell (bel_alloc (bel_refl _) _) hHeld.2.2⟩)
          clear hK K
          try simp only [Act.put, List.setIfInBounds_toArray, List.set_cons_zero, List.set_cons_succ]
          refine h_call 8 (by kernel_rfl) rfl (by kernel_rfl) (fun K hK => ?_)
          go_simp
          refine hK.out _ _ ?_ (fun hHeld => ?_)
          · (try dsimp only) <;> (first | exact ⟨x0, x1, x2⟩ | exact hHeld | exact ⟨hg6.cell (a := ⟨wr.heap.size, 0, none⟩) hHeld.1 (fun e => hnw e.symm), hg6.cell (a := ⟨wr.heap.size, 1, none⟩) hHeld.2.1 (fun e => hnw e.symm), hg6.cell (a := ⟨wr.heap.size, 2, none⟩) hHeld.2.2 (fun e => hnw e.symm)⟩ | exact ⟨old_cell hb5 hHeld.1, old_cell hb5 hHeld.2.1, old_cell hb5 hHeld.2.2⟩ | exact ⟨cell_other hHeld.1 (by simp; omega), cell_other hHeld.2.1 (by simp; omega), cell_other hHeld.2.2 (by simp; omega)⟩ | exact ⟨old_cell (bel_alloc (bel_refl _) _) hHeld.1, old_cell (bel_alloc (bel_refl _) _) hHeld.2.1, old_cell (bel_alloc (bel_refl _) _) hHeld.2.2⟩)
          clear hK K
          try simp only [Act.put, List.setIfInBounds_toArray, List.set_cons_zero, List.set_cons_succ]
          refine h_call 9 (by kernel_rfl) rfl (by kernel_rfl) (fun K hK => ?_)
          refine appG (.tmp 17) (.tmp 24) _ rfl irC_sz (w.heap.size + 3) 55 i0 Try.underlying30 HI.out hz0 hz1 hz2 rfl (by omega) _ qs rfl (hoi5.1.alloc _) _ 1 1 [⟨id, kd, A5, c5, fs⟩] rfl (RdT.new1 irC_sz w5 55 ⟨id, kd, A5, c5, fs⟩) (irC_one _) (by have := HQL.out; omega) (by simp; omega) ?_ (by have := HQL.out; omega)
          intro v' w6 ho6 hb6 hg6
          have hoi6 := OwnI.snoc (hoi5.alloc _) (OwnT.alloc (OwnT.lower ho5 (by simp; omega)) _) hfr ho6 hg6
          have hl6 : (qs ++ [(⟨id, kd, A5, c5, fs⟩ : IR)]).length = k + 1 := by rw [List.length_append, HQL.out]; rfl
          obtain ⟨A6, c6, hv6, hc6⟩ := hoi6.form
          rw [hl6] at hv6 hc6
          subst hv6
          have HB6 := blkB (HB5.alloc _) hb6 (by omega)
          have HZ6 := blkB (HZ5.alloc _) hb6 (by omega)
          have hs6 := hg6.size
          simp at hs6
          obtain ⟨r0, r1, r2, r3⟩ := HB6.two
          change K (Act.put _ (some 25) _) _
          refine hK.out _ _ ?_ (fun hHeld => ?_)
          · (try dsimp only) <;> (first | exact ⟨x0, x1, x2⟩ | exact hHeld | exact ⟨hg6.cell (a := ⟨wr.heap.size, 0, none⟩) hHeld.1 (fun e => hnw e.symm), hg6.cell (a := ⟨wr.heap.size, 1, none⟩) hHeld.2.1 (fun e => hnw e.symm), hg6.cell (a := ⟨wr.heap.size, 2, none⟩) hHeld.2.2 (fun e => hnw e.symm)⟩ | exact ⟨old_cell hb5 hHeld.1, old_cell hb5 hHeld.2.1, old_cell hb5 hHeld.2.2⟩ | exact ⟨cell_other hHeld.1 (by simp; omega), cell_other hHeld.2.1 (by simp; omega), cell_other hHeld.2.2 (by simp; omega)⟩ | exact ⟨old_cell (bel_alloc (bel_refl _) _) hHeld.1, old_cell (bel_alloc (bel_refl _) _) hHeld.2.1, old_cell (bel_alloc (bel_refl _) _) hHeld.2.2⟩)
          clear hK K
          try simp only [Act.put, List.setIfInBounds_toArray, List.set_cons_zero, List.set_cons_succ]
          refine h_take 10 (some 26) (?_) rfl rfl (by kernel_rfl) (by kernel_rfl) (by kernel_rfl) (fun _ _ _ h => h) (by kernel_rfl) ?_ (by assumption) ?_
          rotate_left
          · intro w hSw; (try dsimp only at hSw); go_simp
            all_goals first | with_reducible rfl | omega | (simp; omega)
          try simp only [Act.put, List.setIfInBounds_toArray, List.set_cons_zero, List.set_cons_succ]
          refine h_call 11 (by kernel_rfl) rfl (by kernel_rfl) (fun K hK => ?_)
          go_simp
          refine hK.out _ _ ?_ (fun hHeld => ?_)
          · (try dsimp only) <;> (first | exact ⟨x0, x1, x2⟩ | exact hHeld | exact ⟨hg6.cell (a := ⟨wr.heap.size, 0, none⟩) hHeld.1 (fun e => hnw e.symm), hg6.cell (a := ⟨wr.heap.size, 1, none⟩) hHeld.2.1 (fun e => hnw e.symm), hg6.cell (a := ⟨wr.heap.size, 2, none⟩) hHeld.2.2 (fun e => hnw e.symm)⟩ | exact ⟨old_cell hb5 hHeld.1, old_cell hb5 hHeld.2.1, old_cell hb5 hHeld.2.2⟩ | exact ⟨cell_other hHeld.1 (by simp; omega), cell_other hHeld.2.1 (by simp; omega), cell_other hHeld.2.2 (by simp; omega)⟩ | exact ⟨old_cell (bel_alloc (bel_refl _) _) hHeld.1, old_cell (bel_alloc (bel_refl _) _) hHeld.2.1, old_cell (bel_alloc (bel_refl _) _) hHeld.2.2⟩)
          clear hK K
          try simp only [Act.put, List.setIfInBounds_toArray, List.set_cons_zero, List.set_cons_succ]
          refine wpAnyH_done (by kernel_rfl) ?_ _
          have HB7 := HB6.set_ 0 (.slice A6 (k + 1) c6)
          have HZ7 := HZ6.far (p := ⟨w.heap.size + 2, 0, none⟩) (by simp) (.slice A6 (k + 1) c6)
          have hoi7 := hoi6.low (p := ⟨w.heap.size + 2, 0, none⟩) (by simp) (.slice A6 (k + 1) c6)
          have hb7 : Below w.heap.size w (w6.setCell ⟨w.heap.size + 2, 0, none⟩ (.slice A6 (k + 1) c6)) := bel_set ((bel_alloc (bel_trans (bel_drew hbel) hb5) _).trans (hb6.mono (by omega))) (by simp) _
          go_wp2
          go_roundw
          case rel => exact ⟨k + 1, A6, c6, qs ++ [⟨id, kd, A5, c5, fs⟩], by omega, by go_num, hl6, by rw [List.map_append, HQM.out, List.take_succ_eq_append_getElem hkl, List.map_append, HE.out]; rfl, hc6, by simpa using HB7, HZ7, hoi7, hb7, by simp; omega⟩
          case measure => simp [intOf]; omega
        · rw [if_pos (by kernel_rfl)]
          go_simp
          refine hK.out _ _ ?_ (fun hHeld => ?_)
          · (try dsimp only) <;> (first | exact ⟨x0, x1, x2⟩ | exact hHeld | exact ⟨hg6.cell (a := ⟨wr.heap.size, 0, none⟩) hHeld.1 (fun e => hnw e.symm), hg6.cell (a := ⟨wr.heap.size, 1, none⟩) hHeld.2.1 (fun e => hnw e.symm), hg6.cell (a := ⟨wr.heap.size, 2, none⟩) hHeld.2.2 (fun e => hnw e.symm)⟩ | exact ⟨old_cell hb5 hHeld.1, old_cell hb5 hHeld.2.1, old_cell hb5 hHeld.2.2⟩ | exact ⟨cell_other hHeld.1 (by simp; omega), cell_other hHeld.2.1 (by simp; omega), cell_other hHeld.2.2 (by simp; omega)⟩ | exact ⟨old_cell (bel_alloc (bel_refl _) _) hHeld.1, old_cell (bel_alloc (bel_refl _) _) hHeld.2.1, old_cell (bel_alloc (bel_refl _) _) hHeld.2.2⟩)
          clear hK K
          try simp only [Act.put, List.setIfInBounds_toArray, List.set_cons_zero, List.set_cons_succ]
          refine h_call 1 (by kernel_rfl) rfl (by kernel_rfl) (fun K hK => ?_)
          go_simp
          refine hK.out _ _ ?_ (fun hHeld => ?_)
          · (try dsimp only) <;> (first | exact ⟨x0, x1, x2⟩ | exact hHeld | exact ⟨hg6.cell (a := ⟨wr.heap.size, 0, none⟩) hHeld.1 (fun e => hnw e.symm), hg6.cell (a := ⟨wr.heap.size, 1, none⟩) hHeld.2.1 (fun e => hnw e.symm), hg6.cell (a := ⟨wr.heap.size, 2, none⟩) hHeld.2.2 (fun e => hnw e.symm)⟩ | exact ⟨old_cell hb5 hHeld.1, old_cell hb5 hHeld.2.1, old_cell hb5 hHeld.2.2⟩ | exact ⟨cell_other hHeld.1 (by simp; omega), cell_other hHeld.2.1 (by simp; omega), cell_other hHeld.2.2 (by simp; omega)⟩ | exact ⟨old_cell (bel_alloc (bel_refl _) _) hHeld.1, old_cell (bel_alloc (bel_refl _) _) hHeld.2.1, old_cell (bel_alloc (bel_refl _) _) hHeld.2.2⟩)
          clear hK K
          try simp only [Act.put, List.setIfInBounds_toArray, List.set_cons_zero, List.set_cons_succ]
          refine h_call 9 (by kernel_rfl) rfl (by kernel_rfl) (fun K hK => ?_)
          refine appG (.tmp 17) (.tmp 24) _ rfl irC_sz (w.heap.size + 3) 55 i0 Try.underlying30 HI.out hz0 hz1 hz2 rfl (by omega) _ qs rfl (hoi5.1.alloc _) _ 1 1 [⟨id, kd, A5, c5, fs⟩] rfl (RdT.new1 irC_sz w5 55 ⟨id, kd, A5, c5, fs⟩) (irC_one _) (by have := HQL.out; omega) (by simp; omega) ?_ (by have := HQL.out; omega)
          intro v' w6 ho6 hb6 hg6
          have hoi6 := OwnI.snoc (hoi5.alloc _) (OwnT.alloc (OwnT.lower ho5 (by simp; omega)) _) hfr ho6 hg6
          have hl6 : (qs ++ [(⟨id, kd, A5, c5, fs⟩ : IR)]).length = k + 1 := by rw [List.length_append, HQL.out]; rfl
          obtain ⟨A6, c6, hv6, hc6⟩ := hoi6.form
          rw [hl6] at hv6 hc6
          subst hv6
          have HB6 := blkB (HB5.alloc _) hb6 (by omega)
          have HZ6 := blkB (HZ5.alloc _) hb6 (by omega)
          have hs6 := hg6.size
          simp at hs6
          obtain ⟨r0, r1, r2, r3⟩ := HB6.two
          change K (Act.put _ (some 25) _) _
          refine hK.out _ _ ?_ (fun hHeld => ?_)
          · (try dsimp only) <;> (first | exact ⟨x0, x1, x2⟩ | exact hHeld | exact ⟨hg6.cell (a := ⟨wr.heap.size, 0, none⟩) hHeld.1 (fun e => hnw e.symm), hg6.cell (a := ⟨wr.heap.size, 1, none⟩) hHeld.2.1 (fun e => hnw e.symm), hg6.cell (a := ⟨wr.heap.size, 2, none⟩) hHeld.2.2 (fun e => hnw e.symm)⟩ | exact ⟨old_cell hb5 hHeld.1, old_cell hb5 hHeld.2.1, old_cell hb5 hHeld.2.2⟩ | exact ⟨cell_other hHeld.1 (by simp; omega), cell_other hHeld.2.1 (by simp; omega), cell_other hHeld.2.2 (by simp; omega)⟩ | exact ⟨old_cell (bel_alloc (bel_refl _) _) hHeld.1, old_cell (bel_alloc (bel_refl _) _) hHeld.2.1, old_cell (bel_alloc (bel_refl _) _) hHeld.2.2⟩)
          clear hK K
          try simp only [Act.put, List.setIfInBounds_toArray, List.set_cons_zero, List.set_cons_succ]
          refine h_take 10 (some 26) (?_) rfl rfl (by kernel_rfl) (by kernel_rfl) (by kernel_rfl) (fun _ _ _ h => h) (by kernel_rfl) ?_ (by assumption) ?_
          rotate_left
          · intro w hSw; (try dsimp only at hSw); go_simp
            all_goals first | with_reducible rfl | omega | (simp; omega)
          try simp only [Act.put, List.setIfInBounds_toArray, List.set_cons_zero, List.set_cons_succ]
          refine h_call 11 (by kernel_rfl) rfl (by kernel_rfl) (fun K hK => ?_)
          go_simp
          refine hK.out _ _ ?_ (fun hHeld => ?_)
          · (try dsimp only) <;> (first | exact ⟨x0, x1, x2⟩ | exact hHeld | exact ⟨hg6.cell (a := ⟨wr.heap.size, 0, none⟩) hHeld.1 (fun e => hnw e.symm), hg6.cell (a := ⟨wr.heap.size, 1, none⟩) hHeld.2.1 (fun e => hnw e.symm), hg6.cell (a := ⟨wr.heap.size, 2, none⟩) hHeld.2.2 (fun e => hnw e.symm)⟩ | exact ⟨old_cell hb5 hHeld.1, old_cell hb5 hHeld.2.1, old_cell hb5 hHeld.2.2⟩ | exact ⟨cell_other hHeld.1 (by simp; omega), cell_other hHeld.2.1 (by simp; omega), cell_other hHeld.2.2 (by simp; omega)⟩ | exact ⟨old_cell (bel_alloc (bel_refl _) _) hHeld.1, old_cell (bel_alloc (bel_refl _) _) hHeld.2.1, old_cell (bel_alloc (bel_refl _) _) hHeld.2.2⟩)
          clear hK K
          try simp only [Act.put, List.setIfInBounds_toArray, List.set_cons_zero, List.set_cons_succ]
          refine wpAnyH_done (by kernel_rfl) ?_ _
          have HB7 := HB6.set_ 0 (.slice A6 (k + 1) c6)
          have HZ7 := HZ6.far (p := ⟨w.heap.size + 2, 0, none⟩) (by simp) (.slice A6 (k + 1) c6)
          have hoi7 := hoi6.low (p := ⟨w.heap.size + 2, 0, none⟩) (by simp) (.slice A6 (k + 1) c6)
          have hb7 : Below w.heap.size w (w6.setCell ⟨w.heap.size + 2, 0, none⟩ (.slice A6 (k + 1) c6)) := bel_set ((bel_alloc (bel_trans (bel_drew hbel) hb5) _).trans (hb6.mono (by omega))) (by simp) _
          go_wp2
          go_roundw
          case rel => exact ⟨k + 1, A6, c6, qs ++ [⟨id, kd, A5, c5, fs⟩], by omega, by go_num, hl6, by rw [List.map_append, HQM.out, List.take_succ_eq_append_getElem hkl, List.map_append, HE.out]; rfl, hc6, by simpa using HB7, HZ7, hoi7, hb7, by simp; omega⟩
          case measure => simp [intOf]; omega
    · obtain ⟨z0, z1, z2, z3⟩ := HZk.two
      obtain ⟨y0, y1, y2, y3⟩ := HBk.two
      have hkn : k = n := by omega
      have hfin : qs.map itOf = rs.map itOf := by rw [HQM.out, List.take_of_length_le (by rw [HL.out]; omega)]
      have HFIN := Lib.hid hfin; clear hfin hkn
      go_wp2
      refine bodyPost_ret (v := .agg #[.slice A' k c', .int .i64 nx]) (by simp [results, Try.results40, go_sem, z0, z1]) rfl ⟨A', c', qs, by rw [HQL.out], by rw [HQL.out]; exact hkc, HFIN.out, ?_, (by repeat (first | with_reducible exact bel_refl _ | with_reducible assumption | with_reducible refine bel_set ?_ (by first | (simp; done) | (simp; omega) | omega) _ | with_reducible refine bel_alloc ?_ _ | with_reducible refine bel_drew ?_ | with_reducible refine bel_drewN ?_ _ | with_reducible refine bel_trans ?_ (by assumption)))⟩
      rw [HQL.out]
      exact ((ho.low (by first | (simp; done) | (simp; omega)) _).low (by first | (simp; done) | (simp; omega)) _).lower (by omega)
end Go.Proofs.Ytndhjijcicebkaa
