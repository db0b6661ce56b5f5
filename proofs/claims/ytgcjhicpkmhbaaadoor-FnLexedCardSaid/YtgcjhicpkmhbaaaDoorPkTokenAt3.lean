import Derived.Test.YtgcjhicpkmhbaaaDoorPkTokenAt2
import Derived.Test.YtgcjhicpkmhbaaaDoorPkParseVal
/- What begins at a place of a text, by the program: a number; and all cases in one. Conditions: lengths; the library's variables. -/
namespace Go.Proofs.YtgcjhicpkmhbaaaDoor
open Go.RowKit
set_option maxRecDepth 100000
set_option maxHeartbeats 4000000
theorem tokenAtD1_any (s : ByteArray) (at_ R : Nat) (m : Int) (w : World) (hs : s.size ≤ 1048576) (ha : at_ < s.size) (hd : digit s[at_].toNat = true) (hR : at_ + runL digB (s.data.toList.drop at_) = R) (hm : numOf (s.extract at_ R).data.toList = m) (hk : numok (s.extract at_ R).data.toList = true) (ht : TabT w) (hv : VarE w) (tb : Bool) (htb : tokenOk ⟨1, m, ⟨#[]⟩⟩ = tb) :
    Calls Tryd.prog 23 #[.string s, .int .i64 at_] w fun e w' => e = .returned (tupA ⟨1, m, ⟨#[]⟩⟩ R tb) ∧ Below w.heap.size w w' := by
  have hb := byte_le s[at_]
  have hl : runL digB (s.data.toList.drop at_) ≤ s.size - at_ := run_leS _ _ _
  have hle : at_ ≤ R := by omega
  have hle2 : R ≤ s.size := by omega
  have hez : (s.extract at_ R).size ≤ 1048576 := by rw [ByteArray.size_extract]; omega
  have HRR := Lib.hid hR; have HD := Lib.hid hd; have HM := Lib.hid hm; have HK := Lib.hid hk; have HTB := Lib.hid htb; have HTT := Lib.hid ht; have HVV := Lib.hid hv
  clear hR hd hm hk ht hv hl htb
  go_enter Tryd.func23, Tryd.ntmps23
  go_upto_region 5 with (first | (go_at_call 49; refine (isDigit_any _ _).mono ?_; rw [HD.out]; rintro e w' ⟨rfl, rfl⟩) | (go_at_call 21; refine (runEndD_any s at_ R _ hs (by omega) HRR.out).mono ?_; rintro e w' ⟨rfl, rfl⟩) | (go_at_call 50; refine (parseNumberB_any _ _ (by omega) (HTT.out.kept (by repeat (first | with_reducible exact bel_refl _ | with_reducible assumption | with_reducible refine bel_set ?_ (by first | (simp; done) | (simp; omega) | omega) _ | with_reducible refine bel_alloc ?_ _ | with_reducible refine bel_drew ?_ | with_reducible refine bel_drewN ?_ _ | with_reducible refine bel_trans ?_ (by assumption)))) (HVV.out.kept (by repeat (first | with_reducible exact bel_refl _ | with_reducible assumption | with_reducible refine bel_set ?_ (by first | (simp; done) | (simp; omega) | omega) _ | with_reducible refine bel_alloc ?_ _ | with_reducible refine bel_drew ?_ | with_reducible refine bel_drewN ?_ _ | with_reducible refine bel_trans ?_ (by assumption))))).mono ?_; rw [HM.out, HK.out]; rintro e w1 ⟨rfl, hb1⟩))
  have HZ1 : Blk w1 w.heap.size 34 #[.int .i64 0, .int .i64 0, .string ⟨#[]⟩] := (Blk.new w _ _).kept hb1
  have g1 : Below w.heap.size w w1 := (by repeat (first | with_reducible exact bel_refl _ | with_reducible assumption | with_reducible refine bel_set ?_ (by first | (simp; done) | (simp; omega) | omega) _ | with_reducible refine bel_alloc ?_ _ | with_reducible refine bel_drew ?_ | with_reducible refine bel_drewN ?_ _ | with_reducible refine bel_trans ?_ (by assumption)))
  have hw1 : w.heap.size < w1.heap.size := HZ1.lt
  clear hb1
  go_upto_region 6 with fail
  generalize hwz : w1.alloc (.cells #[.int .i64 1, .int .i64 m, .string ⟨#[]⟩] 34) = wz
  have HZ : Blk wz w.heap.size 34 #[.int .i64 0, .int .i64 0, .string ⟨#[]⟩] := by rw [← hwz]; exact HZ1.alloc _
  have HT3 : Blk wz w1.heap.size 34 #[.int .i64 1, .int .i64 m, .string ⟨#[]⟩] := by rw [← hwz]; exact Blk.new w1 34 #[.int .i64 1, .int .i64 m, .string ⟨#[]⟩]
  have gz : Below w.heap.size w wz := by rw [← hwz]; exact bel_alloc g1 _
  clear hwz
  obtain ⟨z0, z1, z2, _, _, _⟩ := HT3.three
  refine wp_region_held_drew (S := (fun w' => Below w.heap.size w w' ∧ w'.cell? ⟨w1.heap.size, 0, none⟩ = some (.int .i64 1) ∧ w'.cell? ⟨w1.heap.size, 1, none⟩ = some (.int .i64 m) ∧ w'.cell? ⟨w1.heap.size, 2, none⟩ = some (.string ⟨#[]⟩))) (by kernel_rfl) ?_ (fun hHeld => ?_)
  · (try dsimp only) <;> ((refine ⟨?_, ?_, ?_, ?_⟩ <;> first | exact z0 | exact z1 | exact z2 | exact bel_drew gz | exact u0 | exact u1 | exact u2 | exact gy | exact bel_set (bel_set (bel_set gy (Nat.le_refl _) _) (Nat.le_refl _) _) (Nat.le_refl _) _ | (rw [World.cell?_setCell_far _ _ _ _ (by simp; omega), World.cell?_setCell_far _ _ _ _ (by simp; omega), World.cell?_setCell_far _ _ _ _ (by simp; omega)]; first | exact u0 | exact u1 | exact u2) | (change World.cell? (World.setCell (World.setCell (World.setCell wz _ _) _ _) _ _) _ = _; rw [World.cell?_setCell_far _ _ _ _ (by simp; omega), World.cell?_setCell_far _ _ _ _ (by simp; omega), World.cell?_setCell_far _ _ _ _ (by simp; omega)]; first | exact u0 | exact u1 | exact u2)))
  refine h_take 0 (some 39) (?_) rfl rfl (by kernel_rfl) (by kernel_rfl) (by kernel_rfl) (fun _ _ _ h => h) (by kernel_rfl) ?_ (by assumption) ?_
  rotate_left
  · intro w hSw; (try dsimp only at hSw); go_simp
    all_goals first | with_reducible rfl | omega | (simp; omega)
  try simp only [Act.put, List.setIfInBounds_toArray, List.set_cons_zero, List.set_cons_succ]
  refine h_take 1 (some 40) (?_) rfl rfl (by kernel_rfl) (by kernel_rfl) (by kernel_rfl) (fun _ _ _ h => h) (by kernel_rfl) ?_ (by assumption) ?_
  rotate_left
  · intro w hSw; (try dsimp only at hSw); go_simp
    all_goals first | with_reducible rfl | omega | (simp; omega)
  try simp only [Act.put, List.setIfInBounds_toArray, List.set_cons_zero, List.set_cons_succ]
  refine h_take 2 (some 41) (.bool true) rfl rfl (by kernel_rfl) (by kernel_rfl) (by kernel_rfl) (fun _ _ _ h => h) (by kernel_rfl) ?_ (by assumption) ?_
  · intro w hSw; (try dsimp only at hSw); go_simp
    all_goals first | with_reducible rfl | omega | (simp; omega)
  try simp only [Act.put, List.setIfInBounds_toArray, List.set_cons_zero, List.set_cons_succ]
  refine h_take 3 (some 42) (.bool true) rfl rfl (by kernel_rfl) (by kernel_rfl) (by kernel_rfl) (fun _ _ _ h => h) (by kernel_rfl) ?_ (by assumption) ?_
  · intro w hSw; (try dsimp only at hSw); go_simp
    all_goals first | with_reducible rfl | omega | (simp; omega)
  try simp only [Act.put, List.setIfInBounds_toArray, List.set_cons_zero, List.set_cons_succ]
  refine h_take 4 (some 43) (?_) rfl rfl (by kernel_rfl) (by kernel_rfl) (by kernel_rfl) (fun _ _ _ h => h) (by kernel_rfl) ?_ (by assumption) ?_
  rotate_left
  · intro w hSw; (try dsimp only at hSw); go_simp
    all_goals first | with_reducible rfl | omega | (simp; omega)
  try simp only [Act.put, List.setIfInBounds_toArray, List.set_cons_zero, List.set_cons_succ]
  refine h_call 5 (by kernel_rfl) rfl (by kernel_rfl) (fun K hK => ?_)
  go_simp
  refine (implTokenOk_any 1 m ⟨#[]⟩ _ (Nat.zero_le _)).mono ?_
  rw [HTB.out]
  rintro e wy ⟨rfl, hb⟩
  have hbz : Below wz.heap.size wz wy := bel_trans (bel_drew (bel_refl _)) hb
  have gy := bel_trans gz hbz
  have HZy := HZ.kept hbz
  obtain ⟨y0, y1, y2, y3, y4, y5⟩ := HZy.three
  have u0 := old_cell hbz z0
  have u1 := old_cell hbz z1
  have u2 := old_cell hbz z2
  have hzl := HZy.lt
  refine hK.out _ _ ?_ (fun hHeld => ?_)
  · (try dsimp only) <;> ((refine ⟨?_, ?_, ?_, ?_⟩ <;> first | exact z0 | exact z1 | exact z2 | exact bel_drew gz | exact u0 | exact u1 | exact u2 | exact gy | exact bel_set (bel_set (bel_set gy (Nat.le_refl _) _) (Nat.le_refl _) _) (Nat.le_refl _) _ | (rw [World.cell?_setCell_far _ _ _ _ (by simp; omega), World.cell?_setCell_far _ _ _ _ (by simp; omega), World.cell?_setCell_far _ _ _ _ (by simp; omega)]; first | exact u0 | exact u1 | exact u2) | (change World.cell? (World.setCell (World.setCell (World.setCell wz _ _) _ _) _ _) _ = _; rw [World.cell?_setCell_far _ _ _ _ (by simp; omega), World.cell?_setCell_far _ _ _ _ (by simp; omega), World.cell?_setCell_far _ _ _ _ (by simp; omega)]; first | exact u0 | exact u1 | exact u2)))
  clear hK K
  try simp only [Act.put, List.setIfInBounds_toArray, List.set_cons_zero, List.set_cons_succ]
  refine h_take 6 (some 45) (?_) rfl rfl (by kernel_rfl) (by kernel_rfl) (by kernel_rfl) (fun _ _ _ h => h) (by kernel_rfl) ?_ (by assumption) ?_
  rotate_left
  · intro w hSw; (try dsimp only at hSw); go_simp
    all_goals first | with_reducible rfl | omega | (simp; omega)
  try simp only [Act.put, List.setIfInBounds_toArray, List.set_cons_zero, List.set_cons_succ]
  refine h_call 7 (by kernel_rfl) rfl (by kernel_rfl) (fun K hK => ?_)
  go_simp
  refine hK.out _ _ ?_ (fun hHeld => ?_)
  · (try dsimp only) <;> ((refine ⟨?_, ?_, ?_, ?_⟩ <;> first | exact z0 | exact z1 | exact z2 | exact bel_drew gz | exact u0 | exact u1 | exact u2 | exact gy | exact bel_set (bel_set (bel_set gy (Nat.le_refl _) _) (Nat.le_refl _) _) (Nat.le_refl _) _ | (rw [World.cell?_setCell_far _ _ _ _ (by simp; omega), World.cell?_setCell_far _ _ _ _ (by simp; omega), World.cell?_setCell_far _ _ _ _ (by simp; omega)]; first | exact u0 | exact u1 | exact u2) | (change World.cell? (World.setCell (World.setCell (World.setCell wz _ _) _ _) _ _) _ = _; rw [World.cell?_setCell_far _ _ _ _ (by simp; omega), World.cell?_setCell_far _ _ _ _ (by simp; omega), World.cell?_setCell_far _ _ _ _ (by simp; omega)]; first | exact u0 | exact u1 | exact u2)))
  clear hK K
  try simp only [Act.put, List.setIfInBounds_toArray, List.set_cons_zero, List.set_cons_succ]
  refine h_take 8 (some 5) (?_) rfl rfl (by kernel_rfl) (by kernel_rfl) (by kernel_rfl) (fun _ _ _ h => h) (by kernel_rfl) ?_ (by assumption) ?_
  rotate_left
  · intro w hSw; (try dsimp only at hSw); go_simp
    all_goals first | with_reducible rfl | omega | (simp; omega)
  try simp only [Act.put, List.setIfInBounds_toArray, List.set_cons_zero, List.set_cons_succ]
  refine h_take 9 (some 6) (?_) rfl rfl (by kernel_rfl) (by kernel_rfl) (by kernel_rfl) (fun _ _ _ h => h) (by kernel_rfl) ?_ (by assumption) ?_
  rotate_left
  · intro w hSw; (try dsimp only at hSw); go_simp
    all_goals first | with_reducible rfl | omega | (simp; omega)
  try simp only [Act.put, List.setIfInBounds_toArray, List.set_cons_zero, List.set_cons_succ]
  refine wpAnyH_done (by kernel_rfl) ?_ _
  go_wp2
  refine bodyPost_ret (v := tupA ⟨1, m, ⟨#[]⟩⟩ R tb) (by simp [results, Tryd.results23, go_sem, tupA, y0, y1, y2]) rfl ⟨rfl, And.left hHeld⟩
theorem tokenAtD0_any (s : ByteArray) (at_ R : Nat) (m : Int) (w : World) (hs : s.size ≤ 1048576) (ha : at_ < s.size) (hd : digit s[at_].toNat = true) (hR : at_ + runL digB (s.data.toList.drop at_) = R) (hm : numOf (s.extract at_ R).data.toList = m) (hk : numok (s.extract at_ R).data.toList = false) (ht : TabT w) (hv : VarE w) :
    Calls Tryd.prog 23 #[.string s, .int .i64 at_] w fun e w' => e = .returned (tupA ⟨1, m, ⟨#[]⟩⟩ R false) ∧ Below w.heap.size w w' := by
  have hb := byte_le s[at_]
  have hl : runL digB (s.data.toList.drop at_) ≤ s.size - at_ := run_leS _ _ _
  have hle : at_ ≤ R := by omega
  have hle2 : R ≤ s.size := by omega
  have hez : (s.extract at_ R).size ≤ 1048576 := by rw [ByteArray.size_extract]; omega
  have HRR := Lib.hid hR; have HD := Lib.hid hd; have HM := Lib.hid hm; have HK := Lib.hid hk; have HTT := Lib.hid ht; have HVV := Lib.hid hv
  clear hR hd hm hk ht hv hl
  go_enter Tryd.func23, Tryd.ntmps23
  go_upto_region 5 with (first | (go_at_call 49; refine (isDigit_any _ _).mono ?_; rw [HD.out]; rintro e w' ⟨rfl, rfl⟩) | (go_at_call 21; refine (runEndD_any s at_ R _ hs (by omega) HRR.out).mono ?_; rintro e w' ⟨rfl, rfl⟩) | (go_at_call 50; refine (parseNumberB_any _ _ (by omega) (HTT.out.kept (by repeat (first | with_reducible exact bel_refl _ | with_reducible assumption | with_reducible refine bel_set ?_ (by first | (simp; done) | (simp; omega) | omega) _ | with_reducible refine bel_alloc ?_ _ | with_reducible refine bel_drew ?_ | with_reducible refine bel_drewN ?_ _ | with_reducible refine bel_trans ?_ (by assumption)))) (HVV.out.kept (by repeat (first | with_reducible exact bel_refl _ | with_reducible assumption | with_reducible refine bel_set ?_ (by first | (simp; done) | (simp; omega) | omega) _ | with_reducible refine bel_alloc ?_ _ | with_reducible refine bel_drew ?_ | with_reducible refine bel_drewN ?_ _ | with_reducible refine bel_trans ?_ (by assumption))))).mono ?_; rw [HM.out, HK.out]; rintro e w1 ⟨rfl, hb1⟩))
  have HZ1 : Blk w1 w.heap.size 34 #[.int .i64 0, .int .i64 0, .string ⟨#[]⟩] := (Blk.new w _ _).kept hb1
  have g1 : Below w.heap.size w w1 := (by repeat (first | with_reducible exact bel_refl _ | with_reducible assumption | with_reducible refine bel_set ?_ (by first | (simp; done) | (simp; omega) | omega) _ | with_reducible refine bel_alloc ?_ _ | with_reducible refine bel_drew ?_ | with_reducible refine bel_drewN ?_ _ | with_reducible refine bel_trans ?_ (by assumption)))
  have hw1 : w.heap.size < w1.heap.size := HZ1.lt
  clear hb1
  go_upto_region 6 with fail
  generalize hwz : w1.alloc (.cells #[.int .i64 1, .int .i64 m, .string ⟨#[]⟩] 34) = wz
  have HZ : Blk wz w.heap.size 34 #[.int .i64 0, .int .i64 0, .string ⟨#[]⟩] := by rw [← hwz]; exact HZ1.alloc _
  have HT3 : Blk wz w1.heap.size 34 #[.int .i64 1, .int .i64 m, .string ⟨#[]⟩] := by rw [← hwz]; exact Blk.new w1 34 #[.int .i64 1, .int .i64 m, .string ⟨#[]⟩]
  have gz : Below w.heap.size w wz := by rw [← hwz]; exact bel_alloc g1 _
  clear hwz
  obtain ⟨z0, z1, z2, _, _, _⟩ := HT3.three
  have gy : Below w.heap.size w wz.drew := bel_drew gz
  obtain ⟨y0, y1, y2, y3, y4, y5⟩ := HZ.three
  have u0 := z0
  have u1 := z1
  have u2 := z2
  have hzl := HZ.lt
  refine wp_region_held_drew (S := (fun w' => Below w.heap.size w w' ∧ w'.cell? ⟨w1.heap.size, 0, none⟩ = some (.int .i64 1) ∧ w'.cell? ⟨w1.heap.size, 1, none⟩ = some (.int .i64 m) ∧ w'.cell? ⟨w1.heap.size, 2, none⟩ = some (.string ⟨#[]⟩))) (by kernel_rfl) ?_ (fun hHeld => ?_)
  · (try dsimp only) <;> ((refine ⟨?_, ?_, ?_, ?_⟩ <;> first | exact z0 | exact z1 | exact z2 | exact bel_drew gz | exact u0 | exact u1 | exact u2 | exact gy | exact bel_set (bel_set (bel_set gy (Nat.le_refl _) _) (Nat.le_refl _) _) (Nat.le_refl _) _ | (rw [World.cell?_setCell_far _ _ _ _ (by simp; omega), World.cell?_setCell_far _ _ _ _ (by simp; omega), World.cell?_setCell_far _ _ _ _ (by simp; omega)]; first | exact u0 | exact u1 | exact u2) | (change World.cell? (World.setCell (World.setCell (World.setCell wz _ _) _ _) _ _) _ = _; rw [World.cell?_setCell_far _ _ _ _ (by simp; omega), World.cell?_setCell_far _ _ _ _ (by simp; omega), World.cell?_setCell_far _ _ _ _ (by simp; omega)]; first | exact u0 | exact u1 | exact u2)))
  refine h_take 0 (some 39) (?_) rfl rfl (by kernel_rfl) (by kernel_rfl) (by kernel_rfl) (fun _ _ _ h => h) (by kernel_rfl) ?_ (by assumption) ?_
  rotate_left
  · intro w hSw; (try dsimp only at hSw); go_simp
    all_goals first | with_reducible rfl | omega | (simp; omega)
  try simp only [Act.put, List.setIfInBounds_toArray, List.set_cons_zero, List.set_cons_succ]
  refine h_take 1 (some 40) (?_) rfl rfl (by kernel_rfl) (by kernel_rfl) (by kernel_rfl) (fun _ _ _ h => h) (by kernel_rfl) ?_ (by assumption) ?_
  rotate_left
  · intro w hSw; (try dsimp only at hSw); go_simp
    all_goals first | with_reducible rfl | omega | (simp; omega)
  try simp only [Act.put, List.setIfInBounds_toArray, List.set_cons_zero, List.set_cons_succ]
  refine h_take 2 (some 41) (.bool false) rfl rfl (by kernel_rfl) (by kernel_rfl) (by kernel_rfl) (fun _ _ _ h => h) (by kernel_rfl) ?_ (by assumption) ?_
  · intro w hSw; (try dsimp only at hSw); go_simp
    all_goals first | with_reducible rfl | omega | (simp; omega)
  try simp only [Act.put, List.setIfInBounds_toArray, List.set_cons_zero, List.set_cons_succ]
  refine h_take 3 (some 42) (.bool false) rfl rfl (by kernel_rfl) (by kernel_rfl) (by kernel_rfl) (fun _ _ _ h => h) (by kernel_rfl) ?_ (by assumption) ?_
  · intro w hSw; (try dsimp only at hSw); go_simp
    all_goals first | with_reducible rfl | omega | (simp; omega)
  try simp only [Act.put, List.setIfInBounds_toArray, List.set_cons_zero, List.set_cons_succ]
  refine h_skip 4 (some 43) rfl rfl (by kernel_rfl) (by kernel_rfl) (by kernel_rfl) (fun _ _ _ h => h) (by kernel_rfl) (by assumption) ?_
  try simp only [Act.put, List.setIfInBounds_toArray, List.set_cons_zero, List.set_cons_succ]
  refine h_skip 5 (some 44) rfl rfl (by kernel_rfl) (by kernel_rfl) (by kernel_rfl) (fun _ _ _ h => h) (by kernel_rfl) (by assumption) ?_
  try simp only [Act.put, List.setIfInBounds_toArray, List.set_cons_zero, List.set_cons_succ]
  refine h_take 6 (some 45) (.bool false) rfl rfl (by kernel_rfl) (by kernel_rfl) (by kernel_rfl) (fun _ _ _ h => h) (by kernel_rfl) ?_ (by assumption) ?_
  · intro w hSw; (try dsimp only at hSw); go_simp
    all_goals first | with_reducible rfl | omega | (simp; omega)
  try simp only [Act.put, List.setIfInBounds_toArray, List.set_cons_zero, List.set_cons_succ]
  refine h_call 7 (by kernel_rfl) rfl (by kernel_rfl) (fun K hK => ?_)
  go_simp
  refine hK.out _ _ ?_ (fun hHeld => ?_)
  · (try dsimp only) <;> ((refine ⟨?_, ?_, ?_, ?_⟩ <;> first | exact z0 | exact z1 | exact z2 | exact bel_drew gz | exact u0 | exact u1 | exact u2 | exact gy | exact bel_set (bel_set (bel_set gy (Nat.le_refl _) _) (Nat.le_refl _) _) (Nat.le_refl _) _ | (rw [World.cell?_setCell_far _ _ _ _ (by simp; omega), World.cell?_setCell_far _ _ _ _ (by simp; omega), World.cell?_setCell_far _ _ _ _ (by simp; omega)]; first | exact u0 | exact u1 | exact u2) | (change World.cell? (World.setCell (World.setCell (World.setCell wz _ _) _ _) _ _) _ = _; rw [World.cell?_setCell_far _ _ _ _ (by simp; omega), World.cell?_setCell_far _ _ _ _ (by simp; omega), World.cell?_setCell_far _ _ _ _ (by simp; omega)]; first | exact u0 | exact u1 | exact u2)))
  clear hK K
  try simp only [Act.put, List.setIfInBounds_toArray, List.set_cons_zero, List.set_cons_succ]
  refine h_take 8 (some 5) (?_) rfl rfl (by kernel_rfl) (by kernel_rfl) (by kernel_rfl) (fun _ _ _ h => h) (by kernel_rfl) ?_ (by assumption) ?_
  rotate_left
  · intro w hSw; (try dsimp only at hSw); go_simp
    all_goals first | with_reducible rfl | omega | (simp; omega)
  try simp only [Act.put, List.setIfInBounds_toArray, List.set_cons_zero, List.set_cons_succ]
  refine h_take 9 (some 6) (?_) rfl rfl (by kernel_rfl) (by kernel_rfl) (by kernel_rfl) (fun _ _ _ h => h) (by kernel_rfl) ?_ (by assumption) ?_
  rotate_left
  · intro w hSw; (try dsimp only at hSw); go_simp
    all_goals first | with_reducible rfl | omega | (simp; omega)
  try simp only [Act.put, List.setIfInBounds_toArray, List.set_cons_zero, List.set_cons_succ]
  refine wpAnyH_done (by kernel_rfl) ?_ _
  go_wp2
  refine bodyPost_ret (v := tupA ⟨1, m, ⟨#[]⟩⟩ R false) (by simp [results, Tryd.results23, go_sem, tupA, y0, y1, y2]) rfl ⟨rfl, And.left hHeld⟩
theorem run_mem {p : UInt8 → Bool} : ∀ {L : List UInt8}, ∀ b ∈ L.take (runL p L), p b = true
  | [], b, h => by simp at h
  | c :: t, b, h => by
    rw [runL] at h
    by_cases hp : p c = true
    · rw [if_pos hp, List.take_succ_cons] at h
      rcases List.mem_cons.1 h with rfl | h
      · exact hp
      · exact run_mem b h
    · rw [if_neg hp] at h
      simp at h
theorem pre_two (s : ByteArray) (a : Nat) (ha : a < s.size) : Lib.hasPrefix (s.extract a s.size).data.toList [45, 62] = decide (s[a] = 45 ∧ (s.data.toList.drop (a + 1)).head? = some 62) := by
  have e : (s.extract a s.size).data.toList = s[a] :: s.data.toList.drop (a + 1) := by
    rw [ext_list s a (s.size - a) _ (by omega), ← dropS ha, List.take_of_length_le (by rw [List.length_drop, size_data]; exact Nat.le_refl _)]
  rw [e, Bool.eq_iff_iff, decide_eq_true_eq]
  cases hd : s.data.toList.drop (a + 1) with
  | nil => simp [Lib.hasPrefix]
  | cons d t => simp [Lib.hasPrefix]; constructor <;> (rintro ⟨h1, h2⟩; exact ⟨h1.symm, h2.symm⟩)
theorem tokenAt_any (s : ByteArray) (at_ : Nat) (r : Vl × Nat) (b : Bool) (w : World) (hs : s.size ≤ 1048576) (ha : at_ < s.size) (hR : oneL (s.data.toList.drop at_) = r) (hb : tokenOk r.1 = b) (ht : TabT w) (hv : VarE w) :
    Calls Tryd.prog 23 #[.string s, .int .i64 at_] w fun e w' => ∃ (t : Vl) (e' : Int), e = .returned (tupA t e' b) ∧ (b = true → t = r.1 ∧ e' = ((at_ + r.2 : Nat) : Int)) ∧ Below w.heap.size w w' := by
  have hd := dropS ha
  have e39 := beq_byte s[at_] 39 39 rfl
  cases hdg : digit s[at_].toNat
  · cases hsm : small s[at_].toNat
    · cases hlg : large s[at_].toNat
      · cases hq : (s[at_] == 39)
        · rw [hq] at e39
          have h1 : oneL (s[at_] :: s.data.toList.drop (at_ + 1)) = if s[at_] = 45 ∧ (s.data.toList.drop (at_ + 1)).head? = some 62 then (⟨5, 0, ⟨#[45, 62]⟩⟩, 2) else (⟨5, 0, ⟨#[s[at_]]⟩⟩, 1) := by
            rw [oneL, hdg, hsm, hlg, if_neg (by simp), if_neg (by simp), if_neg (by simp), if_neg (by simpa using hq)]
          by_cases hc : s[at_] = 45 ∧ (s.data.toList.drop (at_ + 1)).head? = some 62
          · have hn : at_ + 1 < s.size := by
              rcases Nat.lt_or_ge (at_ + 1) s.size with h | h
              · exact h
              · have h2 := hc.2
                rw [List.drop_of_length_le (by rw [size_data]; exact h)] at h2
                cases h2
            have hx : s.extract at_ (at_ + 2) = ⟨#[45, 62]⟩ := by
              have h3 := hc.2
              rw [dropS hn, List.head?_cons] at h3
              injection h3 with h3
              rw [ext_take s at_ 2 _ rfl, dropS ha, dropS hn, hc.1, h3]
              rfl
            rw [hd, h1, if_pos hc] at hR
            subst hR
            refine (tokenAtM2_any s at_ w hs ha (by omega) hdg hsm hlg e39 (by rw [pre_two s at_ ha]; exact decide_eq_true hc) b (by rw [hx]; exact hb)).mono ?_
            rintro e w' ⟨rfl, hbel⟩
            exact ⟨_, _, rfl, fun _ => ⟨by rw [hx], by simp⟩, hbel⟩
          · have hx : s.extract at_ (at_ + 1) = ⟨#[s[at_]]⟩ := by
              rw [ext_take s at_ 1 _ rfl, dropS ha]
              rfl
            rw [hd, h1, if_neg hc] at hR
            subst hR
            refine (tokenAtM1_any s at_ w hs ha (by omega) hdg hsm hlg e39 (by rw [pre_two s at_ ha]; exact decide_eq_false hc) b (by rw [hx]; exact hb)).mono ?_
            rintro e w' ⟨rfl, hbel⟩
            exact ⟨_, _, rfl, fun _ => ⟨by rw [hx], by simp⟩, hbel⟩
        · rw [hq] at e39
          have h1 : oneL (s[at_] :: s.data.toList.drop (at_ + 1)) = if runL noQ (s.data.toList.drop (at_ + 1)) < (s.data.toList.drop (at_ + 1)).length then (⟨4, 0, bytesOf ((s.data.toList.drop (at_ + 1)).take (runL noQ (s.data.toList.drop (at_ + 1))))⟩, runL noQ (s.data.toList.drop (at_ + 1)) + 2) else (noTok, runL noQ (s.data.toList.drop (at_ + 1)) + 1) := by
            rw [oneL, hdg, hsm, hlg, if_neg (by simp), if_neg (by simp), if_neg (by simp), if_pos (by simpa using hq)]
          have hi := index_quote (s.data.toList.drop (at_ + 1))
          have hex : (s.extract (at_ + 1) s.size).data.toList = s.data.toList.drop (at_ + 1) := by
            rw [ext_list s (at_ + 1) (s.size - (at_ + 1)) _ (by omega), List.take_of_length_le (by rw [List.length_drop, size_data]; exact Nat.le_refl _)]
          obtain ⟨m, hm⟩ : ∃ m, runL noQ (s.data.toList.drop (at_ + 1)) = m := ⟨_, rfl⟩
          rw [hm] at h1 hi
          rw [List.length_drop, size_data] at h1 hi
          rw [← hex] at hi
          by_cases hlt : m < s.size - (at_ + 1)
          · rw [if_pos hlt] at hi h1
            rw [hd, h1] at hR
            subst hR
            have hx : s.extract (at_ + 1) (at_ + 1 + m) = bytesOf ((s.data.toList.drop (at_ + 1)).take m) := ext_take s (at_ + 1) m _ rfl
            refine (tokenAtQ_any s at_ m w hs ha (by omega) hdg hsm hlg e39 hi b (by rw [hx]; exact hb)).mono ?_
            rintro e w' ⟨rfl, hbel⟩
            exact ⟨_, _, rfl, fun _ => ⟨by rw [hx], by simp only []; omega⟩, hbel⟩
          · rw [if_neg hlt] at hi h1
            rw [hd, h1] at hR
            subst hR
            have hbf : b = false := by
              rw [← hb]
              show tokenOk noTok = false
              decide
            subst hbf
            refine (tokenAtU_any s at_ w hs ha hdg hsm hlg e39 hi).mono ?_
            rintro e w' ⟨rfl, hbel⟩
            exact ⟨_, _, rfl, fun h => (by cases h), hbel⟩
      · obtain ⟨R, hRR⟩ : ∃ R, at_ + runL larB (s.data.toList.drop at_) = R := ⟨_, rfl⟩
        rw [hd, oneL, hdg, hsm, hlg, if_neg (by simp), if_neg (by simp), if_pos rfl, ← hd, ← ext_take s at_ _ R hRR] at hR
        subst hR
        refine (tokenAtL_any s at_ R w hs ha hdg hsm hlg hRR b hb).mono ?_
        rintro e w' ⟨rfl, hbel⟩
        exact ⟨_, _, rfl, fun _ => ⟨rfl, by rw [← hRR]⟩, hbel⟩
    · obtain ⟨R, hRR⟩ : ∃ R, at_ + runL lett (s.data.toList.drop at_) = R := ⟨_, rfl⟩
      rw [hd, oneL, hdg, hsm, if_neg (by simp), if_pos rfl, ← hd, ← ext_take s at_ _ R hRR] at hR
      subst hR
      refine (tokenAtW_any s at_ R w hs ha hdg hsm hRR b hb).mono ?_
      rintro e w' ⟨rfl, hbel⟩
      exact ⟨_, _, rfl, fun _ => ⟨rfl, by rw [← hRR]⟩, hbel⟩
  · obtain ⟨R, hRR⟩ : ∃ R, at_ + runL digB (s.data.toList.drop at_) = R := ⟨_, rfl⟩
    have hmem : ∀ x ∈ (s.extract at_ R).data.toList, digB x = true := by
      rw [ext_list s at_ _ R hRR]
      exact run_mem
    obtain ⟨hw1, hw0⟩ := whole_ok hmem
    rw [hd, oneL, hdg, if_pos rfl, ← hd, ← ext_list s at_ _ R hRR] at hR
    subst hR
    cases hk : numok (s.extract at_ R).data.toList
    · have hbf : b = false := by
        rw [← hb]
        have := hw0 hk
        unfold tokenOk inB
        simp only [if_true]
        rw [decide_eq_false (by omega)]
        rfl
      subst hbf
      refine (tokenAtD0_any s at_ R _ w hs ha hdg hRR rfl hk ht hv).mono ?_
      rintro e w' ⟨rfl, hbel⟩
      exact ⟨_, _, rfl, fun h => (by cases h), hbel⟩
    · obtain ⟨_, hnw⟩ := hw1 hk
      refine (tokenAtD1_any s at_ R _ w hs ha hdg hRR hnw hk ht hv b hb).mono ?_
      rintro e w' ⟨rfl, hbel⟩
      exact ⟨_, _, rfl, fun _ => ⟨rfl, by rw [← hRR]⟩, hbel⟩
end Go.Proofs.YtgcjhicpkmhbaaaDoor
