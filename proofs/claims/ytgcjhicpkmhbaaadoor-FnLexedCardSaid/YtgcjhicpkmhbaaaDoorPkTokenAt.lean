import Derived.Test.YtgcjhicpkmhbaaaDoorPkRunEnd
import Derived.Test.YtgcjhicpkmhbaaaDoorPkParseNum2
import Derived.Test.YtgcjhicpkmhbaaaDoorPkLexOne
/- What begins at a place of a text, by the program. Conditions: lengths; the library's variables. -/
namespace Go.Proofs.YtgcjhicpkmhbaaaDoor
open Go.RowKit
set_option maxRecDepth 100000
set_option maxHeartbeats 4000000
def tupA (t : Vl) (e : Int) (b : Bool) : Value := .tuple #[.agg #[.int .i64 t.k, .int .i64 t.n, .string t.s], .int .i64 e, .bool b]
theorem tokenAtW_any (s : ByteArray) (at_ R : Nat) (w : World) (hs : s.size ≤ 1048576) (ha : at_ < s.size) (hd : digit s[at_].toNat = false) (hm : small s[at_].toNat = true) (hR : at_ + runL lett (s.data.toList.drop at_) = R) (tb : Bool) (htb : tokenOk ⟨2, 0, s.extract at_ R⟩ = tb) :
    Calls Tryd.prog 23 #[.string s, .int .i64 at_] w fun e w' => e = .returned (tupA ⟨2, 0, s.extract at_ R⟩ R tb) ∧ Below w.heap.size w w' := by
  have hb := byte_le s[at_]
  have hl : runL lett (s.data.toList.drop at_) ≤ s.size - at_ := run_leS _ _ _
  have hle : at_ ≤ R := by omega
  have hle2 : R ≤ s.size := by omega
  have hez : (s.extract at_ R).size ≤ 1048576 := by rw [ByteArray.size_extract]; omega
  have HRR := Lib.hid hR; have HD := Lib.hid hd; have HS := Lib.hid hm; have HTB := Lib.hid htb
  clear hR hd hm htb hl
  go_enter Tryd.func23, Tryd.ntmps23
  go_upto_region 10 with (first | (go_at_call 49; refine (isDigit_any _ _).mono ?_; rw [HD.out]; rintro e w' ⟨rfl, rfl⟩) | (go_at_call 51; refine (isSmall_any _ _).mono ?_; rw [HS.out]; rintro e w' ⟨rfl, rfl⟩) | (go_at_call 21; refine (runEndW_any s at_ R _ hs (by omega) HRR.out).mono ?_; rintro e w' ⟨rfl, rfl⟩))
  generalize hwz : (w.alloc (.cells #[.int .i64 0, .int .i64 0, .string ⟨#[]⟩] 34)).alloc (.cells #[.int .i64 2, .int .i64 0, .string (s.extract at_ R)] 34) = wz
  have HZ : Blk wz w.heap.size 34 #[.int .i64 0, .int .i64 0, .string ⟨#[]⟩] := by rw [← hwz]; exact (Blk.new w _ _).alloc _
  have HT3 : Blk wz (w.heap.size + 1) 34 #[.int .i64 2, .int .i64 0, .string (s.extract at_ R)] := by rw [← hwz]; have := Blk.new (w.alloc (.cells #[.int .i64 0, .int .i64 0, .string ⟨#[]⟩] 34)) 34 #[.int .i64 2, .int .i64 0, .string (s.extract at_ R)]; simpa using this
  have gz : Below w.heap.size w wz := by rw [← hwz]; exact bel_alloc (bel_alloc (bel_refl _) _) _
  clear hwz
  obtain ⟨z0, z1, z2, _, _, _⟩ := HT3.three
  refine wp_region_held_drew (S := (fun w' => Below w.heap.size w w' ∧ w'.cell? ⟨w.heap.size + 1, 0, none⟩ = some (.int .i64 2) ∧ w'.cell? ⟨w.heap.size + 1, 1, none⟩ = some (.int .i64 0) ∧ w'.cell? ⟨w.heap.size + 1, 2, none⟩ = some (.string (s.extract at_ R)))) (by kernel_rfl) ?_ (fun hHeld => ?_)
  · (try dsimp only) <;> ((refine ⟨?_, ?_, ?_, ?_⟩ <;> first | exact z0 | exact z1 | exact z2 | exact bel_drew gz | exact u0 | exact u1 | exact u2 | exact gy | exact bel_set (bel_set (bel_set gy (by simp) _) (by simp) _) (by simp) _ | (rw [World.cell?_setCell_far _ _ _ _ (by simp), World.cell?_setCell_far _ _ _ _ (by simp), World.cell?_setCell_far _ _ _ _ (by simp)]; first | exact u0 | exact u1 | exact u2)))
  refine h_take 0 (some 57) (?_) rfl rfl (by kernel_rfl) (by kernel_rfl) (by kernel_rfl) (fun _ _ _ h => h) (by kernel_rfl) ?_ (by assumption) ?_
  rotate_left
  · intro w hSw; (try dsimp only at hSw); go_simp
    all_goals first | with_reducible rfl | omega | (simp; omega)
  try simp only [Act.put, List.setIfInBounds_toArray, List.set_cons_zero, List.set_cons_succ]
  refine h_take 1 (some 58) (?_) rfl rfl (by kernel_rfl) (by kernel_rfl) (by kernel_rfl) (fun _ _ _ h => h) (by kernel_rfl) ?_ (by assumption) ?_
  rotate_left
  · intro w hSw; (try dsimp only at hSw); go_simp
    all_goals first | with_reducible rfl | omega | (simp; omega)
  try simp only [Act.put, List.setIfInBounds_toArray, List.set_cons_zero, List.set_cons_succ]
  refine h_take 2 (some 59) (?_) rfl rfl (by kernel_rfl) (by kernel_rfl) (by kernel_rfl) (fun _ _ _ h => h) (by kernel_rfl) ?_ (by assumption) ?_
  rotate_left
  · intro w hSw; (try dsimp only at hSw); go_simp
    all_goals first | with_reducible rfl | omega | (simp; omega)
  try simp only [Act.put, List.setIfInBounds_toArray, List.set_cons_zero, List.set_cons_succ]
  refine h_call 3 (by kernel_rfl) rfl (by kernel_rfl) (fun K hK => ?_)
  go_simp
  refine (implTokenOk_any 2 0 (s.extract at_ R) _ (by omega)).mono ?_
  rw [HTB.out]
  rintro e wy ⟨rfl, hb⟩
  have hbz : Below wz.heap.size wz wy := bel_trans (bel_drew (bel_refl _)) hb
  have gy := bel_trans gz hbz
  have HZy := HZ.kept hbz
  obtain ⟨y0, y1, y2, y3, y4, y5⟩ := HZy.three
  have u0 := old_cell hbz z0
  have u1 := old_cell hbz z1
  have u2 := old_cell hbz z2
  have hzl := HZy.lt
  refine hK.out _ _ ?_ (fun hHeld => ?_)
  · (try dsimp only) <;> ((refine ⟨?_, ?_, ?_, ?_⟩ <;> first | exact z0 | exact z1 | exact z2 | exact bel_drew gz | exact u0 | exact u1 | exact u2 | exact gy | exact bel_set (bel_set (bel_set gy (by simp) _) (by simp) _) (by simp) _ | (rw [World.cell?_setCell_far _ _ _ _ (by simp), World.cell?_setCell_far _ _ _ _ (by simp), World.cell?_setCell_far _ _ _ _ (by simp)]; first | exact u0 | exact u1 | exact u2)))
  clear hK K
  try simp only [Act.put, List.setIfInBounds_toArray, List.set_cons_zero, List.set_cons_succ]
  refine h_call 4 (by kernel_rfl) rfl (by kernel_rfl) (fun K hK => ?_)
  go_simp
  refine hK.out _ _ ?_ (fun hHeld => ?_)
  · (try dsimp only) <;> ((refine ⟨?_, ?_, ?_, ?_⟩ <;> first | exact z0 | exact z1 | exact z2 | exact bel_drew gz | exact u0 | exact u1 | exact u2 | exact gy | exact bel_set (bel_set (bel_set gy (by simp) _) (by simp) _) (by simp) _ | (rw [World.cell?_setCell_far _ _ _ _ (by simp), World.cell?_setCell_far _ _ _ _ (by simp), World.cell?_setCell_far _ _ _ _ (by simp)]; first | exact u0 | exact u1 | exact u2)))
  clear hK K
  try simp only [Act.put, List.setIfInBounds_toArray, List.set_cons_zero, List.set_cons_succ]
  refine h_take 5 (some 5) (?_) rfl rfl (by kernel_rfl) (by kernel_rfl) (by kernel_rfl) (fun _ _ _ h => h) (by kernel_rfl) ?_ (by assumption) ?_
  rotate_left
  · intro w hSw; (try dsimp only at hSw); go_simp
    all_goals first | with_reducible rfl | omega | (simp; omega)
  try simp only [Act.put, List.setIfInBounds_toArray, List.set_cons_zero, List.set_cons_succ]
  refine h_take 6 (some 6) (?_) rfl rfl (by kernel_rfl) (by kernel_rfl) (by kernel_rfl) (fun _ _ _ h => h) (by kernel_rfl) ?_ (by assumption) ?_
  rotate_left
  · intro w hSw; (try dsimp only at hSw); go_simp
    all_goals first | with_reducible rfl | omega | (simp; omega)
  try simp only [Act.put, List.setIfInBounds_toArray, List.set_cons_zero, List.set_cons_succ]
  refine wpAnyH_done (by kernel_rfl) ?_ _
  go_wp2
  refine bodyPost_ret (v := tupA ⟨2, 0, s.extract at_ R⟩ R tb) (by simp [results, Tryd.results23, go_sem, tupA, y0, y1, y2]) rfl ⟨rfl, And.left hHeld⟩
theorem tokenAtL_any (s : ByteArray) (at_ R : Nat) (w : World) (hs : s.size ≤ 1048576) (ha : at_ < s.size) (hd : digit s[at_].toNat = false) (hm : small s[at_].toNat = false) (hg : large s[at_].toNat = true) (hR : at_ + runL larB (s.data.toList.drop at_) = R) (tb : Bool) (htb : tokenOk ⟨3, 0, s.extract at_ R⟩ = tb) :
    Calls Tryd.prog 23 #[.string s, .int .i64 at_] w fun e w' => e = .returned (tupA ⟨3, 0, s.extract at_ R⟩ R tb) ∧ Below w.heap.size w w' := by
  have hb := byte_le s[at_]
  have hl : runL larB (s.data.toList.drop at_) ≤ s.size - at_ := run_leS _ _ _
  have hle : at_ ≤ R := by omega
  have hle2 : R ≤ s.size := by omega
  have hez : (s.extract at_ R).size ≤ 1048576 := by rw [ByteArray.size_extract]; omega
  have HRR := Lib.hid hR; have HD := Lib.hid hd; have HS := Lib.hid hm; have HG := Lib.hid hg; have HTB := Lib.hid htb
  clear hR hd hm hg htb hl
  go_enter Tryd.func23, Tryd.ntmps23
  go_upto_region 14 with (first | (go_at_call 49; refine (isDigit_any _ _).mono ?_; rw [HD.out]; rintro e w' ⟨rfl, rfl⟩) | (go_at_call 51; refine (isSmall_any _ _).mono ?_; rw [HS.out]; rintro e w' ⟨rfl, rfl⟩) | (go_at_call 53; refine (isLarge_any _ _).mono ?_; rw [HG.out]; rintro e w' ⟨rfl, rfl⟩) | (go_at_call 21; refine (runEndL_any s at_ R _ hs (by omega) HRR.out).mono ?_; rintro e w' ⟨rfl, rfl⟩))
  generalize hwz : (w.alloc (.cells #[.int .i64 0, .int .i64 0, .string ⟨#[]⟩] 34)).alloc (.cells #[.int .i64 3, .int .i64 0, .string (s.extract at_ R)] 34) = wz
  have HZ : Blk wz w.heap.size 34 #[.int .i64 0, .int .i64 0, .string ⟨#[]⟩] := by rw [← hwz]; exact (Blk.new w _ _).alloc _
  have HT3 : Blk wz (w.heap.size + 1) 34 #[.int .i64 3, .int .i64 0, .string (s.extract at_ R)] := by rw [← hwz]; have := Blk.new (w.alloc (.cells #[.int .i64 0, .int .i64 0, .string ⟨#[]⟩] 34)) 34 #[.int .i64 3, .int .i64 0, .string (s.extract at_ R)]; simpa using this
  have gz : Below w.heap.size w wz := by rw [← hwz]; exact bel_alloc (bel_alloc (bel_refl _) _) _
  clear hwz
  obtain ⟨z0, z1, z2, _, _, _⟩ := HT3.three
  refine wp_region_held_drew (S := (fun w' => Below w.heap.size w w' ∧ w'.cell? ⟨w.heap.size + 1, 0, none⟩ = some (.int .i64 3) ∧ w'.cell? ⟨w.heap.size + 1, 1, none⟩ = some (.int .i64 0) ∧ w'.cell? ⟨w.heap.size + 1, 2, none⟩ = some (.string (s.extract at_ R)))) (by kernel_rfl) ?_ (fun hHeld => ?_)
  · (try dsimp only) <;> ((refine ⟨?_, ?_, ?_, ?_⟩ <;> first | exact z0 | exact z1 | exact z2 | exact bel_drew gz | exact u0 | exact u1 | exact u2 | exact gy | exact bel_set (bel_set (bel_set gy (by simp) _) (by simp) _) (by simp) _ | (rw [World.cell?_setCell_far _ _ _ _ (by simp), World.cell?_setCell_far _ _ _ _ (by simp), World.cell?_setCell_far _ _ _ _ (by simp)]; first | exact u0 | exact u1 | exact u2)))
  refine h_take 0 (some 72) (?_) rfl rfl (by kernel_rfl) (by kernel_rfl) (by kernel_rfl) (fun _ _ _ h => h) (by kernel_rfl) ?_ (by assumption) ?_
  rotate_left
  · intro w hSw; (try dsimp only at hSw); go_simp
    all_goals first | with_reducible rfl | omega | (simp; omega)
  try simp only [Act.put, List.setIfInBounds_toArray, List.set_cons_zero, List.set_cons_succ]
  refine h_take 1 (some 73) (?_) rfl rfl (by kernel_rfl) (by kernel_rfl) (by kernel_rfl) (fun _ _ _ h => h) (by kernel_rfl) ?_ (by assumption) ?_
  rotate_left
  · intro w hSw; (try dsimp only at hSw); go_simp
    all_goals first | with_reducible rfl | omega | (simp; omega)
  try simp only [Act.put, List.setIfInBounds_toArray, List.set_cons_zero, List.set_cons_succ]
  refine h_take 2 (some 74) (?_) rfl rfl (by kernel_rfl) (by kernel_rfl) (by kernel_rfl) (fun _ _ _ h => h) (by kernel_rfl) ?_ (by assumption) ?_
  rotate_left
  · intro w hSw; (try dsimp only at hSw); go_simp
    all_goals first | with_reducible rfl | omega | (simp; omega)
  try simp only [Act.put, List.setIfInBounds_toArray, List.set_cons_zero, List.set_cons_succ]
  refine h_call 3 (by kernel_rfl) rfl (by kernel_rfl) (fun K hK => ?_)
  go_simp
  refine (implTokenOk_any 3 0 (s.extract at_ R) _ (by omega)).mono ?_
  rw [HTB.out]
  rintro e wy ⟨rfl, hb⟩
  have hbz : Below wz.heap.size wz wy := bel_trans (bel_drew (bel_refl _)) hb
  have gy := bel_trans gz hbz
  have HZy := HZ.kept hbz
  obtain ⟨y0, y1, y2, y3, y4, y5⟩ := HZy.three
  have u0 := old_cell hbz z0
  have u1 := old_cell hbz z1
  have u2 := old_cell hbz z2
  have hzl := HZy.lt
  refine hK.out _ _ ?_ (fun hHeld => ?_)
  · (try dsimp only) <;> ((refine ⟨?_, ?_, ?_, ?_⟩ <;> first | exact z0 | exact z1 | exact z2 | exact bel_drew gz | exact u0 | exact u1 | exact u2 | exact gy | exact bel_set (bel_set (bel_set gy (by simp) _) (by simp) _) (by simp) _ | (rw [World.cell?_setCell_far _ _ _ _ (by simp), World.cell?_setCell_far _ _ _ _ (by simp), World.cell?_setCell_far _ _ _ _ (by simp)]; first | exact u0 | exact u1 | exact u2)))
  clear hK K
  try simp only [Act.put, List.setIfInBounds_toArray, List.set_cons_zero, List.set_cons_succ]
  refine h_call 4 (by kernel_rfl) rfl (by kernel_rfl) (fun K hK => ?_)
  go_simp
  refine hK.out _ _ ?_ (fun hHeld => ?_)
  · (try dsimp only) <;> ((refine ⟨?_, ?_, ?_, ?_⟩ <;> first | exact z0 | exact z1 | exact z2 | exact bel_drew gz | exact u0 | exact u1 | exact u2 | exact gy | exact bel_set (bel_set (bel_set gy (by simp) _) (by simp) _) (by simp) _ | (rw [World.cell?_setCell_far _ _ _ _ (by simp), World.cell?_setCell_far _ _ _ _ (by simp), World.cell?_setCell_far _ _ _ _ (by simp)]; first | exact u0 | exact u1 | exact u2)))
  clear hK K
  try simp only [Act.put, List.setIfInBounds_toArray, List.set_cons_zero, List.set_cons_succ]
  refine h_take 5 (some 5) (?_) rfl rfl (by kernel_rfl) (by kernel_rfl) (by kernel_rfl) (fun _ _ _ h => h) (by kernel_rfl) ?_ (by assumption) ?_
  rotate_left
  · intro w hSw; (try dsimp only at hSw); go_simp
    all_goals first | with_reducible rfl | omega | (simp; omega)
  try simp only [Act.put, List.setIfInBounds_toArray, List.set_cons_zero, List.set_cons_succ]
  refine h_take 6 (some 6) (?_) rfl rfl (by kernel_rfl) (by kernel_rfl) (by kernel_rfl) (fun _ _ _ h => h) (by kernel_rfl) ?_ (by assumption) ?_
  rotate_left
  · intro w hSw; (try dsimp only at hSw); go_simp
    all_goals first | with_reducible rfl | omega | (simp; omega)
  try simp only [Act.put, List.setIfInBounds_toArray, List.set_cons_zero, List.set_cons_succ]
  refine wpAnyH_done (by kernel_rfl) ?_ _
  go_wp2
  refine bodyPost_ret (v := tupA ⟨3, 0, s.extract at_ R⟩ R tb) (by simp [results, Tryd.results23, go_sem, tupA, y0, y1, y2]) rfl ⟨rfl, And.left hHeld⟩
theorem tokenAtM1_any (s : ByteArray) (at_ : Nat) (w : World) (hs : s.size ≤ 1048576) (ha : at_ < s.size) (ha2 : at_ + 1 ≤ s.size) (hd : digit s[at_].toNat = false) (hm : small s[at_].toNat = false) (hg : large s[at_].toNat = false) (hq : ((s[at_].toNat : Int) == 39) = false) (hp : Lib.hasPrefix (s.extract at_ s.size).data.toList [45, 62] = false) (tb : Bool) (htb : tokenOk ⟨5, 0, s.extract at_ (at_ + 1)⟩ = tb) :
    Calls Tryd.prog 23 #[.string s, .int .i64 at_] w fun e w' => e = .returned (tupA ⟨5, 0, s.extract at_ (at_ + 1)⟩ ((at_ : Int) + 1) tb) ∧ Below w.heap.size w w' := by
  have hb := byte_le s[at_]
  have hez : (s.extract at_ (at_ + 1)).size ≤ 1048576 := by rw [ByteArray.size_extract]; omega
  have HD := Lib.hid hd; have HS := Lib.hid hm; have HG := Lib.hid hg; have HTB := Lib.hid htb; have HP := Lib.hid hp
  clear hd hm hg htb hp
  go_enter Tryd.func23, Tryd.ntmps23
  go_upto_region 25 with (first | (go_at_call 49; refine (isDigit_any _ _).mono ?_; rw [HD.out]; rintro e w' ⟨rfl, rfl⟩) | (go_at_call 51; refine (isSmall_any _ _).mono ?_; rw [HS.out]; rintro e w' ⟨rfl, rfl⟩) | (go_at_call 53; refine (isLarge_any _ _).mono ?_; rw [HG.out]; rintro e w' ⟨rfl, rfl⟩) | (go_at_call 56; refine (Tryd.strings_HasPrefix _ ⟨#[45, 62]⟩ _).mono ?_; rw [show Lib.hasPrefix (s.extract at_ s.size).data.toList (⟨#[45, 62]⟩ : ByteArray).data.toList = false from HP.out]; rintro e w' ⟨rfl, rfl⟩))
  generalize hwz : (w.alloc (.cells #[.int .i64 0, .int .i64 0, .string ⟨#[]⟩] 34)).alloc (.cells #[.int .i64 5, .int .i64 0, .string (s.extract at_ (at_ + 1))] 34) = wz
  have HZ : Blk wz w.heap.size 34 #[.int .i64 0, .int .i64 0, .string ⟨#[]⟩] := by rw [← hwz]; exact (Blk.new w _ _).alloc _
  have HT3 : Blk wz (w.heap.size + 1) 34 #[.int .i64 5, .int .i64 0, .string (s.extract at_ (at_ + 1))] := by rw [← hwz]; have := Blk.new (w.alloc (.cells #[.int .i64 0, .int .i64 0, .string ⟨#[]⟩] 34)) 34 #[.int .i64 5, .int .i64 0, .string (s.extract at_ (at_ + 1))]; simpa using this
  have gz : Below w.heap.size w wz := by rw [← hwz]; exact bel_alloc (bel_alloc (bel_refl _) _) _
  clear hwz
  obtain ⟨z0, z1, z2, _, _, _⟩ := HT3.three
  refine wp_region_held_drew (S := (fun w' => Below w.heap.size w w' ∧ w'.cell? ⟨w.heap.size + 1, 0, none⟩ = some (.int .i64 5) ∧ w'.cell? ⟨w.heap.size + 1, 1, none⟩ = some (.int .i64 0) ∧ w'.cell? ⟨w.heap.size + 1, 2, none⟩ = some (.string (s.extract at_ (at_ + 1))))) (by kernel_rfl) ?_ (fun hHeld => ?_)
  · (try dsimp only) <;> ((refine ⟨?_, ?_, ?_, ?_⟩ <;> first | exact z0 | exact z1 | exact z2 | exact bel_drew gz | exact u0 | exact u1 | exact u2 | exact gy | exact bel_set (bel_set (bel_set gy (by simp) _) (by simp) _) (by simp) _ | (rw [World.cell?_setCell_far _ _ _ _ (by simp), World.cell?_setCell_far _ _ _ _ (by simp), World.cell?_setCell_far _ _ _ _ (by simp)]; first | exact u0 | exact u1 | exact u2)))
  refine h_take 0 (some 116) (?_) rfl rfl (by kernel_rfl) (by kernel_rfl) (by kernel_rfl) (fun _ _ _ h => h) (by kernel_rfl) ?_ (by assumption) ?_
  rotate_left
  · intro w hSw; (try dsimp only at hSw); go_simp
    all_goals first | with_reducible rfl | omega | (simp; omega)
  try simp only [Act.put, List.setIfInBounds_toArray, List.set_cons_zero, List.set_cons_succ]
  refine h_take 1 (some 117) (?_) rfl rfl (by kernel_rfl) (by kernel_rfl) (by kernel_rfl) (fun _ _ _ h => h) (by kernel_rfl) ?_ (by assumption) ?_
  rotate_left
  · intro w hSw; (try dsimp only at hSw); go_simp
    all_goals first | with_reducible rfl | omega | (simp; omega)
  try simp only [Act.put, List.setIfInBounds_toArray, List.set_cons_zero, List.set_cons_succ]
  refine h_take 2 (some 118) (?_) rfl rfl (by kernel_rfl) (by kernel_rfl) (by kernel_rfl) (fun _ _ _ h => h) (by kernel_rfl) ?_ (by assumption) ?_
  rotate_left
  · intro w hSw; (try dsimp only at hSw); go_simp
    all_goals first | with_reducible rfl | omega | (simp; omega)
  try simp only [Act.put, List.setIfInBounds_toArray, List.set_cons_zero, List.set_cons_succ]
  refine h_call 3 (by kernel_rfl) rfl (by kernel_rfl) (fun K hK => ?_)
  go_simp
  refine (implTokenOk_any 5 0 (s.extract at_ (at_ + 1)) _ (by omega)).mono ?_
  rw [HTB.out]
  rintro e wy ⟨rfl, hb⟩
  have hbz : Below wz.heap.size wz wy := bel_trans (bel_drew (bel_refl _)) hb
  have gy := bel_trans gz hbz
  have HZy := HZ.kept hbz
  obtain ⟨y0, y1, y2, y3, y4, y5⟩ := HZy.three
  have u0 := old_cell hbz z0
  have u1 := old_cell hbz z1
  have u2 := old_cell hbz z2
  have hzl := HZy.lt
  refine hK.out _ _ ?_ (fun hHeld => ?_)
  · (try dsimp only) <;> ((refine ⟨?_, ?_, ?_, ?_⟩ <;> first | exact z0 | exact z1 | exact z2 | exact bel_drew gz | exact u0 | exact u1 | exact u2 | exact gy | exact bel_set (bel_set (bel_set gy (by simp) _) (by simp) _) (by simp) _ | (rw [World.cell?_setCell_far _ _ _ _ (by simp), World.cell?_setCell_far _ _ _ _ (by simp), World.cell?_setCell_far _ _ _ _ (by simp)]; first | exact u0 | exact u1 | exact u2)))
  clear hK K
  try simp only [Act.put, List.setIfInBounds_toArray, List.set_cons_zero, List.set_cons_succ]
  refine h_call 4 (by kernel_rfl) rfl (by kernel_rfl) (fun K hK => ?_)
  go_simp
  refine hK.out _ _ ?_ (fun hHeld => ?_)
  · (try dsimp only) <;> ((refine ⟨?_, ?_, ?_, ?_⟩ <;> first | exact z0 | exact z1 | exact z2 | exact bel_drew gz | exact u0 | exact u1 | exact u2 | exact gy | exact bel_set (bel_set (bel_set gy (by simp) _) (by simp) _) (by simp) _ | (rw [World.cell?_setCell_far _ _ _ _ (by simp), World.cell?_setCell_far _ _ _ _ (by simp), World.cell?_setCell_far _ _ _ _ (by simp)]; first | exact u0 | exact u1 | exact u2)))
  clear hK K
  try simp only [Act.put, List.setIfInBounds_toArray, List.set_cons_zero, List.set_cons_succ]
  refine h_take 5 (some 5) (?_) rfl rfl (by kernel_rfl) (by kernel_rfl) (by kernel_rfl) (fun _ _ _ h => h) (by kernel_rfl) ?_ (by assumption) ?_
  rotate_left
  · intro w hSw; (try dsimp only at hSw); go_simp
    all_goals first | with_reducible rfl | omega | (simp; omega)
  try simp only [Act.put, List.setIfInBounds_toArray, List.set_cons_zero, List.set_cons_succ]
  refine h_take 6 (some 6) (?_) rfl rfl (by kernel_rfl) (by kernel_rfl) (by kernel_rfl) (fun _ _ _ h => h) (by kernel_rfl) ?_ (by assumption) ?_
  rotate_left
  · intro w hSw; (try dsimp only at hSw); go_simp
    all_goals first | with_reducible rfl | omega | (simp; omega)
  try simp only [Act.put, List.setIfInBounds_toArray, List.set_cons_zero, List.set_cons_succ]
  refine wpAnyH_done (by kernel_rfl) ?_ _
  go_wp2
  refine bodyPost_ret (v := tupA ⟨5, 0, s.extract at_ (at_ + 1)⟩ ((at_ : Int) + 1) tb) (by simp [results, Tryd.results23, go_sem, tupA, y0, y1, y2]) rfl ⟨rfl, And.left hHeld⟩
theorem tokenAtM2_any (s : ByteArray) (at_ : Nat) (w : World) (hs : s.size ≤ 1048576) (ha : at_ < s.size) (ha2 : at_ + 2 ≤ s.size) (hd : digit s[at_].toNat = false) (hm : small s[at_].toNat = false) (hg : large s[at_].toNat = false) (hq : ((s[at_].toNat : Int) == 39) = false) (hp : Lib.hasPrefix (s.extract at_ s.size).data.toList [45, 62] = true) (tb : Bool) (htb : tokenOk ⟨5, 0, s.extract at_ (at_ + 2)⟩ = tb) :
    Calls Tryd.prog 23 #[.string s, .int .i64 at_] w fun e w' => e = .returned (tupA ⟨5, 0, s.extract at_ (at_ + 2)⟩ ((at_ : Int) + 2) tb) ∧ Below w.heap.size w w' := by
  have hb := byte_le s[at_]
  have hez : (s.extract at_ (at_ + 2)).size ≤ 1048576 := by rw [ByteArray.size_extract]; omega
  have HD := Lib.hid hd; have HS := Lib.hid hm; have HG := Lib.hid hg; have HTB := Lib.hid htb; have HP := Lib.hid hp
  clear hd hm hg htb hp
  go_enter Tryd.func23, Tryd.ntmps23
  go_upto_region 25 with (first | (go_at_call 49; refine (isDigit_any _ _).mono ?_; rw [HD.out]; rintro e w' ⟨rfl, rfl⟩) | (go_at_call 51; refine (isSmall_any _ _).mono ?_; rw [HS.out]; rintro e w' ⟨rfl, rfl⟩) | (go_at_call 53; refine (isLarge_any _ _).mono ?_; rw [HG.out]; rintro e w' ⟨rfl, rfl⟩) | (go_at_call 56; refine (Tryd.strings_HasPrefix _ ⟨#[45, 62]⟩ _).mono ?_; rw [show Lib.hasPrefix (s.extract at_ s.size).data.toList (⟨#[45, 62]⟩ : ByteArray).data.toList = true from HP.out]; rintro e w' ⟨rfl, rfl⟩))
  generalize hwz : (w.alloc (.cells #[.int .i64 0, .int .i64 0, .string ⟨#[]⟩] 34)).alloc (.cells #[.int .i64 5, .int .i64 0, .string (s.extract at_ (at_ + 2))] 34) = wz
  have HZ : Blk wz w.heap.size 34 #[.int .i64 0, .int .i64 0, .string ⟨#[]⟩] := by rw [← hwz]; exact (Blk.new w _ _).alloc _
  have HT3 : Blk wz (w.heap.size + 1) 34 #[.int .i64 5, .int .i64 0, .string (s.extract at_ (at_ + 2))] := by rw [← hwz]; have := Blk.new (w.alloc (.cells #[.int .i64 0, .int .i64 0, .string ⟨#[]⟩] 34)) 34 #[.int .i64 5, .int .i64 0, .string (s.extract at_ (at_ + 2))]; simpa using this
  have gz : Below w.heap.size w wz := by rw [← hwz]; exact bel_alloc (bel_alloc (bel_refl _) _) _
  clear hwz
  obtain ⟨z0, z1, z2, _, _, _⟩ := HT3.three
  refine wp_region_held_drew (S := (fun w' => Below w.heap.size w w' ∧ w'.cell? ⟨w.heap.size + 1, 0, none⟩ = some (.int .i64 5) ∧ w'.cell? ⟨w.heap.size + 1, 1, none⟩ = some (.int .i64 0) ∧ w'.cell? ⟨w.heap.size + 1, 2, none⟩ = some (.string (s.extract at_ (at_ + 2))))) (by kernel_rfl) ?_ (fun hHeld => ?_)
  · (try dsimp only) <;> ((refine ⟨?_, ?_, ?_, ?_⟩ <;> first | exact z0 | exact z1 | exact z2 | exact bel_drew gz | exact u0 | exact u1 | exact u2 | exact gy | exact bel_set (bel_set (bel_set gy (by simp) _) (by simp) _) (by simp) _ | (rw [World.cell?_setCell_far _ _ _ _ (by simp), World.cell?_setCell_far _ _ _ _ (by simp), World.cell?_setCell_far _ _ _ _ (by simp)]; first | exact u0 | exact u1 | exact u2)))
  refine h_take 0 (some 116) (?_) rfl rfl (by kernel_rfl) (by kernel_rfl) (by kernel_rfl) (fun _ _ _ h => h) (by kernel_rfl) ?_ (by assumption) ?_
  rotate_left
  · intro w hSw; (try dsimp only at hSw); go_simp
    all_goals first | with_reducible rfl | omega | (simp; omega)
  try simp only [Act.put, List.setIfInBounds_toArray, List.set_cons_zero, List.set_cons_succ]
  refine h_take 1 (some 117) (?_) rfl rfl (by kernel_rfl) (by kernel_rfl) (by kernel_rfl) (fun _ _ _ h => h) (by kernel_rfl) ?_ (by assumption) ?_
  rotate_left
  · intro w hSw; (try dsimp only at hSw); go_simp
    all_goals first | with_reducible rfl | omega | (simp; omega)
  try simp only [Act.put, List.setIfInBounds_toArray, List.set_cons_zero, List.set_cons_succ]
  refine h_take 2 (some 118) (?_) rfl rfl (by kernel_rfl) (by kernel_rfl) (by kernel_rfl) (fun _ _ _ h => h) (by kernel_rfl) ?_ (by assumption) ?_
  rotate_left
  · intro w hSw; (try dsimp only at hSw); go_simp
    all_goals first | with_reducible rfl | omega | (simp; omega)
  try simp only [Act.put, List.setIfInBounds_toArray, List.set_cons_zero, List.set_cons_succ]
  refine h_call 3 (by kernel_rfl) rfl (by kernel_rfl) (fun K hK => ?_)
  go_simp
  refine (implTokenOk_any 5 0 (s.extract at_ (at_ + 2)) _ (by omega)).mono ?_
  rw [HTB.out]
  rintro e wy ⟨rfl, hb⟩
  have hbz : Below wz.heap.size wz wy := bel_trans (bel_drew (bel_refl _)) hb
  have gy := bel_trans gz hbz
  have HZy := HZ.kept hbz
  obtain ⟨y0, y1, y2, y3, y4, y5⟩ := HZy.three
  have u0 := old_cell hbz z0
  have u1 := old_cell hbz z1
  have u2 := old_cell hbz z2
  have hzl := HZy.lt
  refine hK.out _ _ ?_ (fun hHeld => ?_)
  · (try dsimp only) <;> ((refine ⟨?_, ?_, ?_, ?_⟩ <;> first | exact z0 | exact z1 | exact z2 | exact bel_drew gz | exact u0 | exact u1 | exact u2 | exact gy | exact bel_set (bel_set (bel_set gy (by simp) _) (by simp) _) (by simp) _ | (rw [World.cell?_setCell_far _ _ _ _ (by simp), World.cell?_setCell_far _ _ _ _ (by simp), World.cell?_setCell_far _ _ _ _ (by simp)]; first | exact u0 | exact u1 | exact u2)))
  clear hK K
  try simp only [Act.put, List.setIfInBounds_toArray, List.set_cons_zero, List.set_cons_succ]
  refine h_call 4 (by kernel_rfl) rfl (by kernel_rfl) (fun K hK => ?_)
  go_simp
  refine hK.out _ _ ?_ (fun hHeld => ?_)
  · (try dsimp only) <;> ((refine ⟨?_, ?_, ?_, ?_⟩ <;> first | exact z0 | exact z1 | exact z2 | exact bel_drew gz | exact u0 | exact u1 | exact u2 | exact gy | exact bel_set (bel_set (bel_set gy (by simp) _) (by simp) _) (by simp) _ | (rw [World.cell?_setCell_far _ _ _ _ (by simp), World.cell?_setCell_far _ _ _ _ (by simp), World.cell?_setCell_far _ _ _ _ (by simp)]; first | exact u0 | exact u1 | exact u2)))
  clear hK K
  try simp only [Act.put, List.setIfInBounds_toArray, List.set_cons_zero, List.set_cons_succ]
  refine h_take 5 (some 5) (?_) rfl rfl (by kernel_rfl) (by kernel_rfl) (by kernel_rfl) (fun _ _ _ h => h) (by kernel_rfl) ?_ (by assumption) ?_
  rotate_left
  · intro w hSw; (try dsimp only at hSw); go_simp
    all_goals first | with_reducible rfl | omega | (simp; omega)
  try simp only [Act.put, List.setIfInBounds_toArray, List.set_cons_zero, List.set_cons_succ]
  refine h_take 6 (some 6) (?_) rfl rfl (by kernel_rfl) (by kernel_rfl) (by kernel_rfl) (fun _ _ _ h => h) (by kernel_rfl) ?_ (by assumption) ?_
  rotate_left
  · intro w hSw; (try dsimp only at hSw); go_simp
    all_goals first | with_reducible rfl | omega | (simp; omega)
  try simp only [Act.put, List.setIfInBounds_toArray, List.set_cons_zero, List.set_cons_succ]
  refine wpAnyH_done (by kernel_rfl) ?_ _
  go_wp2
  refine bodyPost_ret (v := tupA ⟨5, 0, s.extract at_ (at_ + 2)⟩ ((at_ : Int) + 2) tb) (by simp [results, Tryd.results23, go_sem, tupA, y0, y1, y2]) rfl ⟨rfl, And.left hHeld⟩
end Go.Proofs.YtgcjhicpkmhbaaaDoor
