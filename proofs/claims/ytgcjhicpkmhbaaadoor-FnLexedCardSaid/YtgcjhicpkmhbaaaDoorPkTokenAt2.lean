import Derived.Test.YtgcjhicpkmhbaaaDoorPkPlainLex
import Derived.Lib.Bytealg
import Derived.Test.YtgcjhicpkmhbaaaDoorPkTokenAt
/- Where the next quote stands: the library's IndexByte and the plain run. Names no program. No condition. -/
namespace Go.Proofs.YtgcjhicpkmhbaaaDoor
theorem index_quote : ∀ t : List UInt8, Lib.indexByte t 39 = if runL noQ t < t.length then (runL noQ t : Int) else -1
  | [] => by simp [Lib.indexByte, runL]
  | c :: t => by
    have ih := index_quote t
    have hle := runL_le noQ t
    unfold Lib.indexByte runL
    by_cases h : c = 39
    · subst h
      simp [noQ]
    · have h1 : (c == 39) = false := beq_eq_false_iff_ne.2 h
      have h2 : noQ c = true := by unfold noQ; simpa using h
      rw [h1, h2, if_pos rfl, ih]
      simp only [Bool.false_eq_true, if_false, List.length_cons]
      split
      · rename_i h3
        rw [if_neg (by simp), if_pos (by omega)]
        rfl
      · rename_i h3
        rw [if_pos (by rfl), if_neg (by omega)]
end Go.Proofs.YtgcjhicpkmhbaaaDoor

/- What begins at a place of a text, by the program: a quote. Conditions: lengths. -/
namespace Go.Proofs.YtgcjhicpkmhbaaaDoor
open Go.RowKit
set_option maxRecDepth 100000
set_option maxHeartbeats 4000000
theorem tokenAtQ_any (s : ByteArray) (at_ m : Nat) (w : World) (hs : s.size ≤ 1048576) (ha : at_ < s.size) (ha2 : at_ + 1 + m < s.size) (hd : digit s[at_].toNat = false) (hm : small s[at_].toNat = false) (hg : large s[at_].toNat = false) (hq : ((s[at_].toNat : Int) == 39) = true) (hp : Lib.indexByte (s.extract (at_ + 1) s.size).data.toList 39 = (m : Int)) (tb : Bool) (htb : tokenOk ⟨4, 0, s.extract (at_ + 1) (at_ + 1 + m)⟩ = tb) :
    Calls Tryd.prog 23 #[.string s, .int .i64 at_] w fun e w' => e = .returned (tupA ⟨4, 0, s.extract (at_ + 1) (at_ + 1 + m)⟩ ((at_ : Int) + m + 2) tb) ∧ Below w.heap.size w w' := by
  have hb := byte_le s[at_]
  have hez : (s.extract (at_ + 1) (at_ + 1 + m)).size ≤ 1048576 := by rw [ByteArray.size_extract]; omega
  have HD := Lib.hid hd; have HS := Lib.hid hm; have HG := Lib.hid hg; have HTB := Lib.hid htb; have HP := Lib.hid hp
  clear hd hm hg htb hp
  go_enter Tryd.func23, Tryd.ntmps23
  go_upto_region 20 with (first | (go_at_call 49; refine (isDigit_any _ _).mono ?_; rw [HD.out]; rintro e w' ⟨rfl, rfl⟩) | (go_at_call 51; refine (isSmall_any _ _).mono ?_; rw [HS.out]; rintro e w' ⟨rfl, rfl⟩) | (go_at_call 53; refine (isLarge_any _ _).mono ?_; rw [HG.out]; rintro e w' ⟨rfl, rfl⟩) | (go_at_call 55; refine (Tryd.strings_IndexByte _ 39 _).mono ?_; rw [show Lib.indexByte (s.extract (at_ + 1) s.size).data.toList (39 : Int).toNat.toUInt8 = _ from HP.out]; rintro e w' ⟨rfl, rfl⟩))
  generalize hwz : (w.alloc (.cells #[.int .i64 0, .int .i64 0, .string ⟨#[]⟩] 34)).alloc (.cells #[.int .i64 4, .int .i64 0, .string (s.extract (at_ + 1) (at_ + 1 + m))] 34) = wz
  have HZ : Blk wz w.heap.size 34 #[.int .i64 0, .int .i64 0, .string ⟨#[]⟩] := by rw [← hwz]; exact (Blk.new w _ _).alloc _
  have HT3 : Blk wz (w.heap.size + 1) 34 #[.int .i64 4, .int .i64 0, .string (s.extract (at_ + 1) (at_ + 1 + m))] := by rw [← hwz]; have := Blk.new (w.alloc (.cells #[.int .i64 0, .int .i64 0, .string ⟨#[]⟩] 34)) 34 #[.int .i64 4, .int .i64 0, .string (s.extract (at_ + 1) (at_ + 1 + m))]; simpa using this
  have gz : Below w.heap.size w wz := by rw [← hwz]; exact bel_alloc (bel_alloc (bel_refl _) _) _
  clear hwz
  obtain ⟨z0, z1, z2, _, _, _⟩ := HT3.three
  refine wp_region_held_drew (S := (fun w' => Below w.heap.size w w' ∧ w'.cell? ⟨w.heap.size + 1, 0, none⟩ = some (.int .i64 4) ∧ w'.cell? ⟨w.heap.size + 1, 1, none⟩ = some (.int .i64 0) ∧ w'.cell? ⟨w.heap.size + 1, 2, none⟩ = some (.string (s.extract (at_ + 1) (at_ + 1 + m))))) (by kernel_rfl) ?_ (fun hHeld => ?_)
  · (try dsimp only) <;> ((refine ⟨?_, ?_, ?_, ?_⟩ <;> first | exact z0 | exact z1 | exact z2 | exact bel_drew gz | exact u0 | exact u1 | exact u2 | exact gy | exact bel_set (bel_set (bel_set gy (by simp) _) (by simp) _) (by simp) _ | (rw [World.cell?_setCell_far _ _ _ _ (by simp), World.cell?_setCell_far _ _ _ _ (by simp), World.cell?_setCell_far _ _ _ _ (by simp)]; first | exact u0 | exact u1 | exact u2)))
  refine h_take 0 (some 96) (?_) rfl rfl (by kernel_rfl) (by kernel_rfl) (by kernel_rfl) (fun _ _ _ h => h) (by kernel_rfl) ?_ (by assumption) ?_
  rotate_left
  · intro w hSw; (try dsimp only at hSw); go_simp
    all_goals first | with_reducible rfl | omega | (simp; omega)
  try simp only [Act.put, List.setIfInBounds_toArray, List.set_cons_zero, List.set_cons_succ]
  refine h_take 1 (some 97) (?_) rfl rfl (by kernel_rfl) (by kernel_rfl) (by kernel_rfl) (fun _ _ _ h => h) (by kernel_rfl) ?_ (by assumption) ?_
  rotate_left
  · intro w hSw; (try dsimp only at hSw); go_simp
    all_goals first | with_reducible rfl | omega | (simp; omega)
  try simp only [Act.put, List.setIfInBounds_toArray, List.set_cons_zero, List.set_cons_succ]
  refine h_take 2 (some 98) (?_) rfl rfl (by kernel_rfl) (by kernel_rfl) (by kernel_rfl) (fun _ _ _ h => h) (by kernel_rfl) ?_ (by assumption) ?_
  rotate_left
  · intro w hSw; (try dsimp only at hSw); go_simp
    all_goals first | with_reducible rfl | omega | (simp; omega)
  try simp only [Act.put, List.setIfInBounds_toArray, List.set_cons_zero, List.set_cons_succ]
  refine h_take 3 (some 99) (.int .i64 ((at_ : Int) + m)) rfl rfl (by kernel_rfl) (by kernel_rfl) (by kernel_rfl) (fun _ _ _ h => h) (by kernel_rfl) ?_ (by assumption) ?_
  · intro w hSw; (try dsimp only at hSw); go_simp
    all_goals first | with_reducible rfl | omega | (simp; omega) | (rw [IntKind.wrap_i64]; omega) | (rw [IntKind.wrap_u8]; omega) | exact Int.tmod_eq_emod_of_nonneg (by omega) | (simp [IntKind.wrap_i64, IntKind.wrap_u8]; omega)
  try simp only [Act.put, List.setIfInBounds_toArray, List.set_cons_zero, List.set_cons_succ]
  refine h_take 4 (some 100) (.int .i64 ((at_ : Int) + m + 2)) rfl rfl (by kernel_rfl) (by kernel_rfl) (by kernel_rfl) (fun _ _ _ h => h) (by kernel_rfl) ?_ (by assumption) ?_
  · intro w hSw; (try dsimp only at hSw); go_simp
    all_goals first | with_reducible rfl | omega | (simp; omega) | (rw [IntKind.wrap_i64]; omega) | (rw [IntKind.wrap_u8]; omega) | exact Int.tmod_eq_emod_of_nonneg (by omega) | (simp [IntKind.wrap_i64, IntKind.wrap_u8]; omega)
  try simp only [Act.put, List.setIfInBounds_toArray, List.set_cons_zero, List.set_cons_succ]
  refine h_take 5 (some 101) (?_) rfl rfl (by kernel_rfl) (by kernel_rfl) (by kernel_rfl) (fun _ _ _ h => h) (by kernel_rfl) ?_ (by assumption) ?_
  rotate_left
  · intro w hSw; (try dsimp only at hSw); go_simp
    all_goals first | with_reducible rfl | omega | (simp; omega)
  try simp only [Act.put, List.setIfInBounds_toArray, List.set_cons_zero, List.set_cons_succ]
  refine h_call 6 (by kernel_rfl) rfl (by kernel_rfl) (fun K hK => ?_)
  go_simp
  refine (implTokenOk_any 4 0 (s.extract (at_ + 1) (at_ + 1 + m)) _ (by omega)).mono ?_
  rw [HTB.out]
  rintro e wy ⟨rfl, hb⟩
  have hbz : Below wz.heap.size wz wy := bel_trans (bel_drew (bel_refl _)) hb
  have gy := bel_trans gz hbz
  have HZy := HZ.kept hbz
  obtain ⟨y0, y1, y2, y3, y4, y5⟩ := HZy.three
  have u0 := old_cell hbz z0
  have u1 := old_cell hbz z1
  have u2 := old_cell hbz z2
  have hzl := HZy.lt
  refine hK.out _ _ ?_ (fun hHeld => ?_)
  · (try dsimp only) <;> ((refine ⟨?_, ?_, ?_, ?_⟩ <;> first | exact z0 | exact z1 | exact z2 | exact bel_drew gz | exact u0 | exact u1 | exact u2 | exact gy | exact bel_set (bel_set (bel_set gy (by simp) _) (by simp) _) (by simp) _ | (rw [World.cell?_setCell_far _ _ _ _ (by simp), World.cell?_setCell_far _ _ _ _ (by simp), World.cell?_setCell_far _ _ _ _ (by simp)]; first | exact u0 | exact u1 | exact u2)))
  clear hK K
  try simp only [Act.put, List.setIfInBounds_toArray, List.set_cons_zero, List.set_cons_succ]
  refine h_call 7 (by kernel_rfl) rfl (by kernel_rfl) (fun K hK => ?_)
  go_simp
  refine hK.out _ _ ?_ (fun hHeld => ?_)
  · (try dsimp only) <;> ((refine ⟨?_, ?_, ?_, ?_⟩ <;> first | exact z0 | exact z1 | exact z2 | exact bel_drew gz | exact u0 | exact u1 | exact u2 | exact gy | exact bel_set (bel_set (bel_set gy (by simp) _) (by simp) _) (by simp) _ | (rw [World.cell?_setCell_far _ _ _ _ (by simp), World.cell?_setCell_far _ _ _ _ (by simp), World.cell?_setCell_far _ _ _ _ (by simp)]; first | exact u0 | exact u1 | exact u2)))
  clear hK K
  try simp only [Act.put, List.setIfInBounds_toArray, List.set_cons_zero, List.set_cons_succ]
  refine h_take 8 (some 5) (?_) rfl rfl (by kernel_rfl) (by kernel_rfl) (by kernel_rfl) (fun _ _ _ h => h) (by kernel_rfl) ?_ (by assumption) ?_
  rotate_left
  · intro w hSw; (try dsimp only at hSw); go_simp
    all_goals first | with_reducible rfl | omega | (simp; omega)
  try simp only [Act.put, List.setIfInBounds_toArray, List.set_cons_zero, List.set_cons_succ]
  refine h_take 9 (some 6) (?_) rfl rfl (by kernel_rfl) (by kernel_rfl) (by kernel_rfl) (fun _ _ _ h => h) (by kernel_rfl) ?_ (by assumption) ?_
  rotate_left
  · intro w hSw; (try dsimp only at hSw); go_simp
    all_goals first | with_reducible rfl | omega | (simp; omega)
  try simp only [Act.put, List.setIfInBounds_toArray, List.set_cons_zero, List.set_cons_succ]
  refine wpAnyH_done (by kernel_rfl) ?_ _
  go_wp2
  refine bodyPost_ret (v := tupA ⟨4, 0, s.extract (at_ + 1) (at_ + 1 + m)⟩ ((at_ : Int) + m + 2) tb) (by simp [results, Tryd.results23, go_sem, tupA, y0, y1, y2]) rfl ⟨rfl, And.left hHeld⟩
theorem tokenAtU_any (s : ByteArray) (at_ : Nat) (w : World) (hs : s.size ≤ 1048576) (ha : at_ < s.size) (hd : digit s[at_].toNat = false) (hm : small s[at_].toNat = false) (hg : large s[at_].toNat = false) (hq : ((s[at_].toNat : Int) == 39) = true) (hp : Lib.indexByte (s.extract (at_ + 1) s.size).data.toList 39 = -1) :
    Calls Tryd.prog 23 #[.string s, .int .i64 at_] w fun e w' => e = .returned (tupA ⟨0, 0, ⟨#[]⟩⟩ 0 false) ∧ Below w.heap.size w w' := by
  have hb := byte_le s[at_]
  have HD := Lib.hid hd; have HS := Lib.hid hm; have HG := Lib.hid hg; have HP := Lib.hid hp
  clear hd hm hg hp
  go_enter Tryd.func23, Tryd.ntmps23
  go_wp2_with (first | (go_at_call 49; refine (isDigit_any _ _).mono ?_; rw [HD.out]; rintro e w' ⟨rfl, rfl⟩) | (go_at_call 51; refine (isSmall_any _ _).mono ?_; rw [HS.out]; rintro e w' ⟨rfl, rfl⟩) | (go_at_call 53; refine (isLarge_any _ _).mono ?_; rw [HG.out]; rintro e w' ⟨rfl, rfl⟩) | (go_at_call 55; refine (Tryd.strings_IndexByte _ 39 _).mono ?_; rw [show Lib.indexByte (s.extract (at_ + 1) s.size).data.toList (39 : Int).toNat.toUInt8 = _ from HP.out]; rintro e w' ⟨rfl, rfl⟩))
  refine bodyPost_ret (v := tupA ⟨0, 0, ⟨#[]⟩⟩ 0 false) (by simp [results, Tryd.results23, go_sem, tupA]) rfl ⟨rfl, (by repeat (first | with_reducible exact bel_refl _ | with_reducible assumption | with_reducible refine bel_set ?_ (by first | (simp; done) | (simp; omega) | omega) _ | with_reducible refine bel_alloc ?_ _ | with_reducible refine bel_drew ?_ | with_reducible refine bel_drewN ?_ _ | with_reducible refine bel_trans ?_ (by assumption)))⟩
end Go.Proofs.YtgcjhicpkmhbaaaDoor
