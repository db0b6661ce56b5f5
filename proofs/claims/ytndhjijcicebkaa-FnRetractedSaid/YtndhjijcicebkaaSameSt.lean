/- The laws' comparison of two stores answers true where they are the same. No condition but lengths. -/
import Derived.Test.YtndhjijcicebkaaStore
import Derived.Test.YtndhjijcicebkaaFact2
import Derived.Test.YtndhjijcicebkaaHeld
namespace Go.Proofs.Ytndhjijcicebkaa
open Go.RowKit
set_option maxRecDepth 100000
set_option maxHeartbeats 4000000
theorem sameStore_any (A1 A2 : Option Addr) (n c1 c2 : Nat) (l1 l2 : List IR) (nx : Int) (w : World) (B1 B2 : Nat) (h1 : RdI w B1 A1 n l1) (h2 : RdI w B2 A2 n l2) (he : l1.map itOf = l2.map itOf) (hn : n ≤ 1048576) (hs : ∀ r ∈ l1, r.fs.length ≤ 1048576) :
    Calls Try.prog 28 #[.agg #[.slice A1 n c1, .int .i64 nx], .agg #[.slice A2 n c2, .int .i64 nx]] w fun e w' => e = .returned (.bool true) ∧ Below w.heap.size w w' := by
  have HL1 := Lib.hid h1.len; have HL2 := Lib.hid h2.len
  have HE := Lib.hid he; have HS := Lib.hid hs; clear he hs
  have gv : Below w.heap.size w ((w.alloc (.cells #[.slice A1 n c1, .int .i64 nx] 32)).alloc (.cells #[.slice A2 n c2, .int .i64 nx] 32)) := bel_alloc (bel_alloc (bel_refl w) _) _
  have x0 : ((w.alloc (.cells #[.slice A1 n c1, .int .i64 nx] 32)).alloc (.cells #[.slice A2 n c2, .int .i64 nx] 32)).cell? ⟨w.heap.size, 0, none⟩ = some (.slice A1 n c1) := by go_simp
  have y0 : ((w.alloc (.cells #[.slice A1 n c1, .int .i64 nx] 32)).alloc (.cells #[.slice A2 n c2, .int .i64 nx] 32)).cell? ⟨w.heap.size + 1, 0, none⟩ = some (.slice A2 n c2) := by go_simp
  have hnn : ((n : Int) == (n : Int)) = true := by simp
  have hxx : (nx == nx) = true := by simp
  replace h1 := h1.kept gv
  replace h2 := h2.kept gv
  go_enter Try.func28, Try.ntmps28
  go_wp2
  generalize hv : (w.alloc (.cells #[.slice A1 n c1, .int .i64 nx] 32)).alloc (.cells #[.slice A2 n c2, .int .i64 nx] 32) = v at x0 y0 gv h1 h2 ⊢
  clear hv
  go_loopw [5] (fun i wr => ∃ k : Nat, k ≤ n ∧ i = .int .i64 k ∧ Below v.heap.size v wr) (fun i _ => n - (intOf i).toNat)
  case atStart => exact ⟨0, Nat.zero_le _, rfl, bel_refl _⟩
  case round =>
    obtain ⟨k, hk, rfl, hbel⟩ := hrel
    have u0 := old_cell hbel x0
    have v0 := old_cell hbel y0
    by_cases hlt : k < n
    · obtain ⟨b1, o1, rfl, _, hc1⟩ := (h1.kept hbel).at_ (by omega)
      obtain ⟨b2, o2, rfl, _, hc2⟩ := (h2.kept hbel).at_ (by omega)
      obtain ⟨id, kd, Ai, ci, fs, he1, p0, p1, p2, hri1⟩ := hc1 k hlt
      obtain ⟨id2, kd2, Ai2, ci2, fs2, he2, q0, q1, q2, hri2⟩ := hc2 k hlt
      have hm1 : (l1.map itOf)[k]'(by rw [List.length_map, HL1.out]; exact hlt) = ⟨id, ⟨kd, fs⟩⟩ := by rw [List.getElem_map, he1]; rfl
      have hm2 : (l2.map itOf)[k]'(by rw [List.length_map, HL2.out]; exact hlt) = ⟨id2, ⟨kd2, fs2⟩⟩ := by rw [List.getElem_map, he2]; rfl
      have hmm : (⟨id, ⟨kd, fs⟩⟩ : It) = ⟨id2, ⟨kd2, fs2⟩⟩ := by rw [← hm1, ← hm2]; simp only [HE.out]
      injection hmm with e1 e2
      injection e2 with e2 e3
      subst e1 e2 e3
      have hfl : fs.length ≤ 4611686018427387904 := by
        have := HS.out (l1[k]'(by rw [HL1.out]; exact hlt)) (List.getElem_mem _)
        rw [he1] at this
        have h9 : fs.length ≤ 1048576 := this
        omega
      clear hc1 hc2 he1 he2 hm1 hm2
      have hj0 : (0:Int) ≤ (k : Int) := by omega
      have hj1 : (k:Int) < (n : Int) := by omega
      have hii : (id == id) = true := by simp
      go_upto_region 6 with fail
      refine wp_region_held_drew (S := (fun w' => Below wr.heap.size wr w' ∧ w'.cell? ⟨w.heap.size, 0, none⟩ = some (.slice (some ⟨b1, o1, none⟩) n c1) ∧ w'.cell? ⟨w.heap.size + 1, 0, none⟩ = some (.slice (some ⟨b2, o2, none⟩) n c2) ∧ w'.cell? ⟨b1, o1 + k * 3, none⟩ = some (.int .i64 id) ∧ w'.cell? ⟨b1, o1 + k * 3 + 1, none⟩ = some (.string kd) ∧ w'.cell? ⟨b1, o1 + k * 3 + 2, none⟩ = some (.slice Ai fs.length ci) ∧ w'.cell? ⟨b2, o2 + k * 3, none⟩ = some (.int .i64 id) ∧ w'.cell? ⟨b2, o2 + k * 3 + 1, none⟩ = some (.string kd) ∧ w'.cell? ⟨b2, o2 + k * 3 + 2, none⟩ = some (.slice Ai2 fs.length ci2))) (by kernel_rfl) ?_ (fun hHeld => ?_)
      · (try dsimp only) <;> (((refine (fun hB => ⟨hB, old_cell hB u0, old_cell hB v0, old_cell hB p0, old_cell hB p1, old_cell hB p2, old_cell hB q0, old_cell hB q1, old_cell hB q2⟩ : Below wr.heap.size wr _ → _) ?_); (first | exact bel_drew (bel_refl _) | exact bel_trans (And.left (by assumption)) (by assumption) | assumption)))
      refine h_take 0 (some 27) (?_) rfl rfl (by kernel_rfl) (by kernel_rfl) (by kernel_rfl) (fun _ _ _ h => h) (by kernel_rfl) ?_ (by assumption) ?_
      rotate_left
      · intro w hSw; (try dsimp only at hSw); go_simp
        all_goals first | with_reducible rfl | omega | (simp; omega)
      try simp only [Act.put, List.setIfInBounds_toArray, List.set_cons_zero, List.set_cons_succ]
      refine h_take 1 (some 28) (?_) rfl rfl (by kernel_rfl) (by kernel_rfl) (by kernel_rfl) (fun _ _ _ h => h) (by kernel_rfl) ?_ (by assumption) ?_
      rotate_left
      · intro w hSw; (try dsimp only at hSw); go_simp
        all_goals first | with_reducible rfl | omega | (simp; omega)
      try simp only [Act.put, List.setIfInBounds_toArray, List.set_cons_zero, List.set_cons_succ]
      refine h_take 2 (some 29) (?_) rfl rfl (by kernel_rfl) (by kernel_rfl) (by kernel_rfl) (fun _ _ _ h => h) (by kernel_rfl) ?_ (by assumption) ?_
      rotate_left
      · intro w hSw; (try dsimp only at hSw); go_simp
        all_goals first | with_reducible rfl | omega | (simp; omega)
      try simp only [Act.put, List.setIfInBounds_toArray, List.set_cons_zero, List.set_cons_succ]
      refine h_take 3 (some 30) (?_) rfl rfl (by kernel_rfl) (by kernel_rfl) (by kernel_rfl) (fun _ _ _ h => h) (by kernel_rfl) ?_ (by assumption) ?_
      rotate_left
      · intro w hSw; (try dsimp only at hSw); go_simp
        all_goals first | with_reducible rfl | omega | (simp; omega)
      try simp only [Act.put, List.setIfInBounds_toArray, List.set_cons_zero, List.set_cons_succ]
      refine h_take 4 (some 31) (?_) rfl rfl (by kernel_rfl) (by kernel_rfl) (by kernel_rfl) (fun _ _ _ h => h) (by kernel_rfl) ?_ (by assumption) ?_
      rotate_left
      · intro w hSw; (try dsimp only at hSw); go_simp
        all_goals first | with_reducible rfl | omega | (simp; omega)
      try simp only [Act.put, List.setIfInBounds_toArray, List.set_cons_zero, List.set_cons_succ]
      refine h_take 5 (some 32) (?_) rfl rfl (by kernel_rfl) (by kernel_rfl) (by kernel_rfl) (fun _ _ _ h => h) (by kernel_rfl) ?_ (by assumption) ?_
      rotate_left
      · intro w hSw; (try dsimp only at hSw); go_simp
        all_goals first | with_reducible rfl | omega | (simp; omega)
      try simp only [Act.put, List.setIfInBounds_toArray, List.set_cons_zero, List.set_cons_succ]
      refine h_take 6 (some 33) (?_) rfl rfl (by kernel_rfl) (by kernel_rfl) (by kernel_rfl) (fun _ _ _ h => h) (by kernel_rfl) ?_ (by assumption) ?_
      rotate_left
      · intro w hSw; (try dsimp only at hSw); go_simp
        all_goals first | with_reducible rfl | omega | (simp; omega)
      try simp only [Act.put, List.setIfInBounds_toArray, List.set_cons_zero, List.set_cons_succ]
      refine h_take 7 (some 34) (?_) rfl rfl (by kernel_rfl) (by kernel_rfl) (by kernel_rfl) (fun _ _ _ h => h) (by kernel_rfl) ?_ (by assumption) ?_
      rotate_left
      · intro w hSw; (try dsimp only at hSw); go_simp
        all_goals first | with_reducible rfl | omega | (simp; omega)
      try simp only [Act.put, List.setIfInBounds_toArray, List.set_cons_zero, List.set_cons_succ]
      refine h_take 8 (some 35) (?_) rfl rfl (by kernel_rfl) (by kernel_rfl) (by kernel_rfl) (fun _ _ _ h => h) (by kernel_rfl) ?_ (by assumption) ?_
      rotate_left
      · intro w hSw; (try dsimp only at hSw); go_simp
        all_goals first | with_reducible rfl | omega | (simp; omega)
      try simp only [Act.put, List.setIfInBounds_toArray, List.set_cons_zero, List.set_cons_succ]
      refine h_take 9 (some 36) (?_) rfl rfl (by kernel_rfl) (by kernel_rfl) (by kernel_rfl) (fun _ _ _ h => h) (by kernel_rfl) ?_ (by assumption) ?_
      rotate_left
      · intro w hSw; (try dsimp only at hSw); go_simp
        all_goals first | with_reducible rfl | omega | (simp; omega)
      try simp only [Act.put, List.setIfInBounds_toArray, List.set_cons_zero, List.set_cons_succ]
      refine h_take 10 (some 37) (?_) rfl rfl (by kernel_rfl) (by kernel_rfl) (by kernel_rfl) (fun _ _ _ h => h) (by kernel_rfl) ?_ (by assumption) ?_
      rotate_left
      · intro w hSw; (try dsimp only at hSw); go_simp
        all_goals first | with_reducible rfl | omega | (simp; omega)
      try simp only [Act.put, List.setIfInBounds_toArray, List.set_cons_zero, List.set_cons_succ]
      refine h_take 11 (some 38) (?_) rfl rfl (by kernel_rfl) (by kernel_rfl) (by kernel_rfl) (fun _ _ _ h => h) (by kernel_rfl) ?_ (by assumption) ?_
      rotate_left
      · intro w hSw; (try dsimp only at hSw); go_simp
        all_goals first | with_reducible rfl | omega | (simp; omega)
      try simp only [Act.put, List.setIfInBounds_toArray, List.set_cons_zero, List.set_cons_succ]
      refine h_take 12 (some 39) (.bool false) rfl rfl (by kernel_rfl) (by kernel_rfl) (by kernel_rfl) (fun _ _ _ h => h) (by kernel_rfl) ?_ (by assumption) ?_
      · intro w hSw; (try dsimp only at hSw); go_simp
        all_goals first | with_reducible rfl | omega | (simp; omega)
      try simp only [Act.put, List.setIfInBounds_toArray, List.set_cons_zero, List.set_cons_succ]
      refine h_take 13 (some 40) (.bool false) rfl rfl (by kernel_rfl) (by kernel_rfl) (by kernel_rfl) (fun _ _ _ h => h) (by kernel_rfl) ?_ (by assumption) ?_
      · intro w hSw; (try dsimp only at hSw); go_simp
        all_goals first | with_reducible rfl | omega | (simp; omega)
      try simp only [Act.put, List.setIfInBounds_toArray, List.set_cons_zero, List.set_cons_succ]
      refine h_take 14 (some 41) (?_) rfl rfl (by kernel_rfl) (by kernel_rfl) (by kernel_rfl) (fun _ _ _ h => h) (by kernel_rfl) ?_ (by assumption) ?_
      rotate_left
      · intro w hSw; (try dsimp only at hSw); go_simp
        all_goals first | with_reducible rfl | omega | (simp; omega)
      try simp only [Act.put, List.setIfInBounds_toArray, List.set_cons_zero, List.set_cons_succ]
      refine h_take 15 (some 42) (?_) rfl rfl (by kernel_rfl) (by kernel_rfl) (by kernel_rfl) (fun _ _ _ h => h) (by kernel_rfl) ?_ (by assumption) ?_
      rotate_left
      · intro w hSw; (try dsimp only at hSw); go_simp
        all_goals first | with_reducible rfl | omega | (simp; omega)
      try simp only [Act.put, List.setIfInBounds_toArray, List.set_cons_zero, List.set_cons_succ]
      refine h_take 16 (some 43) (?_) rfl rfl (by kernel_rfl) (by kernel_rfl) (by kernel_rfl) (fun _ _ _ h => h) (by kernel_rfl) ?_ (by assumption) ?_
      rotate_left
      · intro w hSw; (try dsimp only at hSw); go_simp
        all_goals first | with_reducible rfl | omega | (simp; omega)
      try simp only [Act.put, List.setIfInBounds_toArray, List.set_cons_zero, List.set_cons_succ]
      refine h_take 17 (some 44) (?_) rfl rfl (by kernel_rfl) (by kernel_rfl) (by kernel_rfl) (fun _ _ _ h => h) (by kernel_rfl) ?_ (by assumption) ?_
      rotate_left
      · intro w hSw; (try dsimp only at hSw); go_simp
        all_goals first | with_reducible rfl | omega | (simp; omega)
      try simp only [Act.put, List.setIfInBounds_toArray, List.set_cons_zero, List.set_cons_succ]
      refine h_take 18 (some 45) (?_) rfl rfl (by kernel_rfl) (by kernel_rfl) (by kernel_rfl) (fun _ _ _ h => h) (by kernel_rfl) ?_ (by assumption) ?_
      rotate_left
      · intro w hSw; (try dsimp only at hSw); go_simp
        all_goals first | with_reducible rfl | omega | (simp; omega)
      try simp only [Act.put, List.setIfInBounds_toArray, List.set_cons_zero, List.set_cons_succ]
      refine h_take 19 (some 46) (?_) rfl rfl (by kernel_rfl) (by kernel_rfl) (by kernel_rfl) (fun _ _ _ h => h) (by kernel_rfl) ?_ (by assumption) ?_
      rotate_left
      · intro w hSw; (try dsimp only at hSw); go_simp
        all_goals first | with_reducible rfl | omega | (simp; omega)
      try simp only [Act.put, List.setIfInBounds_toArray, List.set_cons_zero, List.set_cons_succ]
      refine h_take 20 (some 47) (?_) rfl rfl (by kernel_rfl) (by kernel_rfl) (by kernel_rfl) (fun _ _ _ h => h) (by kernel_rfl) ?_ (by assumption) ?_
      rotate_left
      · intro w hSw; (try dsimp only at hSw); go_simp
        all_goals first | with_reducible rfl | omega | (simp; omega)
      try simp only [Act.put, List.setIfInBounds_toArray, List.set_cons_zero, List.set_cons_succ]
      refine h_take 21 (some 48) (?_) rfl rfl (by kernel_rfl) (by kernel_rfl) (by kernel_rfl) (fun _ _ _ h => h) (by kernel_rfl) ?_ (by assumption) ?_
      rotate_left
      · intro w hSw; (try dsimp only at hSw); go_simp
        all_goals first | with_reducible rfl | omega | (simp; omega)
      try simp only [Act.put, List.setIfInBounds_toArray, List.set_cons_zero, List.set_cons_succ]
      refine h_take 22 (some 49) (?_) rfl rfl (by kernel_rfl) (by kernel_rfl) (by kernel_rfl) (fun _ _ _ h => h) (by kernel_rfl) ?_ (by assumption) ?_
      rotate_left
      · intro w hSw; (try dsimp only at hSw); go_simp
        all_goals first | with_reducible rfl | omega | (simp; omega)
      try simp only [Act.put, List.setIfInBounds_toArray, List.set_cons_zero, List.set_cons_succ]
      refine h_take 23 (some 50) (?_) rfl rfl (by kernel_rfl) (by kernel_rfl) (by kernel_rfl) (fun _ _ _ h => h) (by kernel_rfl) ?_ (by assumption) ?_
      rotate_left
      · intro w hSw; (try dsimp only at hSw); go_simp
        all_goals first | with_reducible rfl | omega | (simp; omega)
      try simp only [Act.put, List.setIfInBounds_toArray, List.set_cons_zero, List.set_cons_succ]
      refine h_take 24 (some 51) (?_) rfl rfl (by kernel_rfl) (by kernel_rfl) (by kernel_rfl) (fun _ _ _ h => h) (by kernel_rfl) ?_ (by assumption) ?_
      rotate_left
      · intro w hSw; (try dsimp only at hSw); go_simp
        all_goals first | with_reducible rfl | omega | (simp; omega)
      try simp only [Act.put, List.setIfInBounds_toArray, List.set_cons_zero, List.set_cons_succ]
      refine h_take 25 (some 52) (?_) rfl rfl (by kernel_rfl) (by kernel_rfl) (by kernel_rfl) (fun _ _ _ h => h) (by kernel_rfl) ?_ (by assumption) ?_
      rotate_left
      · intro w hSw; (try dsimp only at hSw); go_simp
        all_goals first | with_reducible rfl | omega | (simp; omega)
      try simp only [Act.put, List.setIfInBounds_toArray, List.set_cons_zero, List.set_cons_succ]
      refine h_call 26 (by kernel_rfl) rfl (by kernel_rfl) (fun K hK => ?_)
      go_simp
      refine (implSameFact_any kd kd Ai Ai2 _ ci _ ci2 fs fs _ _ _ (show RdS vC 3 wr.drew _ Ai fs.length fs from hri1) (show RdS vC 3 wr.drew _ Ai2 fs.length fs from hri2) hfl).mono ?_
      rw [decide_eq_true rfl]
      rintro e w3 ⟨rfl, hb⟩
      refine hK.out _ _ ?_ (fun hHeld => ?_)
      · (try dsimp only) <;> (((refine (fun hB => ⟨hB, old_cell hB u0, old_cell hB v0, old_cell hB p0, old_cell hB p1, old_cell hB p2, old_cell hB q0, old_cell hB q1, old_cell hB q2⟩ : Below wr.heap.size wr _ → _) ?_); (first | exact bel_drew (bel_refl _) | exact bel_trans (And.left (by assumption)) (by assumption) | assumption)))
      clear hK K
      try simp only [Act.put, List.setIfInBounds_toArray, List.set_cons_zero, List.set_cons_succ]
      refine h_take 27 (some 54) (.bool false) rfl rfl (by kernel_rfl) (by kernel_rfl) (by kernel_rfl) (fun _ _ _ h => h) (by kernel_rfl) ?_ (by assumption) ?_
      · intro w hSw; (try dsimp only at hSw); go_simp
        all_goals first | with_reducible rfl | omega | (simp; omega)
      try simp only [Act.put, List.setIfInBounds_toArray, List.set_cons_zero, List.set_cons_succ]
      refine h_take 28 (some 55) (.bool false) rfl rfl (by kernel_rfl) (by kernel_rfl) (by kernel_rfl) (fun _ _ _ h => h) (by kernel_rfl) ?_ (by assumption) ?_
      · intro w hSw; (try dsimp only at hSw); go_simp
        all_goals first | with_reducible rfl | omega | (simp; omega)
      try simp only [Act.put, List.setIfInBounds_toArray, List.set_cons_zero, List.set_cons_succ]
      refine wpAnyH_done (by kernel_rfl) ?_ _
      obtain ⟨hB, _⟩ := hHeld
      go_wp2
      go_roundw
      case rel => exact ⟨k + 1, by omega, by go_num, bel_trans hbel hB⟩
      case measure => simp [intOf]; omega
    · have hj1 : ¬ (k:Int) < (n : Int) := by omega
      go_wp2
      go_ret
      exact ⟨rfl, bel_trans gv hbel⟩
end Go.Proofs.Ytndhjijcicebkaa
