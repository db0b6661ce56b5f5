/- The law FnKinds returns true at every input, and leaves what it was given as it was. No condition. -/
import Derived.Test.YtndhjijcicebkaaDraw16
import Derived.Test.YtndhjijcicebkaaAt
import Derived.Test.YtndhjijcicebkaaFactOf
import Derived.Test.YtndhjijcicebkaaRows
import Derived.Test.YtndhjijcicebkaaRead
namespace Go.Proofs.Ytndhjijcicebkaa.fnKinds
open Go.ChangeShapes Go.WideShapes Go.ChangeAt Go.RowKit
open Go.ChangeMaps (open_string shut_string)
set_option linter.unusedVariables false
set_option maxRecDepth 100000
set_option maxHeartbeats 20000000

theorem ofKind_split (l : List It) (kd : ByteArray) (k : Nat) : ofKind l kd = ofKind (l.take k) kd ++ ofKind (l.drop k) kd := by
  unfold ofKind
  rw [← List.map_append, ← List.filter_append, List.take_append_drop]
theorem ofKind_at {l : List It} {kd : ByteArray} {k : Nat} (h : k < l.length) (he : l[k].f.kd = kd) : (ofKind l kd)[(ofKind (l.take k) kd).length]? = some l[k].id := by
  rw [ofKind_split l kd k, List.getElem?_append_right (Nat.le_refl _), Nat.sub_self, List.drop_eq_getElem_cons h]
  unfold ofKind
  rw [List.filter_cons, if_pos (by simp [he])]
  rfl
theorem int_cell {w : World} {B n : Nat} {A : Option Addr} {xs : List Int} (h : RdS iC 1 w B A n xs) {k : Nat} {x : Int} (hk : xs[k]? = some x) : ∃ b o, A = some ⟨b, o, none⟩ ∧ w.cell? ⟨b, o + k, none⟩ = some (.int .i64 x) := by
  obtain ⟨hlt, hx⟩ := List.getElem?_eq_some_iff.1 hk
  have hl := h.len
  obtain ⟨b, o, e, _, hc⟩ := h.2.at_ (fun _ => rfl) (by omega)
  refine ⟨b, o, e, ?_⟩
  have := hc k (by omega) 0 (.int .i64 x) (by omega) (by rw [hx]; rfl)
  simpa using this
theorem walk (A : Option Addr) (n c : Nat) (code : List UInt8) (W : World) (hs : n ≤ c ∧ c ≤ maxLen ∧ RdB W W.heap.size A n code) :
    Calls Try.prog 5 #[.slice A n c] W fun e w' => e = .returned (.bool true) ∧ Below W.heap.size W w' := by
  obtain ⟨hnc, _, hr⟩ := hs
  by_cases hbig : (1048576 : Int) < n
  · go_enter Try.func5, Try.ntmps5
    go_wp2_with fail
    refine (big_any _ _ _ _).mono ?_
    rw [decide_eq_true hbig]
    rintro e w' ⟨rfl, rfl⟩
    go_wp2
    go_ret
    exact ⟨rfl, Below.refl _ _⟩
  · go_enter Try.func5, Try.ntmps5
    go_wp2_with fail
    refine (big_any _ _ _ _).mono ?_
    rw [decide_eq_false (by omega)]
    rintro e w' ⟨rfl, rfl⟩
    go_wp2_with fail
    refine (DrawOfKind_any A n c code W _ hr (Nat.le_refl _) (by omega)).mono ?_
    rintro e w1 ⟨A2, c2, rs, nx, kd, ⟨hl, hnx, hsm, hcc⟩, rfl, hri, gW⟩
    obtain ⟨N, hN⟩ : ∃ N, rs.length = N := ⟨_, rfl⟩
    rw [hN] at hl hcc hri ⊢
    have HL := Lib.hid hN; clear hN hsm
    go_wp2_with fail
    refine (implOfKind_any A2 N c2 rs nx kd _ w1.heap.size (hri.alloc _) (by omega)).mono ?_
    rintro e w2 ⟨v, rfl, hov, hb, _⟩
    obtain ⟨Al, cl, rfl, hcl, _⟩ := hov.form
    have g2 : Below W.heap.size W w2 := (by repeat (first | with_reducible exact bel_refl _ | with_reducible assumption | with_reducible refine bel_set ?_ (by first | (simp; done) | (simp; omega) | omega) _ | with_reducible refine bel_alloc ?_ _ | with_reducible refine bel_drew ?_ | with_reducible refine bel_drewN ?_ _ | with_reducible refine bel_trans ?_ (by assumption)))
    have x0 := old_cell hb (b := w1.heap.size) (o := 0) (v := .slice A2 N c2) (by go_simp)
    have x1 := old_cell hb (b := w1.heap.size) (o := 1) (v := .int .i64 nx) (by go_simp)
    have rl := hov.rdO
    have hri2 := (hri.alloc (.cells #[.slice A2 N c2, .int .i64 nx] 32)).kept hb
    have zx := cell_lt x0
    dsimp only at zx
    clear hb hov hri gW
    obtain ⟨l, hlq⟩ : ∃ l, ofKind (rs.map itOf) kd = l := ⟨_, rfl⟩
    obtain ⟨M, hM⟩ : ∃ M, l.length = M := ⟨_, rfl⟩
    rw [hlq, hM] at rl hcl ⊢
    have hM63 : M ≤ 41 := by
      rw [← hM, ← hlq]
      have := ofKind_len (rs.map itOf) kd
      rw [List.length_map, HL.out] at this
      omega
    have HLQ := Lib.hid hlq; have HM := Lib.hid hM; clear hlq hM
    go_wp2
    go_loopw [6, 7] (fun s6 s7 wr => ∃ (i q m : Nat), i ≤ N ∧ q ≤ i ∧ s6 = .int .i64 q ∧ s7 = .int .i64 i ∧ q = (ofKind ((rs.map itOf).take i) kd).length ∧ wr = w2.drewN m) (fun _ i _ => N - (intOf i).toNat)
    case atStart => exact ⟨0, 0, 0, Nat.zero_le _, Nat.le_refl _, rfl, rfl, by rw [List.take_zero]; rfl, rfl⟩
    case round =>
      obtain ⟨i, q, m, hi, hqi, rfl, rfl, hq, rfl⟩ := hrel
      have HQ := Lib.hid hq; clear hq
      by_cases hlt : i < N
      · obtain ⟨b, oo, rfl, _, hcs⟩ := hri2.at_ (by omega)
        obtain ⟨rid, rkd, Ai, ci, fs, he, p0, p1, p2, _⟩ := hcs i hlt
        clear hcs
        have hil : i < (rs.map itOf).length := by rw [List.length_map, HL.out]; exact hlt
        have hel : (rs.map itOf)[i] = ⟨rid, ⟨rkd, fs⟩⟩ := by rw [List.getElem_map, he]; rfl
        clear he
        have hi0 : (0:Int) ≤ (i:Int) := by omega
        have hi1 : (i:Int) < (N:Int) := by omega
        by_cases hk : rkd = kd
        · subst hk
          have hkd : (rs.map itOf)[i].f.kd = rkd := by rw [hel]
          have hat := ofKind_at hil hkd
          rw [HLQ.out, hel, ← HQ.out] at hat
          obtain ⟨bl, ol, rfl, hcl2⟩ := int_cell rl hat
          have hqM : q < M := by rw [← HM.out]; exact (List.getElem?_eq_some_iff.1 hat).1
          have hq1 : (q:Int) < (M:Int) := by omega
          have hq0 : (0:Int) ≤ (q:Int) := by omega
          have hnn := ofKind_hit hil hkd
          have HQ2 := Lib.hid (show q + 1 = (ofKind ((rs.map itOf).take (i + 1)) rkd).length by rw [hnn, List.length_append, ← HQ.out]; rfl)
          have hss : (rkd.toList == rkd.toList) = true := by simp
          have hii : (rid == rid) = true := by simp
          clear hat hnn hkd hel
          go_wp2_with (go_quiet (fail))
          go_roundw
          case rel => exact ⟨i + 1, q + 1, _, by omega, by omega, by go_num, by go_num, HQ2.out, rfl⟩
          case measure => simp [intOf]; omega
        · have hkd : ¬ (rs.map itOf)[i].f.kd = kd := by rw [hel]; exact hk
          have hnn := ofKind_miss hil hkd
          have HQ2 := Lib.hid (show q = (ofKind ((rs.map itOf).take (i + 1)) kd).length by rw [hnn, ← HQ.out])
          have hss : (rkd.toList == kd.toList) = false := by rw [str_eq, decide_eq_false hk]
          clear hnn hkd hel hk
          go_wp2_with (go_quiet (fail))
          go_roundw
          case rel => exact ⟨i + 1, q, m, by omega, by omega, rfl, by go_num, HQ2.out, rfl⟩
          case measure => simp [intOf]; omega
      · have hqM : q = M := by rw [HQ.out, List.take_of_length_le (by rw [List.length_map, HL.out]; omega), HLQ.out, HM.out]
        have hqq : ((q : Int) == (M : Int)) = true := by simp; omega
        have hlt2 : ¬ ((i : Int) < (N : Int)) := by omega
        have gS := g2.size
        go_wp2_with fail
        refine (DrawStoreOk_any A n c code _ W.heap.size (RdB.drewN (RdB.below hr g2) m) (by simpa using gS) (by omega)).mono ?_
        rintro e w3 ⟨A3, c3, rs3, nx3, ⟨hl3, hnx3, hsm3, hcc3⟩, rfl, hri3, hb3⟩
        replace hb3 : Below w2.heap.size w2 w3 := bel_trans (bel_drewN (bel_refl w2) m) hb3
        have g3 : Below W.heap.size W w3 := bel_trans g2 hb3
        obtain ⟨N3, hN3⟩ : ∃ N3, rs3.length = N3 := ⟨_, rfl⟩
        rw [hN3] at hl3 hcc3 hri3 ⊢
        have hgood : ∀ r ∈ rs3, goodI r ∧ r.fs.length ≤ 4611686018427387904 := fun r h => by
          obtain ⟨q1, q2, q3⟩ := hsm3 r h
          exact ⟨⟨by omega, by omega, fun x hx => by have := q3 x hx; omega⟩, by omega⟩
        have HG3 := Lib.hid hgood
        clear hb3 hN3 hsm3 hgood rl hri2
        obtain ⟨d, hd⟩ : ∃ d, storeOk ⟨rs3.map itOf, nx3⟩ = d := ⟨_, rfl⟩
        have HDD := Lib.hid hd; clear hd
        have hddd : (d == d) = true := by simp
        have u0 : (w3.alloc (.cells #[.slice A3 N3 c3, .int .i64 nx3] 32)).cell? ⟨w3.heap.size, 0, none⟩ = some (.slice A3 N3 c3) := by go_simp
        have u1 : (w3.alloc (.cells #[.slice A3 N3 c3, .int .i64 nx3] 32)).cell? ⟨w3.heap.size, 1, none⟩ = some (.int .i64 nx3) := by go_simp
        have g4 : Below W.heap.size W (w3.alloc (.cells #[.slice A3 N3 c3, .int .i64 nx3] 32)) := bel_alloc g3 _
        have hri4 := hri3.alloc (.cells #[.slice A3 N3 c3, .int .i64 nx3] 32)
        go_upto_region 14 with fail
        generalize hvv : w3.alloc (.cells #[.slice A3 N3 c3, .int .i64 nx3] 32) = v at u0 u1 g4 hri4 ⊢
        clear hvv
        cases d
        · skip
          refine wp_region_held_drew (S := (fun w' => Below v.heap.size v w' ∧ w'.cell? ⟨w3.heap.size, 0, none⟩ = some (.slice A3 N3 c3) ∧ w'.cell? ⟨w3.heap.size, 1, none⟩ = some (.int .i64 nx3))) (by kernel_rfl) ?_ (fun hHeld => ?_)
          · (try dsimp only) <;> (first | exact ⟨bel_drew (bel_refl v), u0, u1⟩ | exact hHeld | exact ⟨bel_trans hHeld.1 hb, old_cell hb hHeld.2.1, old_cell hb hHeld.2.2⟩)
          refine h_take 0 (some 56) (?_) rfl rfl (by kernel_rfl) (by kernel_rfl) (by kernel_rfl) (fun _ _ _ h => h) (by kernel_rfl) ?_ (by assumption) ?_
          rotate_left
          · intro w hSw; (try dsimp only at hSw); go_simp
            all_goals first | with_reducible rfl | omega | (simp; omega)
          try simp only [Act.put, List.setIfInBounds_toArray, List.set_cons_zero, List.set_cons_succ]
          refine h_take 1 (some 57) (?_) rfl rfl (by kernel_rfl) (by kernel_rfl) (by kernel_rfl) (fun _ _ _ h => h) (by kernel_rfl) ?_ (by assumption) ?_
          rotate_left
          · intro w hSw; (try dsimp only at hSw); go_simp
            all_goals first | with_reducible rfl | omega | (simp; omega)
          try simp only [Act.put, List.setIfInBounds_toArray, List.set_cons_zero, List.set_cons_succ]
          refine h_take 2 (some 58) (?_) rfl rfl (by kernel_rfl) (by kernel_rfl) (by kernel_rfl) (fun _ _ _ h => h) (by kernel_rfl) ?_ (by assumption) ?_
          rotate_left
          · intro w hSw; (try dsimp only at hSw); go_simp
            all_goals first | with_reducible rfl | omega | (simp; omega)
          try simp only [Act.put, List.setIfInBounds_toArray, List.set_cons_zero, List.set_cons_succ]
          refine h_take 3 (some 59) (.bool true) rfl rfl (by kernel_rfl) (by kernel_rfl) (by kernel_rfl) (fun _ _ _ h => h) (by kernel_rfl) ?_ (by assumption) ?_
          · intro w hSw; (try dsimp only at hSw); go_simp
            all_goals first | with_reducible rfl | omega | (simp; omega)
          try simp only [Act.put, List.setIfInBounds_toArray, List.set_cons_zero, List.set_cons_succ]
          refine h_take 4 (some 60) (.bool true) rfl rfl (by kernel_rfl) (by kernel_rfl) (by kernel_rfl) (fun _ _ _ h => h) (by kernel_rfl) ?_ (by assumption) ?_
          · intro w hSw; (try dsimp only at hSw); go_simp
            all_goals first | with_reducible rfl | omega | (simp; omega)
          try simp only [Act.put, List.setIfInBounds_toArray, List.set_cons_zero, List.set_cons_succ]
          refine h_take 5 (some 61) (?_) rfl rfl (by kernel_rfl) (by kernel_rfl) (by kernel_rfl) (fun _ _ _ h => h) (by kernel_rfl) ?_ (by assumption) ?_
          rotate_left
          · intro w hSw; (try dsimp only at hSw); go_simp
            all_goals first | with_reducible rfl | omega | (simp; omega)
          try simp only [Act.put, List.setIfInBounds_toArray, List.set_cons_zero, List.set_cons_succ]
          refine h_take 7 (some 63) (?_) rfl rfl (by kernel_rfl) (by kernel_rfl) (by kernel_rfl) (fun _ _ _ h => h) (by kernel_rfl) ?_ (by assumption) ?_
          rotate_left
          · intro w hSw; (try dsimp only at hSw); go_simp
            all_goals first | with_reducible rfl | omega | (simp; omega)
          try simp only [Act.put, List.setIfInBounds_toArray, List.set_cons_zero, List.set_cons_succ]
          refine h_call 6 (by kernel_rfl) rfl (by kernel_rfl) (fun K hK => ?_)
          go_simp
          refine (implStoreOk_any A3 _ c3 rs3 nx3 _ _ (hri4.kept (And.left (by assumption))) (by omega) hcc3 HG3.out).mono ?_
          rw [HDD.out]
          rintro e wx ⟨rfl, hb⟩
          refine hK.out _ _ ?_ (fun hHeld => ?_)
          · (try dsimp only) <;> (first | exact ⟨bel_drew (bel_refl v), u0, u1⟩ | exact hHeld | exact ⟨bel_trans hHeld.1 hb, old_cell hb hHeld.2.1, old_cell hb hHeld.2.2⟩)
          clear hK K
          try simp only [Act.put, List.setIfInBounds_toArray, List.set_cons_zero, List.set_cons_succ]
          refine h_call 8 (by kernel_rfl) rfl (by kernel_rfl) (fun K hK => ?_)
          go_simp
          refine (specStoreOk_any A3 _ c3 rs3 nx3 _ _ (hri4.kept (And.left (by assumption))) (by omega) HG3.out).mono ?_
          rw [HDD.out]
          rintro e wx ⟨rfl, hb⟩
          refine hK.out _ _ ?_ (fun hHeld => ?_)
          · (try dsimp only) <;> (first | exact ⟨bel_drew (bel_refl v), u0, u1⟩ | exact hHeld | exact ⟨bel_trans hHeld.1 hb, old_cell hb hHeld.2.1, old_cell hb hHeld.2.2⟩)
          clear hK K
          try simp only [Act.put, List.setIfInBounds_toArray, List.set_cons_zero, List.set_cons_succ]
          refine h_take 9 (some 65) (.bool true) rfl rfl (by kernel_rfl) (by kernel_rfl) (by kernel_rfl) (fun _ _ _ h => h) (by kernel_rfl) ?_ (by assumption) ?_
          · intro w hSw; (try dsimp only at hSw); go_simp
            all_goals first | with_reducible rfl | omega | (simp; omega)
          try simp only [Act.put, List.setIfInBounds_toArray, List.set_cons_zero, List.set_cons_succ]
          refine h_take 10 (some 66) (.bool true) rfl rfl (by kernel_rfl) (by kernel_rfl) (by kernel_rfl) (fun _ _ _ h => h) (by kernel_rfl) ?_ (by assumption) ?_
          · intro w hSw; (try dsimp only at hSw); go_simp
            all_goals first | with_reducible rfl | omega | (simp; omega)
          try simp only [Act.put, List.setIfInBounds_toArray, List.set_cons_zero, List.set_cons_succ]
          refine h_take 11 (some 2) (?_) rfl rfl (by kernel_rfl) (by kernel_rfl) (by kernel_rfl) (fun _ _ _ h => h) (by kernel_rfl) ?_ (by assumption) ?_
          rotate_left
          · intro w hSw; (try dsimp only at hSw); go_simp
            all_goals first | with_reducible rfl | omega | (simp; omega)
          try simp only [Act.put, List.setIfInBounds_toArray, List.set_cons_zero, List.set_cons_succ]
          refine wpAnyH_done (by kernel_rfl) ?_ _
          obtain ⟨hB, _⟩ := hHeld
          go_wp2
          go_ret
          exact ⟨rfl, bel_trans g4 hB⟩
        · skip
          refine wp_region_held_drew (S := (fun w' => Below v.heap.size v w' ∧ w'.cell? ⟨w3.heap.size, 0, none⟩ = some (.slice A3 N3 c3) ∧ w'.cell? ⟨w3.heap.size, 1, none⟩ = some (.int .i64 nx3))) (by kernel_rfl) ?_ (fun hHeld => ?_)
          · (try dsimp only) <;> (first | exact ⟨bel_drew (bel_refl v), u0, u1⟩ | exact hHeld | exact ⟨bel_trans hHeld.1 hb, old_cell hb hHeld.2.1, old_cell hb hHeld.2.2⟩)
          refine h_take 0 (some 56) (?_) rfl rfl (by kernel_rfl) (by kernel_rfl) (by kernel_rfl) (fun _ _ _ h => h) (by kernel_rfl) ?_ (by assumption) ?_
          rotate_left
          · intro w hSw; (try dsimp only at hSw); go_simp
            all_goals first | with_reducible rfl | omega | (simp; omega)
          try simp only [Act.put, List.setIfInBounds_toArray, List.set_cons_zero, List.set_cons_succ]
          refine h_take 1 (some 57) (?_) rfl rfl (by kernel_rfl) (by kernel_rfl) (by kernel_rfl) (fun _ _ _ h => h) (by kernel_rfl) ?_ (by assumption) ?_
          rotate_left
          · intro w hSw; (try dsimp only at hSw); go_simp
            all_goals first | with_reducible rfl | omega | (simp; omega)
          try simp only [Act.put, List.setIfInBounds_toArray, List.set_cons_zero, List.set_cons_succ]
          refine h_take 2 (some 58) (?_) rfl rfl (by kernel_rfl) (by kernel_rfl) (by kernel_rfl) (fun _ _ _ h => h) (by kernel_rfl) ?_ (by assumption) ?_
          rotate_left
          · intro w hSw; (try dsimp only at hSw); go_simp
            all_goals first | with_reducible rfl | omega | (simp; omega)
          try simp only [Act.put, List.setIfInBounds_toArray, List.set_cons_zero, List.set_cons_succ]
          refine h_take 3 (some 59) (.bool true) rfl rfl (by kernel_rfl) (by kernel_rfl) (by kernel_rfl) (fun _ _ _ h => h) (by kernel_rfl) ?_ (by assumption) ?_
          · intro w hSw; (try dsimp only at hSw); go_simp
            all_goals first | with_reducible rfl | omega | (simp; omega)
          try simp only [Act.put, List.setIfInBounds_toArray, List.set_cons_zero, List.set_cons_succ]
          refine h_take 4 (some 60) (.bool true) rfl rfl (by kernel_rfl) (by kernel_rfl) (by kernel_rfl) (fun _ _ _ h => h) (by kernel_rfl) ?_ (by assumption) ?_
          · intro w hSw; (try dsimp only at hSw); go_simp
            all_goals first | with_reducible rfl | omega | (simp; omega)
          try simp only [Act.put, List.setIfInBounds_toArray, List.set_cons_zero, List.set_cons_succ]
          refine h_take 5 (some 61) (?_) rfl rfl (by kernel_rfl) (by kernel_rfl) (by kernel_rfl) (fun _ _ _ h => h) (by kernel_rfl) ?_ (by assumption) ?_
          rotate_left
          · intro w hSw; (try dsimp only at hSw); go_simp
            all_goals first | with_reducible rfl | omega | (simp; omega)
          try simp only [Act.put, List.setIfInBounds_toArray, List.set_cons_zero, List.set_cons_succ]
          refine h_take 7 (some 63) (?_) rfl rfl (by kernel_rfl) (by kernel_rfl) (by kernel_rfl) (fun _ _ _ h => h) (by kernel_rfl) ?_ (by assumption) ?_
          rotate_left
          · intro w hSw; (try dsimp only at hSw); go_simp
            all_goals first | with_reducible rfl | omega | (simp; omega)
          try simp only [Act.put, List.setIfInBounds_toArray, List.set_cons_zero, List.set_cons_succ]
          refine h_call 6 (by kernel_rfl) rfl (by kernel_rfl) (fun K hK => ?_)
          go_simp
          refine (implStoreOk_any A3 _ c3 rs3 nx3 _ _ (hri4.kept (And.left (by assumption))) (by omega) hcc3 HG3.out).mono ?_
          rw [HDD.out]
          rintro e wx ⟨rfl, hb⟩
          refine hK.out _ _ ?_ (fun hHeld => ?_)
          · (try dsimp only) <;> (first | exact ⟨bel_drew (bel_refl v), u0, u1⟩ | exact hHeld | exact ⟨bel_trans hHeld.1 hb, old_cell hb hHeld.2.1, old_cell hb hHeld.2.2⟩)
          clear hK K
          try simp only [Act.put, List.setIfInBounds_toArray, List.set_cons_zero, List.set_cons_succ]
          refine h_call 8 (by kernel_rfl) rfl (by kernel_rfl) (fun K hK => ?_)
          go_simp
          refine (specStoreOk_any A3 _ c3 rs3 nx3 _ _ (hri4.kept (And.left (by assumption))) (by omega) HG3.out).mono ?_
          rw [HDD.out]
          rintro e wx ⟨rfl, hb⟩
          refine hK.out _ _ ?_ (fun hHeld => ?_)
          · (try dsimp only) <;> (first | exact ⟨bel_drew (bel_refl v), u0, u1⟩ | exact hHeld | exact ⟨bel_trans hHeld.1 hb, old_cell hb hHeld.2.1, old_cell hb hHeld.2.2⟩)
          clear hK K
          try simp only [Act.put, List.setIfInBounds_toArray, List.set_cons_zero, List.set_cons_succ]
          refine h_take 9 (some 65) (.bool true) rfl rfl (by kernel_rfl) (by kernel_rfl) (by kernel_rfl) (fun _ _ _ h => h) (by kernel_rfl) ?_ (by assumption) ?_
          · intro w hSw; (try dsimp only at hSw); go_simp
            all_goals first | with_reducible rfl | omega | (simp; omega)
          try simp only [Act.put, List.setIfInBounds_toArray, List.set_cons_zero, List.set_cons_succ]
          refine h_take 10 (some 66) (.bool true) rfl rfl (by kernel_rfl) (by kernel_rfl) (by kernel_rfl) (fun _ _ _ h => h) (by kernel_rfl) ?_ (by assumption) ?_
          · intro w hSw; (try dsimp only at hSw); go_simp
            all_goals first | with_reducible rfl | omega | (simp; omega)
          try simp only [Act.put, List.setIfInBounds_toArray, List.set_cons_zero, List.set_cons_succ]
          refine h_take 11 (some 2) (?_) rfl rfl (by kernel_rfl) (by kernel_rfl) (by kernel_rfl) (fun _ _ _ h => h) (by kernel_rfl) ?_ (by assumption) ?_
          rotate_left
          · intro w hSw; (try dsimp only at hSw); go_simp
            all_goals first | with_reducible rfl | omega | (simp; omega)
          try simp only [Act.put, List.setIfInBounds_toArray, List.set_cons_zero, List.set_cons_succ]
          refine wpAnyH_done (by kernel_rfl) ?_ _
          obtain ⟨hB, _⟩ := hHeld
          go_wp2
          go_ret
          exact ⟨rfl, bel_trans g4 hB⟩

theorem own : ownKnob Try.prog.godebug = none := by kernel_rfl
theorem laidOut : laidOutB Try.prog = true := by kernel_rfl
theorem lifted (os : Os) (started : os.Started) (H : Type) (enc : TypeId × Value → H) :
    ReturnsInHanded {} Try.checked os 5 .any (Rows.fnKindsSpec.pre6 enc Try.prog Try.f5 Rows.fnKindsRow.domain false) (Rows.fnKindsSpec.post enc Try.prog Try.f5 false true false false) := by
  refine returnsInHanded_of_change (C := Try.checked) own started (by kernel_rfl) Try.func5
    (ChangeSpec.witness6 (enc := enc) (C := Try.checked) false ⟨#[], #[.slice none 0 0], []⟩ 8 (by kernel_rfl) (by kernel_rfl) (by kernel_rfl) (by kernel_rfl)) ?_
  intro W base args ds gs before hval0 hW hcnd _
  have hval : ∀ (j : Nat) t v, Try.f5.params[j]? = some t → args[j]? = some v → Value.okWide Try.prog W .any base t v := hval0
  have hW' := hW
  obtain ⟨p, q, hA0, hV, rfl, hfz, hnd⟩ := hW
  have hA : DataW.TrodAll enc Try.prog W 0 (fun _ => true) true Try.f5.params.toList args.toList ds p := hA0
  rw [Try.params5] at hA hval
  obtain ⟨v0, vs0, d0, ds0, p0, q0, hargs, rfl, rfl, h0, r0⟩ := trodAll_cons hA
  obtain ⟨rfl, rfl, rfl⟩ := trodAll_nil r0
  obtain rfl : args = #[v0] := by cases args; simp_all
  obtain ⟨rfl, rfl⟩ := trodVars_none hV
  have lt0 : ∀ x ∈ p0, x.block < W.heap.size := by obtain ⟨m, hm⟩ := h0; exact DataW.trod_lt m _ _ _ hm
  obtain ⟨A0, n0, c0, b0, hv0, hs0⟩ := open_bytes Try.underlying48 Try.underlying5 (by kernel_rfl) (hval 0 48 v0 rfl rfl) h0
  subst hv0
  clear hA0 hval0
  refine (walk A0 n0 c0 b0 W hs0).mono fun e W' ⟨he, bel⟩ => ?_
  subst he
  exact ⟨_, rfl, _, _, _, [], _, [], hW', trodAll_mk1 (shut_bool Try.underlying4 _), (trodAll_cons_mk (Below.trod laidOut (by kernel_rfl) (of_decide_eq_true (by kernel_rfl)) h0 bel lt0) trodAll_mk0), rfl, bel.frame _, fun h => by cases h⟩
theorem over : Rows.fnKindsRow.holds Try.pinned (OpenSpec.ofChange Rows.fnKindsSpec) :=
  OpenClaim.holds_of_wide 5 Try.f5 rfl rfl rfl rfl rfl rfl rfl ⟨rfl, rfl, rfl, rfl, rfl⟩ rfl rfl rfl rfl rfl (by kernel_rfl) Try.func5 (by kernel_rfl)
    (of_decide_eq_true (by kernel_rfl)) (by unfold Func.isWrapper; first | (rw [if_pos (by decide +kernel)]; kernel_rfl) | (rw [if_neg (by decide +kernel)]; exact ⟨rfl, rfl⟩))
    (fun os started H enc _ => lifted os started H enc)
theorem proved : Rows.FnKindsSaid := over
end Go.Proofs.Ytndhjijcicebkaa.fnKinds
