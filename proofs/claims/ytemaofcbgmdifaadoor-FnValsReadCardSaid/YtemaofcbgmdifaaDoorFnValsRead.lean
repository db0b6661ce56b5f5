/- The law FnValsRead returns true at every input, and leaves what it was given as it was. No condition. -/
import Derived.Test.YtemaofcbgmdifaaDoorDrawR
import Derived.Test.YtemaofcbgmdifaaDoorSameB
import Derived.Test.YtemaofcbgmdifaaDoorPlainRead
import Derived.Test.YtemaofcbgmdifaaDoorAt
import Derived.Test.YtemaofcbgmdifaaDoorRows
import Derived.Test.YtemaofcbgmdifaaDoorRead
import Derived.Test.YtemaofcbgmdifaaDoorDoorE
import Derived.Test.YtemaofcbgmdifaaDoorCards
import Derived.Test.YtemaofcbgmdifaaDoorTie
import Derived.SevenTiedAt
namespace Go.Proofs.YtemaofcbgmdifaaDoor.fnValsRead
open Go.ChangeShapes Go.WideShapes Go.ChangeAt Go.RowKit
open Go.ChangeMaps (open_string shut_string)
set_option linter.unusedVariables false
set_option maxRecDepth 100000
set_option maxHeartbeats 20000000

theorem parseV_small (s : ByteArray) : (parseV s).1.s.size ≤ 30 := by
  unfold parseV
  split
  · rename_i h
    obtain ⟨h1, _⟩ := h
    generalize candV s = v at h1 ⊢
    obtain ⟨k, n, t⟩ := v
    rcases val_parts h1 with ⟨_, _, _, rfl⟩ | ⟨_, _, h⟩
    · exact Nat.zero_le _
    · simp only; omega
  · exact Nat.zero_le _
theorem parseV_yes {s : ByteArray} {v : Vl} (h : parseV s = (v, true)) : valOk v = true ∧ valText v = s := by
  unfold parseV at h
  split at h
  · rename_i h1
    cases h
    exact h1
  · cases h
theorem walk (A : Option Addr) (n c : Nat) (code : List UInt8) (W : World) (hs : n ≤ c ∧ c ≤ maxLen ∧ RdB W W.heap.size A n code) (ht : TabT W) (hv : VarE W) :
    Calls Tryd.prog 3 #[.slice A n c] W fun e w' => e = .returned (.bool true) ∧ Below W.heap.size W w' := by
  obtain ⟨hnc, _, hr⟩ := hs
  have HTT := Lib.hid ht; have HVV := Lib.hid hv; clear ht hv
  by_cases hbig : (1048576 : Int) < n
  · go_enter Tryd.func3, Tryd.ntmps3
    go_wp2_with fail
    refine (big_any _ _ _ _).mono ?_
    rw [decide_eq_true hbig]
    rintro e w' ⟨rfl, rfl⟩
    go_wp2
    go_ret
    exact ⟨rfl, Below.refl _ _⟩
  · go_enter Tryd.func3, Tryd.ntmps3
    go_wp2_with fail
    refine (big_any _ _ _ _).mono ?_
    rw [decide_eq_false (by omega)]
    rintro e w' ⟨rfl, rfl⟩
    go_wp2_with fail
    refine (DrawParseVal_any A n c code W _ hr (Nat.le_refl _) (by omega)).mono ?_
    rintro e w1 ⟨s, hss, rfl, gW⟩
    have hps := parseV_small s
    obtain ⟨k, m, t, ok, hpv⟩ : ∃ k m t ok, parseV s = (⟨k, m, t⟩, ok) := ⟨_, _, _, _, rfl⟩
    rw [hpv] at hps
    have hq : t.size ≤ 9223372036854775807 := by have : t.size ≤ 30 := hps; omega
    have HP := Lib.hid hpv; clear hpv hps
    go_wp2_with fail
    refine (implParseVal_any s _ (by omega) (HTT.out.kept (by repeat (first | with_reducible exact bel_refl _ | with_reducible assumption | with_reducible refine bel_set ?_ (by first | (simp; done) | (simp; omega) | omega) _ | with_reducible refine bel_alloc ?_ _ | with_reducible refine bel_drew ?_ | with_reducible refine bel_drewN ?_ _ | with_reducible refine bel_trans ?_ (by assumption)))) (HVV.out.kept (by repeat (first | with_reducible exact bel_refl _ | with_reducible assumption | with_reducible refine bel_set ?_ (by first | (simp; done) | (simp; omega) | omega) _ | with_reducible refine bel_alloc ?_ _ | with_reducible refine bel_drew ?_ | with_reducible refine bel_drewN ?_ _ | with_reducible refine bel_trans ?_ (by assumption))))).mono ?_
    rw [HP.out]
    dsimp only [tupP]
    rintro e w2 ⟨rfl, hb⟩
    have g2 : Below W.heap.size W w2 := bel_trans gW hb
    clear hb gW
    go_wp2_with fail
    refine (specParseVal_any s _ (by omega)).mono ?_
    rw [HP.out]
    dsimp only [tupP]
    rintro e w3 ⟨rfl, hb⟩
    have g3 : Below W.heap.size W w3 := (by repeat (first | with_reducible exact bel_refl _ | with_reducible assumption | with_reducible refine bel_set ?_ (by first | (simp; done) | (simp; omega) | omega) _ | with_reducible refine bel_alloc ?_ _ | with_reducible refine bel_drew ?_ | with_reducible refine bel_drewN ?_ _ | with_reducible refine bel_trans ?_ (by assumption)))
    have a0 := old_cell hb (b := w2.heap.size) (o := 0) (v := .int .i64 k) (by go_simp)
    have a1 := old_cell hb (b := w2.heap.size) (o := 1) (v := .int .i64 m) (by go_simp)
    have a2 := old_cell hb (b := w2.heap.size) (o := 2) (v := .string t) (by go_simp)
    have za := cell_lt a0
    dsimp only at za
    have gS := g3.size
    clear hb g2
    go_wp2_with fail
    refine (DrawGetVal_any A n c code _ W.heap.size (RdB.below hr (bel_alloc g3 _)) (by simp; omega) (by omega)).mono ?_
    rintro e w4 ⟨A2, n2, c2, bs, i, ⟨hn2, hnc2, hcm⟩, hib, rfl, ry4, hb⟩
    have gx : Below w3.heap.size w3 w4 := bel_trans (bel_alloc (bel_refl w3) _) hb
    replace a0 := old_cell gx a0; replace a1 := old_cell gx a1; replace a2 := old_cell gx a2
    have g4 : Below W.heap.size W w4 := bel_trans g3 gx
    have za := cell_lt a0
    dsimp only at za
    have gS := g4.size
    clear hb gx g3
    obtain ⟨k2, m2, t2, nx, is, hgv⟩ : ∃ k2 m2 t2 nx is, getVal bs i = (⟨k2, m2, t2⟩, nx, is) := ⟨_, _, _, _, _, rfl⟩
    have HG := Lib.hid hgv; clear hgv
    go_wp2_with fail
    refine (implGetVal_any A2 n2 c2 i bs _ w4.heap.size ry4 (by omega) hnc2).mono ?_
    rw [HG.out]
    dsimp only [tupG]
    rintro e w5 ⟨rfl, hb⟩
    replace a0 := old_cell hb a0; replace a1 := old_cell hb a1; replace a2 := old_cell hb a2
    have g5 : Below W.heap.size W w5 := bel_trans g4 hb
    have za := cell_lt a0
    dsimp only at za
    replace ry4 := ry4.kept hb
    have gS := g5.size
    clear hb g4
    go_wp2_with fail
    refine (specGetVal_any A2 n2 c2 i bs _ w4.heap.size (ry4.alloc _) (by omega) hnc2).mono ?_
    rw [HG.out]
    dsimp only [tupG]
    rintro e w6 ⟨rfl, hb⟩
    have b0 := old_cell hb (b := w5.heap.size) (o := 0) (v := .int .i64 k2) (by go_simp)
    have b1 := old_cell hb (b := w5.heap.size) (o := 1) (v := .int .i64 m2) (by go_simp)
    have b2 := old_cell hb (b := w5.heap.size) (o := 2) (v := .string t2) (by go_simp)
    have gx : Below w5.heap.size w5 w6 := bel_trans (bel_alloc (bel_refl w5) _) hb
    replace a0 := old_cell gx a0; replace a1 := old_cell gx a1; replace a2 := old_cell gx a2
    have g6 : Below W.heap.size W w6 := bel_trans g5 gx
    have za := cell_lt a0
    have zb := cell_lt b0
    dsimp only at za zb
    replace ry4 := ry4.kept gx
    have gS := g6.size
    clear hb gx g5
    have HIS := Lib.hid (show is = true → ∃ (pp r b oo : Nat), i = (pp : Int) ∧ nx = (r : Int) ∧ pp < r ∧ r ≤ n2 ∧ A2 = some ⟨b, oo, none⟩ ∧ valOk ⟨k2, m2, t2⟩ = true ∧ t2.size ≤ 30 ∧ putV ⟨k2, m2, t2⟩ = (bs.drop pp).take (r - pp) from fun h => by
      have h1 := HG.out
      rw [h] at h1
      obtain ⟨q1, q2, q3, q4⟩ := getVal_back h1
      have hl := ry4.len
      have hpn := putV_ne ⟨k2, m2, t2⟩
      have hlen := congrArg List.length q4
      rw [List.length_drop, List.length_append, List.length_drop] at hlen
      obtain ⟨b, oo, hA, _⟩ := ry4.b.at_ (by omega)
      refine ⟨i.toNat, nx.toNat, b, oo, by omega, by omega, by omega, by omega, hA, q1, ?_, ?_⟩
      · rcases val_parts q1 with ⟨_, _, _, rfl⟩ | ⟨_, _, h⟩
        · exact Nat.zero_le _
        · omega
      · rw [q4, List.take_left' (by omega)])
    cases ok
    · go_upto_region 11 with fail
      have GX := g6
      cases is
      · skip
        refine wp_region_held_drew (S := (fun w' => Below w6.heap.size w6 w' ∧ w'.cell? ⟨w5.heap.size, 0, none⟩ = some (.int .i64 k2) ∧ w'.cell? ⟨w5.heap.size, 1, none⟩ = some (.int .i64 m2) ∧ w'.cell? ⟨w5.heap.size, 2, none⟩ = some (.string t2))) (by kernel_rfl) ?_ (fun hHeld => ?_)
        · (try dsimp only) <;> (((refine (fun hB => ⟨hB, old_cell hB b0, old_cell hB b1, old_cell hB b2⟩ : Below w6.heap.size w6 _ → _) ?_); (repeat (first | exact bel_refl _ | exact bel_drew (bel_refl _) | exact bel_drew (bel_alloc (bel_refl _) _) | exact bel_trans (And.left (by assumption)) (by assumption) | exact bel_alloc (And.left (by assumption)) _ | exact bel_drewN (And.left (by assumption)) _ | assumption))))
        refine h_take 0 (some 71) (.bool false) rfl rfl (by kernel_rfl) (by kernel_rfl) (by kernel_rfl) (fun _ _ _ h => h) (by kernel_rfl) ?_ (by assumption) ?_
        · intro w hSw; (try dsimp only at hSw); go_simp
          all_goals first | with_reducible rfl | omega | (simp; omega)
        try simp only [Act.put, List.setIfInBounds_toArray, List.set_cons_zero, List.set_cons_succ]
        refine h_take 1 (some 72) (.bool true) rfl rfl (by kernel_rfl) (by kernel_rfl) (by kernel_rfl) (fun _ _ _ h => h) (by kernel_rfl) ?_ (by assumption) ?_
        · intro w hSw; (try dsimp only at hSw); go_simp
          all_goals first | with_reducible rfl | omega | (simp; omega)
        try simp only [Act.put, List.setIfInBounds_toArray, List.set_cons_zero, List.set_cons_succ]
        refine h_take 2 (some 73) (.bool true) rfl rfl (by kernel_rfl) (by kernel_rfl) (by kernel_rfl) (fun _ _ _ h => h) (by kernel_rfl) ?_ (by assumption) ?_
        · intro w hSw; (try dsimp only at hSw); go_simp
          all_goals first | with_reducible rfl | omega | (simp; omega)
        try simp only [Act.put, List.setIfInBounds_toArray, List.set_cons_zero, List.set_cons_succ]
        refine h_skip 3 (some 74) rfl rfl (by kernel_rfl) (by kernel_rfl) (by kernel_rfl) (fun _ _ _ h => h) (by kernel_rfl) (by assumption) ?_
        try simp only [Act.put, List.setIfInBounds_toArray, List.set_cons_zero, List.set_cons_succ]
        refine h_skip 4 (some 75) rfl rfl (by kernel_rfl) (by kernel_rfl) (by kernel_rfl) (fun _ _ _ h => h) (by kernel_rfl) (by assumption) ?_
        try simp only [Act.put, List.setIfInBounds_toArray, List.set_cons_zero, List.set_cons_succ]
        refine h_skip 5 (some 76) rfl rfl (by kernel_rfl) (by kernel_rfl) (by kernel_rfl) (fun _ _ _ h => h) (by kernel_rfl) (by assumption) ?_
        try simp only [Act.put, List.setIfInBounds_toArray, List.set_cons_zero, List.set_cons_succ]
        refine h_skip 6 (some 77) rfl rfl (by kernel_rfl) (by kernel_rfl) (by kernel_rfl) (fun _ _ _ h => h) (by kernel_rfl) (by assumption) ?_
        try simp only [Act.put, List.setIfInBounds_toArray, List.set_cons_zero, List.set_cons_succ]
        refine h_skip 7 (some 78) rfl rfl (by kernel_rfl) (by kernel_rfl) (by kernel_rfl) (fun _ _ _ h => h) (by kernel_rfl) (by assumption) ?_
        try simp only [Act.put, List.setIfInBounds_toArray, List.set_cons_zero, List.set_cons_succ]
        refine h_skip 8 (some 79) rfl rfl (by kernel_rfl) (by kernel_rfl) (by kernel_rfl) (fun _ _ _ h => h) (by kernel_rfl) (by assumption) ?_
        try simp only [Act.put, List.setIfInBounds_toArray, List.set_cons_zero, List.set_cons_succ]
        refine h_skip 9 (some 80) rfl rfl (by kernel_rfl) (by kernel_rfl) (by kernel_rfl) (fun _ _ _ h => h) (by kernel_rfl) (by assumption) ?_
        try simp only [Act.put, List.setIfInBounds_toArray, List.set_cons_zero, List.set_cons_succ]
        refine h_skip 10 (some 81) rfl rfl (by kernel_rfl) (by kernel_rfl) (by kernel_rfl) (fun _ _ _ h => h) (by kernel_rfl) (by assumption) ?_
        try simp only [Act.put, List.setIfInBounds_toArray, List.set_cons_zero, List.set_cons_succ]
        refine h_skip 11 (some 82) rfl rfl (by kernel_rfl) (by kernel_rfl) (by kernel_rfl) (fun _ _ _ h => h) (by kernel_rfl) (by assumption) ?_
        try simp only [Act.put, List.setIfInBounds_toArray, List.set_cons_zero, List.set_cons_succ]
        refine h_skip 12 (some 83) rfl rfl (by kernel_rfl) (by kernel_rfl) (by kernel_rfl) (fun _ _ _ h => h) (by kernel_rfl) (by assumption) ?_
        try simp only [Act.put, List.setIfInBounds_toArray, List.set_cons_zero, List.set_cons_succ]
        refine h_skip 13 (some 84) rfl rfl (by kernel_rfl) (by kernel_rfl) (by kernel_rfl) (fun _ _ _ h => h) (by kernel_rfl) (by assumption) ?_
        try simp only [Act.put, List.setIfInBounds_toArray, List.set_cons_zero, List.set_cons_succ]
        refine h_skip 14 (some 85) rfl rfl (by kernel_rfl) (by kernel_rfl) (by kernel_rfl) (fun _ _ _ h => h) (by kernel_rfl) (by assumption) ?_
        try simp only [Act.put, List.setIfInBounds_toArray, List.set_cons_zero, List.set_cons_succ]
        refine h_take 15 (some 86) (.bool true) rfl rfl (by kernel_rfl) (by kernel_rfl) (by kernel_rfl) (fun _ _ _ h => h) (by kernel_rfl) ?_ (by assumption) ?_
        · intro w hSw; (try dsimp only at hSw); go_simp
          all_goals first | with_reducible rfl | omega | (simp; omega)
        try simp only [Act.put, List.setIfInBounds_toArray, List.set_cons_zero, List.set_cons_succ]
        refine h_take 16 (some 2) (?_) rfl rfl (by kernel_rfl) (by kernel_rfl) (by kernel_rfl) (fun _ _ _ h => h) (by kernel_rfl) ?_ (by assumption) ?_
        rotate_left
        · intro w hSw; (try dsimp only at hSw); go_simp
          all_goals first | with_reducible rfl | omega | (simp; omega)
        try simp only [Act.put, List.setIfInBounds_toArray, List.set_cons_zero, List.set_cons_succ]
        refine wpAnyH_done (by kernel_rfl) ?_ _
        obtain ⟨hB, _⟩ := hHeld
        have hB1 : Below W.heap.size W _ := bel_trans GX hB
        go_wp2
        go_ret
        exact ⟨rfl, hB1⟩
      · obtain ⟨pp, r, b, oo, rfl, rfl, hpr, hrn, rfl, hO2, hq20, hPQ⟩ := HIS.out rfl
        have hq2 : t2.size ≤ 9223372036854775807 := by omega
        have hrc : r ≤ c2 := by omega
        have hpc : ¬ (c2 = pp) := by omega
        have hpr1 : pp ≤ r := by omega
        have HO2 := Lib.hid hO2; have HPQ := Lib.hid hPQ; clear hO2 hPQ
        refine wp_region_held_drew (S := (fun w' => Below w6.heap.size w6 w' ∧ w'.cell? ⟨w5.heap.size, 0, none⟩ = some (.int .i64 k2) ∧ w'.cell? ⟨w5.heap.size, 1, none⟩ = some (.int .i64 m2) ∧ w'.cell? ⟨w5.heap.size, 2, none⟩ = some (.string t2))) (by kernel_rfl) ?_ (fun hHeld => ?_)
        · (try dsimp only) <;> (((refine (fun hB => ⟨hB, old_cell hB b0, old_cell hB b1, old_cell hB b2⟩ : Below w6.heap.size w6 _ → _) ?_); (repeat (first | exact bel_refl _ | exact bel_drew (bel_refl _) | exact bel_drew (bel_alloc (bel_refl _) _) | exact bel_trans (And.left (by assumption)) (by assumption) | exact bel_alloc (And.left (by assumption)) _ | exact bel_drewN (And.left (by assumption)) _ | assumption))))
        refine h_take 0 (some 71) (.bool true) rfl rfl (by kernel_rfl) (by kernel_rfl) (by kernel_rfl) (fun _ _ _ h => h) (by kernel_rfl) ?_ (by assumption) ?_
        · intro w hSw; (try dsimp only at hSw); go_simp
          all_goals first | with_reducible rfl | omega | (simp; omega)
        try simp only [Act.put, List.setIfInBounds_toArray, List.set_cons_zero, List.set_cons_succ]
        refine h_take 1 (some 72) (.bool false) rfl rfl (by kernel_rfl) (by kernel_rfl) (by kernel_rfl) (fun _ _ _ h => h) (by kernel_rfl) ?_ (by assumption) ?_
        · intro w hSw; (try dsimp only at hSw); go_simp
          all_goals first | with_reducible rfl | omega | (simp; omega)
        try simp only [Act.put, List.setIfInBounds_toArray, List.set_cons_zero, List.set_cons_succ]
        refine h_take 2 (some 73) (.bool false) rfl rfl (by kernel_rfl) (by kernel_rfl) (by kernel_rfl) (fun _ _ _ h => h) (by kernel_rfl) ?_ (by assumption) ?_
        · intro w hSw; (try dsimp only at hSw); go_simp
          all_goals first | with_reducible rfl | omega | (simp; omega)
        try simp only [Act.put, List.setIfInBounds_toArray, List.set_cons_zero, List.set_cons_succ]
        refine h_take 3 (some 74) (?_) rfl rfl (by kernel_rfl) (by kernel_rfl) (by kernel_rfl) (fun _ _ _ h => h) (by kernel_rfl) ?_ (by assumption) ?_
        rotate_left
        · intro w hSw; (try dsimp only at hSw); go_simp
          all_goals first | with_reducible rfl | omega | (simp; omega)
        try simp only [Act.put, List.setIfInBounds_toArray, List.set_cons_zero, List.set_cons_succ]
        refine h_call 4 (by kernel_rfl) rfl (by kernel_rfl) (fun K hK => ?_)
        go_simp
        refine (implValOk_any k2 m2 t2 _ hq2).mono ?_
        rw [HO2.out]
        rintro e wa ⟨rfl, hb⟩
        refine hK.out _ _ ?_ (fun hHeld => ?_)
        · (try dsimp only) <;> (((refine (fun hB => ⟨hB, old_cell hB b0, old_cell hB b1, old_cell hB b2⟩ : Below w6.heap.size w6 _ → _) ?_); (repeat (first | exact bel_refl _ | exact bel_drew (bel_refl _) | exact bel_drew (bel_alloc (bel_refl _) _) | exact bel_trans (And.left (by assumption)) (by assumption) | exact bel_alloc (And.left (by assumption)) _ | exact bel_drewN (And.left (by assumption)) _ | assumption))))
        clear hK K
        try simp only [Act.put, List.setIfInBounds_toArray, List.set_cons_zero, List.set_cons_succ]
        refine h_take 5 (some 76) (.bool true) rfl rfl (by kernel_rfl) (by kernel_rfl) (by kernel_rfl) (fun _ _ _ h => h) (by kernel_rfl) ?_ (by assumption) ?_
        · intro w hSw; (try dsimp only at hSw); go_simp
          all_goals first | with_reducible rfl | omega | (simp; omega)
        try simp only [Act.put, List.setIfInBounds_toArray, List.set_cons_zero, List.set_cons_succ]
        refine h_take 7 (some 78) (?_) rfl rfl (by kernel_rfl) (by kernel_rfl) (by kernel_rfl) (fun _ _ _ h => h) (by kernel_rfl) ?_ (by assumption) ?_
        rotate_left
        · intro w hSw; (try dsimp only at hSw); go_simp
          all_goals first | with_reducible rfl | omega | (simp; omega)
        try simp only [Act.put, List.setIfInBounds_toArray, List.set_cons_zero, List.set_cons_succ]
        refine h_take 9 (some 80) (?_) rfl rfl (by kernel_rfl) (by kernel_rfl) (by kernel_rfl) (fun _ _ _ h => h) (by kernel_rfl) ?_ (by assumption) ?_
        rotate_left
        · intro w hSw; (try dsimp only at hSw); go_simp
          all_goals first | with_reducible rfl | omega | (simp; omega)
        try simp only [Act.put, List.setIfInBounds_toArray, List.set_cons_zero, List.set_cons_succ]
        refine h_take 10 (some 81) (?_) rfl rfl (by kernel_rfl) (by kernel_rfl) (by kernel_rfl) (fun _ _ _ h => h) (by kernel_rfl) ?_ (by assumption) ?_
        rotate_left
        · intro w hSw; (try dsimp only at hSw); go_simp
          all_goals first | with_reducible rfl | omega | (simp; omega)
        try simp only [Act.put, List.setIfInBounds_toArray, List.set_cons_zero, List.set_cons_succ]
        refine h_take 11 (some 82) (?_) rfl rfl (by kernel_rfl) (by kernel_rfl) (by kernel_rfl) (fun _ _ _ h => h) (by kernel_rfl) ?_ (by assumption) ?_
        rotate_left
        · intro w hSw; (try dsimp only at hSw); go_simp
          all_goals first | with_reducible rfl | omega | (simp; omega)
        try simp only [Act.put, List.setIfInBounds_toArray, List.set_cons_zero, List.set_cons_succ]
        refine h_take 12 (some 83) (.slice (some ⟨b, oo + pp, none⟩) (r - pp) (c2 - pp)) rfl rfl (by kernel_rfl) (by kernel_rfl) (by kernel_rfl) (fun _ _ _ h => h) (by kernel_rfl) ?_ (by assumption) ?_
        · intro w hSw; (try dsimp only at hSw); go_simp
          all_goals (simp [hrc, hpc])
        try simp only [Act.put, List.setIfInBounds_toArray, List.set_cons_zero, List.set_cons_succ]
        refine h_call 6 (by kernel_rfl) rfl (by kernel_rfl) (fun K hK => ?_)
        go_simp
        refine hK.out _ _ ?_ (fun hHeld => ?_)
        · (try dsimp only) <;> (((refine (fun hB => ⟨hB, old_cell hB b0, old_cell hB b1, old_cell hB b2⟩ : Below w6.heap.size w6 _ → _) ?_); (repeat (first | exact bel_refl _ | exact bel_drew (bel_refl _) | exact bel_drew (bel_alloc (bel_refl _) _) | exact bel_trans (And.left (by assumption)) (by assumption) | exact bel_alloc (And.left (by assumption)) _ | exact bel_drewN (And.left (by assumption)) _ | assumption))))
        clear hK K
        try simp only [Act.put, List.setIfInBounds_toArray, List.set_cons_zero, List.set_cons_succ]
        refine h_call 8 (by kernel_rfl) rfl (by kernel_rfl) (fun K hK => ?_)
        go_simp
        refine (implPutVal_any _ 0 _ [] k2 m2 t2 _ 0 (RdB.nil_ _ _ _) (Nat.zero_le _) (by omega) (by omega)).mono ?_
        rw [List.nil_append]
        rintro e wb ⟨vb, rfl, hob, hb, hsb⟩
        obtain ⟨Ab, cb, rfl, hcb, _⟩ := hob.form
        refine hK.out _ _ ?_ (fun hHeld => ?_)
        · (try dsimp only) <;> (((refine (fun hB => ⟨hB, old_cell hB b0, old_cell hB b1, old_cell hB b2⟩ : Below w6.heap.size w6 _ → _) ?_); (repeat (first | exact bel_refl _ | exact bel_drew (bel_refl _) | exact bel_drew (bel_alloc (bel_refl _) _) | exact bel_trans (And.left (by assumption)) (by assumption) | exact bel_alloc (And.left (by assumption)) _ | exact bel_drewN (And.left (by assumption)) _ | assumption))))
        clear hK K
        try simp only [Act.put, List.setIfInBounds_toArray, List.set_cons_zero, List.set_cons_succ]
        refine h_call 13 (by kernel_rfl) rfl (by kernel_rfl) (fun K hK => ?_)
        go_simp
        have hcut := ((ry4.kept (And.left (by assumption) : Below w6.heap.size w6 _)).b.cut pp (r - pp) (by omega))
        simp only [Option.map_some, add_lit'] at hcut
        refine (sameBytes_any _ _ _ _ _ _ _ _ _ wb.heap.size hob.rdO.b (hcut.more (by have := ry4.1; have := Below.size (And.left (by assumption) : Below w6.heap.size w6 wb); omega)) (by have := putV_len ⟨k2, m2, t2⟩; simp only at this; omega)).mono ?_
        rw [decide_eq_true HPQ.out]
        rintro e wc ⟨rfl, mm, rfl⟩
        refine hK.out _ _ ?_ (fun hHeld => ?_)
        · (try dsimp only) <;> (((refine (fun hB => ⟨hB, old_cell hB b0, old_cell hB b1, old_cell hB b2⟩ : Below w6.heap.size w6 _ → _) ?_); (repeat (first | exact bel_refl _ | exact bel_drew (bel_refl _) | exact bel_drew (bel_alloc (bel_refl _) _) | exact bel_trans (And.left (by assumption)) (by assumption) | exact bel_alloc (And.left (by assumption)) _ | exact bel_drewN (And.left (by assumption)) _ | assumption))))
        clear hK K
        try simp only [Act.put, List.setIfInBounds_toArray, List.set_cons_zero, List.set_cons_succ]
        refine h_take 14 (some 85) (.bool true) rfl rfl (by kernel_rfl) (by kernel_rfl) (by kernel_rfl) (fun _ _ _ h => h) (by kernel_rfl) ?_ (by assumption) ?_
        · intro w hSw; (try dsimp only at hSw); go_simp
          all_goals first | with_reducible rfl | omega | (simp; omega)
        try simp only [Act.put, List.setIfInBounds_toArray, List.set_cons_zero, List.set_cons_succ]
        refine h_take 15 (some 86) (.bool true) rfl rfl (by kernel_rfl) (by kernel_rfl) (by kernel_rfl) (fun _ _ _ h => h) (by kernel_rfl) ?_ (by assumption) ?_
        · intro w hSw; (try dsimp only at hSw); go_simp
          all_goals first | with_reducible rfl | omega | (simp; omega)
        try simp only [Act.put, List.setIfInBounds_toArray, List.set_cons_zero, List.set_cons_succ]
        refine h_take 16 (some 2) (?_) rfl rfl (by kernel_rfl) (by kernel_rfl) (by kernel_rfl) (fun _ _ _ h => h) (by kernel_rfl) ?_ (by assumption) ?_
        rotate_left
        · intro w hSw; (try dsimp only at hSw); go_simp
          all_goals first | with_reducible rfl | omega | (simp; omega)
        try simp only [Act.put, List.setIfInBounds_toArray, List.set_cons_zero, List.set_cons_succ]
        refine wpAnyH_done (by kernel_rfl) ?_ _
        obtain ⟨hB, _⟩ := hHeld
        have hB1 : Below W.heap.size W _ := bel_trans GX hB
        go_wp2
        go_ret
        exact ⟨rfl, hB1⟩
    · obtain ⟨hok, hte⟩ := parseV_yes HP.out
      have HO := Lib.hid hok; have HX := Lib.hid hte; clear hok hte
      go_wp2_with fail
      refine (implValOk_any k m t _ hq).mono ?_
      rw [HO.out]
      rintro e w7 ⟨rfl, hb⟩
      have gx : Below w6.heap.size w6 w7 := (by repeat (first | with_reducible exact bel_refl _ | with_reducible assumption | with_reducible refine bel_set ?_ (by first | (simp; done) | (simp; omega) | omega) _ | with_reducible refine bel_alloc ?_ _ | with_reducible refine bel_drew ?_ | with_reducible refine bel_drewN ?_ _ | with_reducible refine bel_trans ?_ (by assumption)))
      replace a0 := old_cell gx a0; replace a1 := old_cell gx a1; replace a2 := old_cell gx a2
      have za := cell_lt a0
      dsimp only at za
      go_wp2_with fail
      refine (implValText_any k m t _ (HTT.out.kept (by repeat (first | with_reducible exact bel_refl _ | with_reducible assumption | with_reducible refine bel_set ?_ (by first | (simp; done) | (simp; omega) | omega) _ | with_reducible refine bel_alloc ?_ _ | with_reducible refine bel_drew ?_ | with_reducible refine bel_drewN ?_ _ | with_reducible refine bel_trans ?_ (by assumption)))) hq).mono ?_
      rw [HX.out]
      rintro e w8 ⟨rfl, hb⟩
      have gy : Below w6.heap.size w6 w8 := bel_trans gx hb
      replace b0 := old_cell gy b0; replace b1 := old_cell gy b1; replace b2 := old_cell gy b2
      replace ry4 := ry4.kept gy
      have g8 := bel_trans g6 gy
      clear gx gy hb
      go_upto_region 11 with fail
      have GX := g8
      cases is
      · skip
        refine wp_region_held_drew (S := (fun w' => Below w8.heap.size w8 w' ∧ w'.cell? ⟨w5.heap.size, 0, none⟩ = some (.int .i64 k2) ∧ w'.cell? ⟨w5.heap.size, 1, none⟩ = some (.int .i64 m2) ∧ w'.cell? ⟨w5.heap.size, 2, none⟩ = some (.string t2))) (by kernel_rfl) ?_ (fun hHeld => ?_)
        · (try dsimp only) <;> (((refine (fun hB => ⟨hB, old_cell hB b0, old_cell hB b1, old_cell hB b2⟩ : Below w8.heap.size w8 _ → _) ?_); (repeat (first | exact bel_refl _ | exact bel_drew (bel_refl _) | exact bel_drew (bel_alloc (bel_refl _) _) | exact bel_trans (And.left (by assumption)) (by assumption) | exact bel_alloc (And.left (by assumption)) _ | exact bel_drewN (And.left (by assumption)) _ | assumption))))
        refine h_take 0 (some 71) (.bool false) rfl rfl (by kernel_rfl) (by kernel_rfl) (by kernel_rfl) (fun _ _ _ h => h) (by kernel_rfl) ?_ (by assumption) ?_
        · intro w hSw; (try dsimp only at hSw); go_simp
          all_goals first | with_reducible rfl | omega | (simp; omega)
        try simp only [Act.put, List.setIfInBounds_toArray, List.set_cons_zero, List.set_cons_succ]
        refine h_take 1 (some 72) (.bool true) rfl rfl (by kernel_rfl) (by kernel_rfl) (by kernel_rfl) (fun _ _ _ h => h) (by kernel_rfl) ?_ (by assumption) ?_
        · intro w hSw; (try dsimp only at hSw); go_simp
          all_goals first | with_reducible rfl | omega | (simp; omega)
        try simp only [Act.put, List.setIfInBounds_toArray, List.set_cons_zero, List.set_cons_succ]
        refine h_take 2 (some 73) (.bool true) rfl rfl (by kernel_rfl) (by kernel_rfl) (by kernel_rfl) (fun _ _ _ h => h) (by kernel_rfl) ?_ (by assumption) ?_
        · intro w hSw; (try dsimp only at hSw); go_simp
          all_goals first | with_reducible rfl | omega | (simp; omega)
        try simp only [Act.put, List.setIfInBounds_toArray, List.set_cons_zero, List.set_cons_succ]
        refine h_skip 3 (some 74) rfl rfl (by kernel_rfl) (by kernel_rfl) (by kernel_rfl) (fun _ _ _ h => h) (by kernel_rfl) (by assumption) ?_
        try simp only [Act.put, List.setIfInBounds_toArray, List.set_cons_zero, List.set_cons_succ]
        refine h_skip 4 (some 75) rfl rfl (by kernel_rfl) (by kernel_rfl) (by kernel_rfl) (fun _ _ _ h => h) (by kernel_rfl) (by assumption) ?_
        try simp only [Act.put, List.setIfInBounds_toArray, List.set_cons_zero, List.set_cons_succ]
        refine h_skip 5 (some 76) rfl rfl (by kernel_rfl) (by kernel_rfl) (by kernel_rfl) (fun _ _ _ h => h) (by kernel_rfl) (by assumption) ?_
        try simp only [Act.put, List.setIfInBounds_toArray, List.set_cons_zero, List.set_cons_succ]
        refine h_skip 6 (some 77) rfl rfl (by kernel_rfl) (by kernel_rfl) (by kernel_rfl) (fun _ _ _ h => h) (by kernel_rfl) (by assumption) ?_
        try simp only [Act.put, List.setIfInBounds_toArray, List.set_cons_zero, List.set_cons_succ]
        refine h_skip 7 (some 78) rfl rfl (by kernel_rfl) (by kernel_rfl) (by kernel_rfl) (fun _ _ _ h => h) (by kernel_rfl) (by assumption) ?_
        try simp only [Act.put, List.setIfInBounds_toArray, List.set_cons_zero, List.set_cons_succ]
        refine h_skip 8 (some 79) rfl rfl (by kernel_rfl) (by kernel_rfl) (by kernel_rfl) (fun _ _ _ h => h) (by kernel_rfl) (by assumption) ?_
        try simp only [Act.put, List.setIfInBounds_toArray, List.set_cons_zero, List.set_cons_succ]
        refine h_skip 9 (some 80) rfl rfl (by kernel_rfl) (by kernel_rfl) (by kernel_rfl) (fun _ _ _ h => h) (by kernel_rfl) (by assumption) ?_
        try simp only [Act.put, List.setIfInBounds_toArray, List.set_cons_zero, List.set_cons_succ]
        refine h_skip 10 (some 81) rfl rfl (by kernel_rfl) (by kernel_rfl) (by kernel_rfl) (fun _ _ _ h => h) (by kernel_rfl) (by assumption) ?_
        try simp only [Act.put, List.setIfInBounds_toArray, List.set_cons_zero, List.set_cons_succ]
        refine h_skip 11 (some 82) rfl rfl (by kernel_rfl) (by kernel_rfl) (by kernel_rfl) (fun _ _ _ h => h) (by kernel_rfl) (by assumption) ?_
        try simp only [Act.put, List.setIfInBounds_toArray, List.set_cons_zero, List.set_cons_succ]
        refine h_skip 12 (some 83) rfl rfl (by kernel_rfl) (by kernel_rfl) (by kernel_rfl) (fun _ _ _ h => h) (by kernel_rfl) (by assumption) ?_
        try simp only [Act.put, List.setIfInBounds_toArray, List.set_cons_zero, List.set_cons_succ]
        refine h_skip 13 (some 84) rfl rfl (by kernel_rfl) (by kernel_rfl) (by kernel_rfl) (fun _ _ _ h => h) (by kernel_rfl) (by assumption) ?_
        try simp only [Act.put, List.setIfInBounds_toArray, List.set_cons_zero, List.set_cons_succ]
        refine h_skip 14 (some 85) rfl rfl (by kernel_rfl) (by kernel_rfl) (by kernel_rfl) (fun _ _ _ h => h) (by kernel_rfl) (by assumption) ?_
        try simp only [Act.put, List.setIfInBounds_toArray, List.set_cons_zero, List.set_cons_succ]
        refine h_take 15 (some 86) (.bool true) rfl rfl (by kernel_rfl) (by kernel_rfl) (by kernel_rfl) (fun _ _ _ h => h) (by kernel_rfl) ?_ (by assumption) ?_
        · intro w hSw; (try dsimp only at hSw); go_simp
          all_goals first | with_reducible rfl | omega | (simp; omega)
        try simp only [Act.put, List.setIfInBounds_toArray, List.set_cons_zero, List.set_cons_succ]
        refine h_take 16 (some 2) (?_) rfl rfl (by kernel_rfl) (by kernel_rfl) (by kernel_rfl) (fun _ _ _ h => h) (by kernel_rfl) ?_ (by assumption) ?_
        rotate_left
        · intro w hSw; (try dsimp only at hSw); go_simp
          all_goals first | with_reducible rfl | omega | (simp; omega)
        try simp only [Act.put, List.setIfInBounds_toArray, List.set_cons_zero, List.set_cons_succ]
        refine wpAnyH_done (by kernel_rfl) ?_ _
        obtain ⟨hB, _⟩ := hHeld
        have hB1 : Below W.heap.size W _ := bel_trans GX hB
        go_wp2
        go_ret
        exact ⟨rfl, hB1⟩
      · obtain ⟨pp, r, b, oo, rfl, rfl, hpr, hrn, rfl, hO2, hq20, hPQ⟩ := HIS.out rfl
        have hq2 : t2.size ≤ 9223372036854775807 := by omega
        have hrc : r ≤ c2 := by omega
        have hpc : ¬ (c2 = pp) := by omega
        have hpr1 : pp ≤ r := by omega
        have HO2 := Lib.hid hO2; have HPQ := Lib.hid hPQ; clear hO2 hPQ
        refine wp_region_held_drew (S := (fun w' => Below w8.heap.size w8 w' ∧ w'.cell? ⟨w5.heap.size, 0, none⟩ = some (.int .i64 k2) ∧ w'.cell? ⟨w5.heap.size, 1, none⟩ = some (.int .i64 m2) ∧ w'.cell? ⟨w5.heap.size, 2, none⟩ = some (.string t2))) (by kernel_rfl) ?_ (fun hHeld => ?_)
        · (try dsimp only) <;> (((refine (fun hB => ⟨hB, old_cell hB b0, old_cell hB b1, old_cell hB b2⟩ : Below w8.heap.size w8 _ → _) ?_); (repeat (first | exact bel_refl _ | exact bel_drew (bel_refl _) | exact bel_drew (bel_alloc (bel_refl _) _) | exact bel_trans (And.left (by assumption)) (by assumption) | exact bel_alloc (And.left (by assumption)) _ | exact bel_drewN (And.left (by assumption)) _ | assumption))))
        refine h_take 0 (some 71) (.bool true) rfl rfl (by kernel_rfl) (by kernel_rfl) (by kernel_rfl) (fun _ _ _ h => h) (by kernel_rfl) ?_ (by assumption) ?_
        · intro w hSw; (try dsimp only at hSw); go_simp
          all_goals first | with_reducible rfl | omega | (simp; omega)
        try simp only [Act.put, List.setIfInBounds_toArray, List.set_cons_zero, List.set_cons_succ]
        refine h_take 1 (some 72) (.bool false) rfl rfl (by kernel_rfl) (by kernel_rfl) (by kernel_rfl) (fun _ _ _ h => h) (by kernel_rfl) ?_ (by assumption) ?_
        · intro w hSw; (try dsimp only at hSw); go_simp
          all_goals first | with_reducible rfl | omega | (simp; omega)
        try simp only [Act.put, List.setIfInBounds_toArray, List.set_cons_zero, List.set_cons_succ]
        refine h_take 2 (some 73) (.bool false) rfl rfl (by kernel_rfl) (by kernel_rfl) (by kernel_rfl) (fun _ _ _ h => h) (by kernel_rfl) ?_ (by assumption) ?_
        · intro w hSw; (try dsimp only at hSw); go_simp
          all_goals first | with_reducible rfl | omega | (simp; omega)
        try simp only [Act.put, List.setIfInBounds_toArray, List.set_cons_zero, List.set_cons_succ]
        refine h_take 3 (some 74) (?_) rfl rfl (by kernel_rfl) (by kernel_rfl) (by kernel_rfl) (fun _ _ _ h => h) (by kernel_rfl) ?_ (by assumption) ?_
        rotate_left
        · intro w hSw; (try dsimp only at hSw); go_simp
          all_goals first | with_reducible rfl | omega | (simp; omega)
        try simp only [Act.put, List.setIfInBounds_toArray, List.set_cons_zero, List.set_cons_succ]
        refine h_call 4 (by kernel_rfl) rfl (by kernel_rfl) (fun K hK => ?_)
        go_simp
        refine (implValOk_any k2 m2 t2 _ hq2).mono ?_
        rw [HO2.out]
        rintro e wa ⟨rfl, hb⟩
        refine hK.out _ _ ?_ (fun hHeld => ?_)
        · (try dsimp only) <;> (((refine (fun hB => ⟨hB, old_cell hB b0, old_cell hB b1, old_cell hB b2⟩ : Below w8.heap.size w8 _ → _) ?_); (repeat (first | exact bel_refl _ | exact bel_drew (bel_refl _) | exact bel_drew (bel_alloc (bel_refl _) _) | exact bel_trans (And.left (by assumption)) (by assumption) | exact bel_alloc (And.left (by assumption)) _ | exact bel_drewN (And.left (by assumption)) _ | assumption))))
        clear hK K
        try simp only [Act.put, List.setIfInBounds_toArray, List.set_cons_zero, List.set_cons_succ]
        refine h_take 5 (some 76) (.bool true) rfl rfl (by kernel_rfl) (by kernel_rfl) (by kernel_rfl) (fun _ _ _ h => h) (by kernel_rfl) ?_ (by assumption) ?_
        · intro w hSw; (try dsimp only at hSw); go_simp
          all_goals first | with_reducible rfl | omega | (simp; omega)
        try simp only [Act.put, List.setIfInBounds_toArray, List.set_cons_zero, List.set_cons_succ]
        refine h_take 7 (some 78) (?_) rfl rfl (by kernel_rfl) (by kernel_rfl) (by kernel_rfl) (fun _ _ _ h => h) (by kernel_rfl) ?_ (by assumption) ?_
        rotate_left
        · intro w hSw; (try dsimp only at hSw); go_simp
          all_goals first | with_reducible rfl | omega | (simp; omega)
        try simp only [Act.put, List.setIfInBounds_toArray, List.set_cons_zero, List.set_cons_succ]
        refine h_take 9 (some 80) (?_) rfl rfl (by kernel_rfl) (by kernel_rfl) (by kernel_rfl) (fun _ _ _ h => h) (by kernel_rfl) ?_ (by assumption) ?_
        rotate_left
        · intro w hSw; (try dsimp only at hSw); go_simp
          all_goals first | with_reducible rfl | omega | (simp; omega)
        try simp only [Act.put, List.setIfInBounds_toArray, List.set_cons_zero, List.set_cons_succ]
        refine h_take 10 (some 81) (?_) rfl rfl (by kernel_rfl) (by kernel_rfl) (by kernel_rfl) (fun _ _ _ h => h) (by kernel_rfl) ?_ (by assumption) ?_
        rotate_left
        · intro w hSw; (try dsimp only at hSw); go_simp
          all_goals first | with_reducible rfl | omega | (simp; omega)
        try simp only [Act.put, List.setIfInBounds_toArray, List.set_cons_zero, List.set_cons_succ]
        refine h_take 11 (some 82) (?_) rfl rfl (by kernel_rfl) (by kernel_rfl) (by kernel_rfl) (fun _ _ _ h => h) (by kernel_rfl) ?_ (by assumption) ?_
        rotate_left
        · intro w hSw; (try dsimp only at hSw); go_simp
          all_goals first | with_reducible rfl | omega | (simp; omega)
        try simp only [Act.put, List.setIfInBounds_toArray, List.set_cons_zero, List.set_cons_succ]
        refine h_take 12 (some 83) (.slice (some ⟨b, oo + pp, none⟩) (r - pp) (c2 - pp)) rfl rfl (by kernel_rfl) (by kernel_rfl) (by kernel_rfl) (fun _ _ _ h => h) (by kernel_rfl) ?_ (by assumption) ?_
        · intro w hSw; (try dsimp only at hSw); go_simp
          all_goals (simp [hrc, hpc])
        try simp only [Act.put, List.setIfInBounds_toArray, List.set_cons_zero, List.set_cons_succ]
        refine h_call 6 (by kernel_rfl) rfl (by kernel_rfl) (fun K hK => ?_)
        go_simp
        refine hK.out _ _ ?_ (fun hHeld => ?_)
        · (try dsimp only) <;> (((refine (fun hB => ⟨hB, old_cell hB b0, old_cell hB b1, old_cell hB b2⟩ : Below w8.heap.size w8 _ → _) ?_); (repeat (first | exact bel_refl _ | exact bel_drew (bel_refl _) | exact bel_drew (bel_alloc (bel_refl _) _) | exact bel_trans (And.left (by assumption)) (by assumption) | exact bel_alloc (And.left (by assumption)) _ | exact bel_drewN (And.left (by assumption)) _ | assumption))))
        clear hK K
        try simp only [Act.put, List.setIfInBounds_toArray, List.set_cons_zero, List.set_cons_succ]
        refine h_call 8 (by kernel_rfl) rfl (by kernel_rfl) (fun K hK => ?_)
        go_simp
        refine (implPutVal_any _ 0 _ [] k2 m2 t2 _ 0 (RdB.nil_ _ _ _) (Nat.zero_le _) (by omega) (by omega)).mono ?_
        rw [List.nil_append]
        rintro e wb ⟨vb, rfl, hob, hb, hsb⟩
        obtain ⟨Ab, cb, rfl, hcb, _⟩ := hob.form
        refine hK.out _ _ ?_ (fun hHeld => ?_)
        · (try dsimp only) <;> (((refine (fun hB => ⟨hB, old_cell hB b0, old_cell hB b1, old_cell hB b2⟩ : Below w8.heap.size w8 _ → _) ?_); (repeat (first | exact bel_refl _ | exact bel_drew (bel_refl _) | exact bel_drew (bel_alloc (bel_refl _) _) | exact bel_trans (And.left (by assumption)) (by assumption) | exact bel_alloc (And.left (by assumption)) _ | exact bel_drewN (And.left (by assumption)) _ | assumption))))
        clear hK K
        try simp only [Act.put, List.setIfInBounds_toArray, List.set_cons_zero, List.set_cons_succ]
        refine h_call 13 (by kernel_rfl) rfl (by kernel_rfl) (fun K hK => ?_)
        go_simp
        have hcut := ((ry4.kept (And.left (by assumption) : Below w8.heap.size w8 _)).b.cut pp (r - pp) (by omega))
        simp only [Option.map_some, add_lit'] at hcut
        refine (sameBytes_any _ _ _ _ _ _ _ _ _ wb.heap.size hob.rdO.b (hcut.more (by have := ry4.1; have := Below.size (And.left (by assumption) : Below w8.heap.size w8 wb); omega)) (by have := putV_len ⟨k2, m2, t2⟩; simp only at this; omega)).mono ?_
        rw [decide_eq_true HPQ.out]
        rintro e wc ⟨rfl, mm, rfl⟩
        refine hK.out _ _ ?_ (fun hHeld => ?_)
        · (try dsimp only) <;> (((refine (fun hB => ⟨hB, old_cell hB b0, old_cell hB b1, old_cell hB b2⟩ : Below w8.heap.size w8 _ → _) ?_); (repeat (first | exact bel_refl _ | exact bel_drew (bel_refl _) | exact bel_drew (bel_alloc (bel_refl _) _) | exact bel_trans (And.left (by assumption)) (by assumption) | exact bel_alloc (And.left (by assumption)) _ | exact bel_drewN (And.left (by assumption)) _ | assumption))))
        clear hK K
        try simp only [Act.put, List.setIfInBounds_toArray, List.set_cons_zero, List.set_cons_succ]
        refine h_take 14 (some 85) (.bool true) rfl rfl (by kernel_rfl) (by kernel_rfl) (by kernel_rfl) (fun _ _ _ h => h) (by kernel_rfl) ?_ (by assumption) ?_
        · intro w hSw; (try dsimp only at hSw); go_simp
          all_goals first | with_reducible rfl | omega | (simp; omega)
        try simp only [Act.put, List.setIfInBounds_toArray, List.set_cons_zero, List.set_cons_succ]
        refine h_take 15 (some 86) (.bool true) rfl rfl (by kernel_rfl) (by kernel_rfl) (by kernel_rfl) (fun _ _ _ h => h) (by kernel_rfl) ?_ (by assumption) ?_
        · intro w hSw; (try dsimp only at hSw); go_simp
          all_goals first | with_reducible rfl | omega | (simp; omega)
        try simp only [Act.put, List.setIfInBounds_toArray, List.set_cons_zero, List.set_cons_succ]
        refine h_take 16 (some 2) (?_) rfl rfl (by kernel_rfl) (by kernel_rfl) (by kernel_rfl) (fun _ _ _ h => h) (by kernel_rfl) ?_ (by assumption) ?_
        rotate_left
        · intro w hSw; (try dsimp only at hSw); go_simp
          all_goals first | with_reducible rfl | omega | (simp; omega)
        try simp only [Act.put, List.setIfInBounds_toArray, List.set_cons_zero, List.set_cons_succ]
        refine wpAnyH_done (by kernel_rfl) ?_ _
        obtain ⟨hB, _⟩ := hHeld
        have hB1 : Below W.heap.size W _ := bel_trans GX hB
        go_wp2
        go_ret
        exact ⟨rfl, hB1⟩

theorem own : ownKnob Tryd.prog.godebug = none := by kernel_rfl
theorem laidOut : laidOutB Tryd.prog = true := by kernel_rfl
theorem lifted (os : Os) (started : os.Started) (H : Type) (enc : TypeId × Value → H) :
    ReturnsInHanded {} Tryd.checked os 3 .any (fun w args => (Rows.fnValsReadSpec.pre enc Tryd.prog Tryd.f3 [] false w args ∧ laidMetH Tryd.prog laidLE w) ∧ sizedMet enc Tryd.prog Tryd.f3 (OpenSpec.ofChange Rows.fnValsReadSpec) false w args) (Rows.fnValsReadSpec.post enc Tryd.prog Tryd.f3 false true false false) := by
  refine returnsInHanded_of_change_and (C := Tryd.checked) (X := fun w _ => laidMetH Tryd.prog laidLE w) (fun _ _ _ hh h => h.of_heap hh) own started (by kernel_rfl) Tryd.func3
    (ChangeSpec.witness_shaped (enc := enc) (C := Tryd.checked) (os := os) (X := fun w _ => laidMetH Tryd.prog laidLE w) false (World.doorLaid Tryd.prog 400 os) #[.slice none 0 0] 8 rfl (World.shaped_of_RefB (by kernel_rfl) (by kernel_rfl)) (by kernel_rfl) (by kernel_rfl) (by kernel_rfl) (door_metE os _)) ?_
  intro W base args ds gs before hval0 hW _ _ hL _
  have hval : ∀ (j : Nat) t v, Tryd.f3.params[j]? = some t → args[j]? = some v → Value.okWide Tryd.prog W .any base t v := hval0
  have hW' := hW
  obtain ⟨p, q, hA0, hV, rfl, hfz, hnd⟩ := hW
  have hA : DataW.TrodAll enc Tryd.prog W 0 (fun _ => true) true Tryd.f3.params.toList args.toList ds p := hA0
  rw [Tryd.params3] at hA hval
  obtain ⟨v0, vs0, d0, ds0, p0, q0, hargs, rfl, rfl, h0, r0⟩ := trodAll_cons hA
  obtain ⟨rfl, rfl, rfl⟩ := trodAll_nil r0
  obtain rfl : args = #[v0] := by cases args; simp_all
  obtain ⟨rfl, rfl⟩ := trodVars_none hV
  have lt0 : ∀ x ∈ p0, x.block < W.heap.size := by obtain ⟨m, hm⟩ := h0; exact DataW.trod_lt m _ _ _ hm
  obtain ⟨A0, n0, c0, b0, hv0, hs0⟩ := open_bytes Tryd.underlying22 Tryd.underlying5 (by kernel_rfl) (hval 0 22 v0 rfl rfl) h0
  subst hv0
  clear hA0 hval0
  refine (walk A0 n0 c0 b0 W hs0 (tabT_of_laidE hL) (varE_of_laidE hL)).mono fun e W' ⟨he, bel⟩ => ?_
  subst he
  exact ⟨_, rfl, _, _, _, [], _, [], hW', trodAll_mk1 (shut_bool Tryd.underlying4 _), (trodAll_cons_mk (Below.trod laidOut (by kernel_rfl) (of_decide_eq_true (by kernel_rfl)) h0 bel lt0) trodAll_mk0), rfl, bel.frame _, fun h => by cases h⟩
theorem over : Rows.fnValsReadRow.holds Tryd.pinned (OpenSpec.ofChange Rows.fnValsReadSpec) :=
  OpenClaim.holds_of_wide 3 Tryd.f3 rfl rfl rfl rfl rfl rfl rfl ⟨rfl, rfl, rfl, rfl, rfl⟩ rfl rfl rfl rfl rfl (by kernel_rfl) Tryd.func3 (by kernel_rfl)
    (of_decide_eq_true (by kernel_rfl)) (by unfold Func.isWrapper; first | (rw [if_pos (by decide +kernel)]; kernel_rfl) | (rw [if_neg (by decide +kernel)]; exact ⟨rfl, rfl⟩))
    (fun os started H enc _ => lifted os started H enc)
theorem proved : Rows.FnValsReadCardSaid :=
  Claim7.holds_tied_plain_at .later [] laidKE true _ _ over (fun _ h => by cases h) (by kernel_rfl) (fun _ h => by cases h) fnValsRead_row_tie rfl ⟨rfl, rfl⟩ (by kernel_rfl) rfl
    (fun f fn hf hfn => by
      obtain rfl : f = 3 := Option.some.inj ((show Tryd.prog.funcNamed "loop.example/g00282/laws.FnValsRead" = some 3 by kernel_rfl).symm.trans hf) |>.symm
      obtain rfl : fn = Tryd.f3 := (Option.some.inj (Tryd.func3.symm.trans hfn)).symm
      exact ⟨by kernel_rfl, fun j t ht => by
        rw [Tryd.params3] at ht
        have hm : t ∈ [22] := by simpa using Array.mem_of_getElem? ht
        have hall : ([22].all fun u => !Tryd.prog.wantsStandIn u) = true := by kernel_rfl
        exact (show Tryd.prog.wantsStandIn t = false by simpa using List.all_eq_true.1 hall t hm)⟩)
    (by kernel_rfl)
end Go.Proofs.YtemaofcbgmdifaaDoor.fnValsRead
