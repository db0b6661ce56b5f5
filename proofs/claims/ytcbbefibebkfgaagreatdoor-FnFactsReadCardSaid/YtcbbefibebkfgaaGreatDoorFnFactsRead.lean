import Derived.Test.YtcbbefibebkfgaaGreatDoorPkPFLen
import Derived.Test.YtcbbefibebkfgaaGreatDoorPkDrawF
import Derived.Test.YtcbbefibebkfgaaGreatDoorPkPlainFacts
import Derived.Test.YtcbbefibebkfgaaGreatDoorPkFact3
import Derived.Test.YtcbbefibebkfgaaGreatDoorSameB
import Derived.Test.YtcbbefibebkfgaaGreatDoorRows
import Derived.Test.YtcbbefibebkfgaaGreatDoorRead
import Derived.Test.YtcbbefibebkfgaaGreatDoorPkDoorP
import Derived.Test.YtcbbefibebkfgaaGreatDoorCards
import Derived.Test.YtcbbefibebkfgaaGreatDoorTie
import Derived.SevenTiedAt
/- The law FnFactsRead returns true at every input, and leaves what it was given as it was. No condition. -/
namespace Go.Proofs.YtcbbefibebkfgaaGreatDoor.fnFactsRead
open Go.ChangeShapes Go.WideShapes Go.ChangeAt Go.RowKit
open Go.ChangeMaps (open_string shut_string)
set_option linter.unusedVariables false
set_option maxRecDepth 100000
set_option maxHeartbeats 20000000

theorem walk (A : Option Addr) (n c : Nat) (code : List UInt8) (W : World) (hs : n ≤ c ∧ c ≤ maxLen ∧ RdB W W.heap.size A n code) (ht : TabT W) (hv : VarE W) (hm : MaxT W) :
    Calls Tryz.prog 4 #[.slice A n c] W fun e w' => e = .returned (.bool true) ∧ Below W.heap.size W w' := by
  obtain ⟨hnc, _, hr⟩ := hs
  have HTT := Lib.hid ht; have HVV := Lib.hid hv; have HMM := Lib.hid hm; clear ht hv hm
  by_cases hbig : (1048576 : Int) < n
  · go_enter Tryz.func4, Tryz.ntmps4
    go_wp2_with fail
    refine (big_any _ _ _ _).mono ?_
    rw [decide_eq_true hbig]
    rintro e w' ⟨rfl, rfl⟩
    go_wp2
    go_ret
    exact ⟨rfl, Below.refl _ _⟩
  · go_enter Tryz.func4, Tryz.ntmps4
    go_wp2_with fail
    refine (big_any _ _ _ _).mono ?_
    rw [decide_eq_false (by omega)]
    rintro e w' ⟨rfl, rfl⟩
    go_wp2_with fail
    refine (DrawParseFact_any A n c code W _ hr (Nat.le_refl _) (by omega)).mono ?_
    rintro e w1 ⟨s, hss, rfl, gW⟩
    obtain ⟨⟨⟨kd, fs⟩, ok⟩, hpf⟩ : ∃ r, parseF s = r := ⟨_, rfl⟩
    have hfl := parseF_len hpf
    obtain ⟨hkd, hfv⟩ := parseF_small hpf
    have hkz : kd.size ≤ 9223372036854775807 := by omega
    have HFV := Lib.hid (show ∀ x ∈ fs, x.s.size ≤ 9223372036854775807 from fun x hx => by have := hfv x hx; omega)
    have HP := Lib.hid hpf; clear hpf hfv
    obtain ⟨M, hM⟩ : ∃ M, fs.length = M := ⟨_, rfl⟩
    rw [hM] at hfl
    have HLM := Lib.hid hM; clear hM
    go_wp2_with fail
    refine (implParseFact_any s kd fs ok _ (by omega) (HTT.out.kept (by repeat (first | with_reducible exact bel_refl _ | with_reducible assumption | with_reducible refine bel_set ?_ (by first | (simp; done) | (simp; omega) | omega) _ | with_reducible refine bel_alloc ?_ _ | with_reducible refine bel_drew ?_ | with_reducible refine bel_drewN ?_ _ | with_reducible refine bel_trans ?_ (by assumption)))) (HVV.out.kept (by repeat (first | with_reducible exact bel_refl _ | with_reducible assumption | with_reducible refine bel_set ?_ (by first | (simp; done) | (simp; omega) | omega) _ | with_reducible refine bel_alloc ?_ _ | with_reducible refine bel_drew ?_ | with_reducible refine bel_drewN ?_ _ | with_reducible refine bel_trans ?_ (by assumption)))) (HMM.out.kept (by repeat (first | with_reducible exact bel_refl _ | with_reducible assumption | with_reducible refine bel_set ?_ (by first | (simp; done) | (simp; omega) | omega) _ | with_reducible refine bel_alloc ?_ _ | with_reducible refine bel_drew ?_ | with_reducible refine bel_drewN ?_ _ | with_reducible refine bel_trans ?_ (by assumption)))) HP.out).mono ?_
    dsimp only [tupPF]
    rintro e w2 ⟨A6, c6, rfl, ho6, hb⟩
    rw [HLM.out] at ho6 ⊢
    have hr6 := ho6.rdM HLM.out
    have g2 : Below W.heap.size W w2 := bel_trans gW hb
    clear hb gW ho6
    go_wp2_with fail
    refine (specParseFact_any s kd fs ok _ (by omega) HP.out).mono ?_
    dsimp only [tupPF]
    rintro e w3 ⟨A7, c7, rfl, _, hb⟩
    have g3 : Below W.heap.size W w3 := (by repeat (first | with_reducible exact bel_refl _ | with_reducible assumption | with_reducible refine bel_set ?_ (by first | (simp; done) | (simp; omega) | omega) _ | with_reducible refine bel_alloc ?_ _ | with_reducible refine bel_drew ?_ | with_reducible refine bel_drewN ?_ _ | with_reducible refine bel_trans ?_ (by assumption)))
    have a0 := old_cell hb (b := w2.heap.size) (o := 0) (v := .string kd) (by go_simp)
    have a1 := old_cell hb (b := w2.heap.size) (o := 1) (v := .slice A6 M c6) (by go_simp)
    replace hr6 := (hr6.alloc (.cells #[.string kd, .slice A6 M c6] 26)).kept hb
    have za := cell_lt a0
    dsimp only at za
    have gS := g3.size
    clear hb g2
    go_wp2_with fail
    refine (DrawGetFact_any A n c code _ W.heap.size (RdB.below hr (bel_alloc g3 _)) (by simp; omega) (by omega)).mono ?_
    rintro e w4 ⟨A2, n2, c2, bs, i, ⟨hn2, hnc2, hcm⟩, hib, rfl, ry4, hb⟩
    have gx : Below w3.heap.size w3 w4 := bel_trans (bel_alloc (bel_refl w3) _) hb
    replace a0 := old_cell gx a0; replace a1 := old_cell gx a1
    replace hr6 := hr6.kept gx
    have g4 : Below W.heap.size W w4 := bel_trans g3 gx
    have za := cell_lt a0
    dsimp only at za
    have gS := g4.size
    clear hb gx g3
    obtain ⟨⟨⟨kd2, fs2⟩, nx, is⟩, hgv⟩ : ∃ r, getFact bs i = r := ⟨_, rfl⟩
    have hfl2 := getFact_len hgv
    obtain ⟨M2, hM2⟩ : ∃ M2, fs2.length = M2 := ⟨_, rfl⟩
    rw [hM2] at hfl2
    have HLM2 := Lib.hid hM2; have HG := Lib.hid hgv; clear hgv hM2
    go_wp2_with fail
    refine (implGetFact_any A2 n2 c2 i bs kd2 fs2 nx is _ w4.heap.size ry4 (by omega) hnc2 HG.out).mono ?_
    dsimp only [tupGF]
    rintro e w5 ⟨A5, c5, rfl, ho5, hb⟩
    rw [HLM2.out] at ho5 ⊢
    have hr5 := ho5.rdM HLM2.out
    replace a0 := old_cell hb a0; replace a1 := old_cell hb a1
    replace hr6 := hr6.kept hb
    have g5 : Below W.heap.size W w5 := bel_trans g4 hb
    have za := cell_lt a0
    dsimp only at za
    replace ry4 := ry4.kept hb
    have gS := g5.size
    clear hb g4 ho5
    go_wp2_with fail
    refine (specGetFact_any A2 n2 c2 i bs kd2 fs2 nx is _ w4.heap.size (ry4.alloc _) (by omega) hnc2 HG.out).mono ?_
    dsimp only [tupGF]
    rintro e w6 ⟨A8, c8, rfl, _, hb⟩
    have b0 := old_cell hb (b := w5.heap.size) (o := 0) (v := .string kd2) (by go_simp)
    have b1 := old_cell hb (b := w5.heap.size) (o := 1) (v := .slice A5 M2 c5) (by go_simp)
    have gx : Below w5.heap.size w5 w6 := bel_trans (bel_alloc (bel_refl w5) _) hb
    replace a0 := old_cell gx a0; replace a1 := old_cell gx a1
    replace hr6 := hr6.kept gx; replace hr5 := hr5.kept gx
    have g6 : Below W.heap.size W w6 := bel_trans g5 gx
    have za := cell_lt a0
    have zb := cell_lt b0
    dsimp only at za zb
    replace ry4 := ry4.kept gx
    have gS := g6.size
    clear hb gx g5
    have HIS := Lib.hid (show is = true → ∃ (pp r b oo : Nat), i = (pp : Int) ∧ nx = (r : Int) ∧ pp < r ∧ r ≤ n2 ∧ A2 = some ⟨b, oo, none⟩ ∧ factOk ⟨kd2, fs2⟩ = true ∧ (kd2.size ≤ 30 ∧ ∀ x ∈ fs2, x.s.size ≤ 30) ∧ putF ⟨kd2, fs2⟩ = (bs.drop pp).take (r - pp) from fun h => by
      have h1 := HG.out
      rw [h] at h1
      obtain ⟨q1, q2, q3, q4⟩ := getFact_back h1
      have hl := ry4.len
      have hpn := putF_ne ⟨kd2, fs2⟩
      have hlen := congrArg List.length q4
      rw [List.length_drop, List.length_append, List.length_drop] at hlen
      obtain ⟨b, oo, hA, _⟩ := ry4.b.at_ (by omega)
      obtain ⟨r1, r2, r3⟩ := factOk_parts q1
      refine ⟨i.toNat, nx.toNat, b, oo, by omega, by omega, by omega, by omega, hA, q1, ⟨?_, fun x hx => ?_⟩, ?_⟩
      · have r4 : kd2.size ≤ 12 := r1
        omega
      · have := valOk_len (k := x.k) (n := x.n) (s := x.s) (r3 x hx)
        omega
      · rw [q4, List.take_left' (by omega)])
    cases ok
    · go_upto_region 11 with fail
      have GX := g6
      cases is
      · skip
        refine wp_region_held_drew (S := (fun w' => Below w6.heap.size w6 w' ∧ w'.cell? ⟨w5.heap.size, 0, none⟩ = some (.string kd2) ∧ w'.cell? ⟨w5.heap.size, 1, none⟩ = some (.slice A5 M2 c5))) (by kernel_rfl) ?_ (fun hHeld => ?_)
        · (try dsimp only) <;> (((refine (fun hB => ⟨hB, old_cell hB b0, old_cell hB b1⟩ : Below w6.heap.size w6 _ → _) ?_); (repeat (first | exact bel_refl _ | exact bel_drew (bel_refl _) | exact bel_drew (bel_alloc (bel_refl _) _) | exact bel_trans (And.left (by assumption)) (by assumption) | exact bel_alloc (And.left (by assumption)) _ | exact bel_drewN (And.left (by assumption)) _ | assumption))))
        refine h_take 0 (some 71) (.bool false) rfl rfl (by kernel_rfl) (by kernel_rfl) (by kernel_rfl) (fun _ _ _ h => h) (by kernel_rfl) ?_ (by assumption) ?_
        · intro w hSw; (try dsimp only at hSw); go_simp
          all_goals first | with_reducible rfl | omega | (simp; omega)
        try simp only [Act.put, List.setIfInBounds_toArray, List.set_cons_zero, List.set_cons_succ]
        refine h_take 1 (some 72) (.bool true) rfl rfl (by kernel_rfl) (by kernel_rfl) (by kernel_rfl) (fun _ _ _ h => h) (by kernel_rfl) ?_ (by assumption) ?_
        · intro w hSw; (try dsimp only at hSw); go_simp
          all_goals first | with_reducible rfl | omega | (simp; omega)
        try simp only [Act.put, List.setIfInBounds_toArray, List.set_cons_zero, List.set_cons_succ]
        refine h_take 2 (some 73) (.bool true) rfl rfl (by kernel_rfl) (by kernel_rfl) (by kernel_rfl) (fun _ _ _ h => h) (by kernel_rfl) ?_ (by assumption) ?_
        · intro w hSw; (try dsimp only at hSw); go_simp
          all_goals first | with_reducible rfl | omega | (simp; omega)
        try simp only [Act.put, List.setIfInBounds_toArray, List.set_cons_zero, List.set_cons_succ]
        refine h_skip 3 (some 74) rfl rfl (by kernel_rfl) (by kernel_rfl) (by kernel_rfl) (fun _ _ _ h => h) (by kernel_rfl) (by assumption) ?_
        try simp only [Act.put, List.setIfInBounds_toArray, List.set_cons_zero, List.set_cons_succ]
        refine h_skip 4 (some 75) rfl rfl (by kernel_rfl) (by kernel_rfl) (by kernel_rfl) (fun _ _ _ h => h) (by kernel_rfl) (by assumption) ?_
        try simp only [Act.put, List.setIfInBounds_toArray, List.set_cons_zero, List.set_cons_succ]
        refine h_skip 5 (some 76) rfl rfl (by kernel_rfl) (by kernel_rfl) (by kernel_rfl) (fun _ _ _ h => h) (by kernel_rfl) (by assumption) ?_
        try simp only [Act.put, List.setIfInBounds_toArray, List.set_cons_zero, List.set_cons_succ]
        refine h_skip 6 (some 77) rfl rfl (by kernel_rfl) (by kernel_rfl) (by kernel_rfl) (fun _ _ _ h => h) (by kernel_rfl) (by assumption) ?_
        try simp only [Act.put, List.setIfInBounds_toArray, List.set_cons_zero, List.set_cons_succ]
        refine h_skip 7 (some 78) rfl rfl (by kernel_rfl) (by kernel_rfl) (by kernel_rfl) (fun _ _ _ h => h) (by kernel_rfl) (by assumption) ?_
        try simp only [Act.put, List.setIfInBounds_toArray, List.set_cons_zero, List.set_cons_succ]
        refine h_skip 8 (some 79) rfl rfl (by kernel_rfl) (by kernel_rfl) (by kernel_rfl) (fun _ _ _ h => h) (by kernel_rfl) (by assumption) ?_
        try simp only [Act.put, List.setIfInBounds_toArray, List.set_cons_zero, List.set_cons_succ]
        refine h_skip 9 (some 80) rfl rfl (by kernel_rfl) (by kernel_rfl) (by kernel_rfl) (fun _ _ _ h => h) (by kernel_rfl) (by assumption) ?_
        try simp only [Act.put, List.setIfInBounds_toArray, List.set_cons_zero, List.set_cons_succ]
        refine h_skip 10 (some 81) rfl rfl (by kernel_rfl) (by kernel_rfl) (by kernel_rfl) (fun _ _ _ h => h) (by kernel_rfl) (by assumption) ?_
        try simp only [Act.put, List.setIfInBounds_toArray, List.set_cons_zero, List.set_cons_succ]
        refine h_skip 11 (some 82) rfl rfl (by kernel_rfl) (by kernel_rfl) (by kernel_rfl) (fun _ _ _ h => h) (by kernel_rfl) (by assumption) ?_
        try simp only [Act.put, List.setIfInBounds_toArray, List.set_cons_zero, List.set_cons_succ]
        refine h_skip 12 (some 83) rfl rfl (by kernel_rfl) (by kernel_rfl) (by kernel_rfl) (fun _ _ _ h => h) (by kernel_rfl) (by assumption) ?_
        try simp only [Act.put, List.setIfInBounds_toArray, List.set_cons_zero, List.set_cons_succ]
        refine h_skip 13 (some 84) rfl rfl (by kernel_rfl) (by kernel_rfl) (by kernel_rfl) (fun _ _ _ h => h) (by kernel_rfl) (by assumption) ?_
        try simp only [Act.put, List.setIfInBounds_toArray, List.set_cons_zero, List.set_cons_succ]
        refine h_skip 14 (some 85) rfl rfl (by kernel_rfl) (by kernel_rfl) (by kernel_rfl) (fun _ _ _ h => h) (by kernel_rfl) (by assumption) ?_
        try simp only [Act.put, List.setIfInBounds_toArray, List.set_cons_zero, List.set_cons_succ]
        refine h_take 15 (some 86) (.bool true) rfl rfl (by kernel_rfl) (by kernel_rfl) (by kernel_rfl) (fun _ _ _ h => h) (by kernel_rfl) ?_ (by assumption) ?_
        · intro w hSw; (try dsimp only at hSw); go_simp
          all_goals first | with_reducible rfl | omega | (simp; omega)
        try simp only [Act.put, List.setIfInBounds_toArray, List.set_cons_zero, List.set_cons_succ]
        refine h_take 16 (some 2) (?_) rfl rfl (by kernel_rfl) (by kernel_rfl) (by kernel_rfl) (fun _ _ _ h => h) (by kernel_rfl) ?_ (by assumption) ?_
        rotate_left
        · intro w hSw; (try dsimp only at hSw); go_simp
          all_goals first | with_reducible rfl | omega | (simp; omega)
        try simp only [Act.put, List.setIfInBounds_toArray, List.set_cons_zero, List.set_cons_succ]
        refine wpAnyH_done (by kernel_rfl) ?_ _
        obtain ⟨hB, _⟩ := hHeld
        have hB1 : Below W.heap.size W _ := bel_trans GX hB
        go_wp2
        go_ret
        exact ⟨rfl, hB1⟩
      · obtain ⟨pp, r, b, oo, rfl, rfl, hpr, hrn, rfl, hO2, ⟨hk2, hf2⟩, hPQ⟩ := HIS.out rfl
        have HTF2 := Lib.hid (totF_small (f := ⟨kd2, fs2⟩) hk2 (by show fs2.length ≤ 7; have := HLM2.out; omega) hf2)
        have HPL2 := Lib.hid (putF_small (f := ⟨kd2, fs2⟩) hk2 (by show fs2.length ≤ 7; have := HLM2.out; omega) hf2)
        have HFV2 := Lib.hid (show ∀ x ∈ fs2, x.s.size ≤ 9223372036854775807 from fun x hx => by have := hf2 x hx; omega)
        have hrc : r ≤ c2 := by omega
        have hpc : ¬ (c2 = pp) := by omega
        have hpr1 : pp ≤ r := by omega
        have HO2 := Lib.hid hO2; have HPQ := Lib.hid hPQ; clear hO2 hPQ hf2
        refine wp_region_held_drew (S := (fun w' => Below w6.heap.size w6 w' ∧ w'.cell? ⟨w5.heap.size, 0, none⟩ = some (.string kd2) ∧ w'.cell? ⟨w5.heap.size, 1, none⟩ = some (.slice A5 M2 c5))) (by kernel_rfl) ?_ (fun hHeld => ?_)
        · (try dsimp only) <;> (((refine (fun hB => ⟨hB, old_cell hB b0, old_cell hB b1⟩ : Below w6.heap.size w6 _ → _) ?_); (repeat (first | exact bel_refl _ | exact bel_drew (bel_refl _) | exact bel_drew (bel_alloc (bel_refl _) _) | exact bel_trans (And.left (by assumption)) (by assumption) | exact bel_alloc (And.left (by assumption)) _ | exact bel_drewN (And.left (by assumption)) _ | assumption))))
        refine h_take 0 (some 71) (.bool true) rfl rfl (by kernel_rfl) (by kernel_rfl) (by kernel_rfl) (fun _ _ _ h => h) (by kernel_rfl) ?_ (by assumption) ?_
        · intro w hSw; (try dsimp only at hSw); go_simp
          all_goals first | with_reducible rfl | omega | (simp; omega)
        try simp only [Act.put, List.setIfInBounds_toArray, List.set_cons_zero, List.set_cons_succ]
        refine h_take 1 (some 72) (.bool false) rfl rfl (by kernel_rfl) (by kernel_rfl) (by kernel_rfl) (fun _ _ _ h => h) (by kernel_rfl) ?_ (by assumption) ?_
        · intro w hSw; (try dsimp only at hSw); go_simp
          all_goals first | with_reducible rfl | omega | (simp; omega)
        try simp only [Act.put, List.setIfInBounds_toArray, List.set_cons_zero, List.set_cons_succ]
        refine h_take 2 (some 73) (.bool false) rfl rfl (by kernel_rfl) (by kernel_rfl) (by kernel_rfl) (fun _ _ _ h => h) (by kernel_rfl) ?_ (by assumption) ?_
        · intro w hSw; (try dsimp only at hSw); go_simp
          all_goals first | with_reducible rfl | omega | (simp; omega)
        try simp only [Act.put, List.setIfInBounds_toArray, List.set_cons_zero, List.set_cons_succ]
        refine h_take 3 (some 74) (?_) rfl rfl (by kernel_rfl) (by kernel_rfl) (by kernel_rfl) (fun _ _ _ h => h) (by kernel_rfl) ?_ (by assumption) ?_
        rotate_left
        · intro w hSw; (try dsimp only at hSw); go_simp
          all_goals first | with_reducible rfl | omega | (simp; omega)
        try simp only [Act.put, List.setIfInBounds_toArray, List.set_cons_zero, List.set_cons_succ]
        refine h_call 4 (by kernel_rfl) rfl (by kernel_rfl) (fun K hK => ?_)
        go_simp
        refine (implFactOk_any kd2 A5 M2 c5 fs2 _ _ (hr5.kept (And.left (by assumption) : Below w6.heap.size w6 _)) (by omega) (by omega) HFV2.out).mono ?_
        rw [HO2.out]
        rintro e wa ⟨rfl, hb⟩
        refine hK.out _ _ ?_ (fun hHeld => ?_)
        · (try dsimp only) <;> (((refine (fun hB => ⟨hB, old_cell hB b0, old_cell hB b1⟩ : Below w6.heap.size w6 _ → _) ?_); (repeat (first | exact bel_refl _ | exact bel_drew (bel_refl _) | exact bel_drew (bel_alloc (bel_refl _) _) | exact bel_trans (And.left (by assumption)) (by assumption) | exact bel_alloc (And.left (by assumption)) _ | exact bel_drewN (And.left (by assumption)) _ | assumption))))
        clear hK K
        try simp only [Act.put, List.setIfInBounds_toArray, List.set_cons_zero, List.set_cons_succ]
        refine h_take 5 (some 76) (.bool true) rfl rfl (by kernel_rfl) (by kernel_rfl) (by kernel_rfl) (fun _ _ _ h => h) (by kernel_rfl) ?_ (by assumption) ?_
        · intro w hSw; (try dsimp only at hSw); go_simp
          all_goals first | with_reducible rfl | omega | (simp; omega)
        try simp only [Act.put, List.setIfInBounds_toArray, List.set_cons_zero, List.set_cons_succ]
        refine h_take 7 (some 78) (?_) rfl rfl (by kernel_rfl) (by kernel_rfl) (by kernel_rfl) (fun _ _ _ h => h) (by kernel_rfl) ?_ (by assumption) ?_
        rotate_left
        · intro w hSw; (try dsimp only at hSw); go_simp
          all_goals first | with_reducible rfl | omega | (simp; omega)
        try simp only [Act.put, List.setIfInBounds_toArray, List.set_cons_zero, List.set_cons_succ]
        refine h_take 9 (some 80) (?_) rfl rfl (by kernel_rfl) (by kernel_rfl) (by kernel_rfl) (fun _ _ _ h => h) (by kernel_rfl) ?_ (by assumption) ?_
        rotate_left
        · intro w hSw; (try dsimp only at hSw); go_simp
          all_goals first | with_reducible rfl | omega | (simp; omega)
        try simp only [Act.put, List.setIfInBounds_toArray, List.set_cons_zero, List.set_cons_succ]
        refine h_take 10 (some 81) (?_) rfl rfl (by kernel_rfl) (by kernel_rfl) (by kernel_rfl) (fun _ _ _ h => h) (by kernel_rfl) ?_ (by assumption) ?_
        rotate_left
        · intro w hSw; (try dsimp only at hSw); go_simp
          all_goals first | with_reducible rfl | omega | (simp; omega)
        try simp only [Act.put, List.setIfInBounds_toArray, List.set_cons_zero, List.set_cons_succ]
        refine h_take 11 (some 82) (?_) rfl rfl (by kernel_rfl) (by kernel_rfl) (by kernel_rfl) (fun _ _ _ h => h) (by kernel_rfl) ?_ (by assumption) ?_
        rotate_left
        · intro w hSw; (try dsimp only at hSw); go_simp
          all_goals first | with_reducible rfl | omega | (simp; omega)
        try simp only [Act.put, List.setIfInBounds_toArray, List.set_cons_zero, List.set_cons_succ]
        refine h_take 12 (some 83) (.slice (some ⟨b, oo + pp, none⟩) (r - pp) (c2 - pp)) rfl rfl (by kernel_rfl) (by kernel_rfl) (by kernel_rfl) (fun _ _ _ h => h) (by kernel_rfl) ?_ (by assumption) ?_
        · intro w hSw; (try dsimp only at hSw); go_simp
          all_goals (simp [hrc, hpc])
        try simp only [Act.put, List.setIfInBounds_toArray, List.set_cons_zero, List.set_cons_succ]
        refine h_call 6 (by kernel_rfl) rfl (by kernel_rfl) (fun K hK => ?_)
        go_simp
        refine hK.out _ _ ?_ (fun hHeld => ?_)
        · (try dsimp only) <;> (((refine (fun hB => ⟨hB, old_cell hB b0, old_cell hB b1⟩ : Below w6.heap.size w6 _ → _) ?_); (repeat (first | exact bel_refl _ | exact bel_drew (bel_refl _) | exact bel_drew (bel_alloc (bel_refl _) _) | exact bel_trans (And.left (by assumption)) (by assumption) | exact bel_alloc (And.left (by assumption)) _ | exact bel_drewN (And.left (by assumption)) _ | assumption))))
        clear hK K
        try simp only [Act.put, List.setIfInBounds_toArray, List.set_cons_zero, List.set_cons_succ]
        refine h_call 8 (by kernel_rfl) rfl (by kernel_rfl) (fun K hK => ?_)
        go_simp
        refine (implPutFact_any _ 0 _ [] kd2 A5 M2 c5 fs2 _ 0 _ (RdB.nil_ _ _ _) (Nat.zero_le _) (hr5.kept (And.left (by assumption) : Below w6.heap.size w6 _)) (by omega) (by have := HTF2.out; omega)).mono ?_
        rw [List.nil_append]
        rintro e wb ⟨vb, rfl, hob, hb, hsb⟩
        obtain ⟨Ab, cb, rfl, hcb, _⟩ := hob.form
        refine hK.out _ _ ?_ (fun hHeld => ?_)
        · (try dsimp only) <;> (((refine (fun hB => ⟨hB, old_cell hB b0, old_cell hB b1⟩ : Below w6.heap.size w6 _ → _) ?_); (repeat (first | exact bel_refl _ | exact bel_drew (bel_refl _) | exact bel_drew (bel_alloc (bel_refl _) _) | exact bel_trans (And.left (by assumption)) (by assumption) | exact bel_alloc (And.left (by assumption)) _ | exact bel_drewN (And.left (by assumption)) _ | assumption))))
        clear hK K
        try simp only [Act.put, List.setIfInBounds_toArray, List.set_cons_zero, List.set_cons_succ]
        refine h_call 13 (by kernel_rfl) rfl (by kernel_rfl) (fun K hK => ?_)
        go_simp
        have hcut := ((ry4.kept (And.left (by assumption) : Below w6.heap.size w6 _)).b.cut pp (r - pp) (by omega))
        simp only [Option.map_some, add_lit'] at hcut
        refine (sameBytes_any _ _ _ _ _ _ _ _ _ wb.heap.size hob.rdO.b (hcut.more (by have := ry4.1; have := Below.size (And.left (by assumption) : Below w6.heap.size w6 wb); omega)) (by have := HPL2.out; omega)).mono ?_
        rw [decide_eq_true HPQ.out]
        rintro e wc ⟨rfl, mm, rfl⟩
        refine hK.out _ _ ?_ (fun hHeld => ?_)
        · (try dsimp only) <;> (((refine (fun hB => ⟨hB, old_cell hB b0, old_cell hB b1⟩ : Below w6.heap.size w6 _ → _) ?_); (repeat (first | exact bel_refl _ | exact bel_drew (bel_refl _) | exact bel_drew (bel_alloc (bel_refl _) _) | exact bel_trans (And.left (by assumption)) (by assumption) | exact bel_alloc (And.left (by assumption)) _ | exact bel_drewN (And.left (by assumption)) _ | assumption))))
        clear hK K
        try simp only [Act.put, List.setIfInBounds_toArray, List.set_cons_zero, List.set_cons_succ]
        refine h_take 14 (some 85) (.bool true) rfl rfl (by kernel_rfl) (by kernel_rfl) (by kernel_rfl) (fun _ _ _ h => h) (by kernel_rfl) ?_ (by assumption) ?_
        · intro w hSw; (try dsimp only at hSw); go_simp
          all_goals first | with_reducible rfl | omega | (simp; omega)
        try simp only [Act.put, List.setIfInBounds_toArray, List.set_cons_zero, List.set_cons_succ]
        refine h_take 15 (some 86) (.bool true) rfl rfl (by kernel_rfl) (by kernel_rfl) (by kernel_rfl) (fun _ _ _ h => h) (by kernel_rfl) ?_ (by assumption) ?_
        · intro w hSw; (try dsimp only at hSw); go_simp
          all_goals first | with_reducible rfl | omega | (simp; omega)
        try simp only [Act.put, List.setIfInBounds_toArray, List.set_cons_zero, List.set_cons_succ]
        refine h_take 16 (some 2) (?_) rfl rfl (by kernel_rfl) (by kernel_rfl) (by kernel_rfl) (fun _ _ _ h => h) (by kernel_rfl) ?_ (by assumption) ?_
        rotate_left
        · intro w hSw; (try dsimp only at hSw); go_simp
          all_goals first | with_reducible rfl | omega | (simp; omega)
        try simp only [Act.put, List.setIfInBounds_toArray, List.set_cons_zero, List.set_cons_succ]
        refine wpAnyH_done (by kernel_rfl) ?_ _
        obtain ⟨hB, _⟩ := hHeld
        have hB1 : Below W.heap.size W _ := bel_trans GX hB
        go_wp2
        go_ret
        exact ⟨rfl, hB1⟩
    · obtain ⟨hok, hte⟩ := parseF_true HP.out
      have HO := Lib.hid hok; have HX := Lib.hid hte; clear hok hte
      go_wp2_with fail
      refine (implFactOk_any kd A6 M c6 fs _ _ (hr6.alloc _) (by omega) hkz HFV.out).mono ?_
      rw [HO.out]
      rintro e w7 ⟨rfl, hb⟩
      have gx : Below w6.heap.size w6 w7 := (by repeat (first | with_reducible exact bel_refl _ | with_reducible assumption | with_reducible refine bel_set ?_ (by first | (simp; done) | (simp; omega) | omega) _ | with_reducible refine bel_alloc ?_ _ | with_reducible refine bel_drew ?_ | with_reducible refine bel_drewN ?_ _ | with_reducible refine bel_trans ?_ (by assumption)))
      replace a0 := old_cell gx a0; replace a1 := old_cell gx a1
      replace hr6 := hr6.kept gx
      have za := cell_lt a0
      dsimp only at za
      go_wp2_with fail
      refine (implFactText_any kd A6 M c6 fs _ _ (HTT.out.kept (by repeat (first | with_reducible exact bel_refl _ | with_reducible assumption | with_reducible refine bel_set ?_ (by first | (simp; done) | (simp; omega) | omega) _ | with_reducible refine bel_alloc ?_ _ | with_reducible refine bel_drew ?_ | with_reducible refine bel_drewN ?_ _ | with_reducible refine bel_trans ?_ (by assumption)))) hr6 (by omega) hkz HFV.out).mono ?_
      rw [HX.out]
      rintro e w8 ⟨rfl, hb⟩
      have gy : Below w6.heap.size w6 w8 := bel_trans gx hb
      replace b0 := old_cell gy b0; replace b1 := old_cell gy b1
      replace ry4 := ry4.kept gy; replace hr5 := hr5.kept gy
      have g8 := bel_trans g6 gy
      clear gx gy hb
      go_upto_region 11 with fail
      have GX := g8
      cases is
      · skip
        refine wp_region_held_drew (S := (fun w' => Below w8.heap.size w8 w' ∧ w'.cell? ⟨w5.heap.size, 0, none⟩ = some (.string kd2) ∧ w'.cell? ⟨w5.heap.size, 1, none⟩ = some (.slice A5 M2 c5))) (by kernel_rfl) ?_ (fun hHeld => ?_)
        · (try dsimp only) <;> (((refine (fun hB => ⟨hB, old_cell hB b0, old_cell hB b1⟩ : Below w8.heap.size w8 _ → _) ?_); (repeat (first | exact bel_refl _ | exact bel_drew (bel_refl _) | exact bel_drew (bel_alloc (bel_refl _) _) | exact bel_trans (And.left (by assumption)) (by assumption) | exact bel_alloc (And.left (by assumption)) _ | exact bel_drewN (And.left (by assumption)) _ | assumption))))
        refine h_take 0 (some 71) (.bool false) rfl rfl (by kernel_rfl) (by kernel_rfl) (by kernel_rfl) (fun _ _ _ h => h) (by kernel_rfl) ?_ (by assumption) ?_
        · intro w hSw; (try dsimp only at hSw); go_simp
          all_goals first | with_reducible rfl | omega | (simp; omega)
        try simp only [Act.put, List.setIfInBounds_toArray, List.set_cons_zero, List.set_cons_succ]
        refine h_take 1 (some 72) (.bool true) rfl rfl (by kernel_rfl) (by kernel_rfl) (by kernel_rfl) (fun _ _ _ h => h) (by kernel_rfl) ?_ (by assumption) ?_
        · intro w hSw; (try dsimp only at hSw); go_simp
          all_goals first | with_reducible rfl | omega | (simp; omega)
        try simp only [Act.put, List.setIfInBounds_toArray, List.set_cons_zero, List.set_cons_succ]
        refine h_take 2 (some 73) (.bool true) rfl rfl (by kernel_rfl) (by kernel_rfl) (by kernel_rfl) (fun _ _ _ h => h) (by kernel_rfl) ?_ (by assumption) ?_
        · intro w hSw; (try dsimp only at hSw); go_simp
          all_goals first | with_reducible rfl | omega | (simp; omega)
        try simp only [Act.put, List.setIfInBounds_toArray, List.set_cons_zero, List.set_cons_succ]
        refine h_skip 3 (some 74) rfl rfl (by kernel_rfl) (by kernel_rfl) (by kernel_rfl) (fun _ _ _ h => h) (by kernel_rfl) (by assumption) ?_
        try simp only [Act.put, List.setIfInBounds_toArray, List.set_cons_zero, List.set_cons_succ]
        refine h_skip 4 (some 75) rfl rfl (by kernel_rfl) (by kernel_rfl) (by kernel_rfl) (fun _ _ _ h => h) (by kernel_rfl) (by assumption) ?_
        try simp only [Act.put, List.setIfInBounds_toArray, List.set_cons_zero, List.set_cons_succ]
        refine h_skip 5 (some 76) rfl rfl (by kernel_rfl) (by kernel_rfl) (by kernel_rfl) (fun _ _ _ h => h) (by kernel_rfl) (by assumption) ?_
        try simp only [Act.put, List.setIfInBounds_toArray, List.set_cons_zero, List.set_cons_succ]
        refine h_skip 6 (some 77) rfl rfl (by kernel_rfl) (by kernel_rfl) (by kernel_rfl) (fun _ _ _ h => h) (by kernel_rfl) (by assumption) ?_
        try simp only [Act.put, List.setIfInBounds_toArray, List.set_cons_zero, List.set_cons_succ]
        refine h_skip 7 (some 78) rfl rfl (by kernel_rfl) (by kernel_rfl) (by kernel_rfl) (fun _ _ _ h => h) (by kernel_rfl) (by assumption) ?_
        try simp only [Act.put, List.setIfInBounds_toArray, List.set_cons_zero, List.set_cons_succ]
        refine h_skip 8 (some 79) rfl rfl (by kernel_rfl) (by kernel_rfl) (by kernel_rfl) (fun _ _ _ h => h) (by kernel_rfl) (by assumption) ?_
        try simp only [Act.put, List.setIfInBounds_toArray, List.set_cons_zero, List.set_cons_succ]
        refine h_skip 9 (some 80) rfl rfl (by kernel_rfl) (by kernel_rfl) (by kernel_rfl) (fun _ _ _ h => h) (by kernel_rfl) (by assumption) ?_
        try simp only [Act.put, List.setIfInBounds_toArray, List.set_cons_zero, List.set_cons_succ]
        refine h_skip 10 (some 81) rfl rfl (by kernel_rfl) (by kernel_rfl) (by kernel_rfl) (fun _ _ _ h => h) (by kernel_rfl) (by assumption) ?_
        try simp only [Act.put, List.setIfInBounds_toArray, List.set_cons_zero, List.set_cons_succ]
        refine h_skip 11 (some 82) rfl rfl (by kernel_rfl) (by kernel_rfl) (by kernel_rfl) (fun _ _ _ h => h) (by kernel_rfl) (by assumption) ?_
        try simp only [Act.put, List.setIfInBounds_toArray, List.set_cons_zero, List.set_cons_succ]
        refine h_skip 12 (some 83) rfl rfl (by kernel_rfl) (by kernel_rfl) (by kernel_rfl) (fun _ _ _ h => h) (by kernel_rfl) (by assumption) ?_
        try simp only [Act.put, List.setIfInBounds_toArray, List.set_cons_zero, List.set_cons_succ]
        refine h_skip 13 (some 84) rfl rfl (by kernel_rfl) (by kernel_rfl) (by kernel_rfl) (fun _ _ _ h => h) (by kernel_rfl) (by assumption) ?_
        try simp only [Act.put, List.setIfInBounds_toArray, List.set_cons_zero, List.set_cons_succ]
        refine h_skip 14 (some 85) rfl rfl (by kernel_rfl) (by kernel_rfl) (by kernel_rfl) (fun _ _ _ h => h) (by kernel_rfl) (by assumption) ?_
        try simp only [Act.put, List.setIfInBounds_toArray, List.set_cons_zero, List.set_cons_succ]
        refine h_take 15 (some 86) (.bool true) rfl rfl (by kernel_rfl) (by kernel_rfl) (by kernel_rfl) (fun _ _ _ h => h) (by kernel_rfl) ?_ (by assumption) ?_
        · intro w hSw; (try dsimp only at hSw); go_simp
          all_goals first | with_reducible rfl | omega | (simp; omega)
        try simp only [Act.put, List.setIfInBounds_toArray, List.set_cons_zero, List.set_cons_succ]
        refine h_take 16 (some 2) (?_) rfl rfl (by kernel_rfl) (by kernel_rfl) (by kernel_rfl) (fun _ _ _ h => h) (by kernel_rfl) ?_ (by assumption) ?_
        rotate_left
        · intro w hSw; (try dsimp only at hSw); go_simp
          all_goals first | with_reducible rfl | omega | (simp; omega)
        try simp only [Act.put, List.setIfInBounds_toArray, List.set_cons_zero, List.set_cons_succ]
        refine wpAnyH_done (by kernel_rfl) ?_ _
        obtain ⟨hB, _⟩ := hHeld
        have hB1 : Below W.heap.size W _ := bel_trans GX hB
        go_wp2
        go_ret
        exact ⟨rfl, hB1⟩
      · obtain ⟨pp, r, b, oo, rfl, rfl, hpr, hrn, rfl, hO2, ⟨hk2, hf2⟩, hPQ⟩ := HIS.out rfl
        have HTF2 := Lib.hid (totF_small (f := ⟨kd2, fs2⟩) hk2 (by show fs2.length ≤ 7; have := HLM2.out; omega) hf2)
        have HPL2 := Lib.hid (putF_small (f := ⟨kd2, fs2⟩) hk2 (by show fs2.length ≤ 7; have := HLM2.out; omega) hf2)
        have HFV2 := Lib.hid (show ∀ x ∈ fs2, x.s.size ≤ 9223372036854775807 from fun x hx => by have := hf2 x hx; omega)
        have hrc : r ≤ c2 := by omega
        have hpc : ¬ (c2 = pp) := by omega
        have hpr1 : pp ≤ r := by omega
        have HO2 := Lib.hid hO2; have HPQ := Lib.hid hPQ; clear hO2 hPQ hf2
        refine wp_region_held_drew (S := (fun w' => Below w8.heap.size w8 w' ∧ w'.cell? ⟨w5.heap.size, 0, none⟩ = some (.string kd2) ∧ w'.cell? ⟨w5.heap.size, 1, none⟩ = some (.slice A5 M2 c5))) (by kernel_rfl) ?_ (fun hHeld => ?_)
        · (try dsimp only) <;> (((refine (fun hB => ⟨hB, old_cell hB b0, old_cell hB b1⟩ : Below w8.heap.size w8 _ → _) ?_); (repeat (first | exact bel_refl _ | exact bel_drew (bel_refl _) | exact bel_drew (bel_alloc (bel_refl _) _) | exact bel_trans (And.left (by assumption)) (by assumption) | exact bel_alloc (And.left (by assumption)) _ | exact bel_drewN (And.left (by assumption)) _ | assumption))))
        refine h_take 0 (some 71) (.bool true) rfl rfl (by kernel_rfl) (by kernel_rfl) (by kernel_rfl) (fun _ _ _ h => h) (by kernel_rfl) ?_ (by assumption) ?_
        · intro w hSw; (try dsimp only at hSw); go_simp
          all_goals first | with_reducible rfl | omega | (simp; omega)
        try simp only [Act.put, List.setIfInBounds_toArray, List.set_cons_zero, List.set_cons_succ]
        refine h_take 1 (some 72) (.bool false) rfl rfl (by kernel_rfl) (by kernel_rfl) (by kernel_rfl) (fun _ _ _ h => h) (by kernel_rfl) ?_ (by assumption) ?_
        · intro w hSw; (try dsimp only at hSw); go_simp
          all_goals first | with_reducible rfl | omega | (simp; omega)
        try simp only [Act.put, List.setIfInBounds_toArray, List.set_cons_zero, List.set_cons_succ]
        refine h_take 2 (some 73) (.bool false) rfl rfl (by kernel_rfl) (by kernel_rfl) (by kernel_rfl) (fun _ _ _ h => h) (by kernel_rfl) ?_ (by assumption) ?_
        · intro w hSw; (try dsimp only at hSw); go_simp
          all_goals first | with_reducible rfl | omega | (simp; omega)
        try simp only [Act.put, List.setIfInBounds_toArray, List.set_cons_zero, List.set_cons_succ]
        refine h_take 3 (some 74) (?_) rfl rfl (by kernel_rfl) (by kernel_rfl) (by kernel_rfl) (fun _ _ _ h => h) (by kernel_rfl) ?_ (by assumption) ?_
        rotate_left
        · intro w hSw; (try dsimp only at hSw); go_simp
          all_goals first | with_reducible rfl | omega | (simp; omega)
        try simp only [Act.put, List.setIfInBounds_toArray, List.set_cons_zero, List.set_cons_succ]
        refine h_call 4 (by kernel_rfl) rfl (by kernel_rfl) (fun K hK => ?_)
        go_simp
        refine (implFactOk_any kd2 A5 M2 c5 fs2 _ _ (hr5.kept (And.left (by assumption) : Below w8.heap.size w8 _)) (by omega) (by omega) HFV2.out).mono ?_
        rw [HO2.out]
        rintro e wa ⟨rfl, hb⟩
        refine hK.out _ _ ?_ (fun hHeld => ?_)
        · (try dsimp only) <;> (((refine (fun hB => ⟨hB, old_cell hB b0, old_cell hB b1⟩ : Below w8.heap.size w8 _ → _) ?_); (repeat (first | exact bel_refl _ | exact bel_drew (bel_refl _) | exact bel_drew (bel_alloc (bel_refl _) _) | exact bel_trans (And.left (by assumption)) (by assumption) | exact bel_alloc (And.left (by assumption)) _ | exact bel_drewN (And.left (by assumption)) _ | assumption))))
        clear hK K
        try simp only [Act.put, List.setIfInBounds_toArray, List.set_cons_zero, List.set_cons_succ]
        refine h_take 5 (some 76) (.bool true) rfl rfl (by kernel_rfl) (by kernel_rfl) (by kernel_rfl) (fun _ _ _ h => h) (by kernel_rfl) ?_ (by assumption) ?_
        · intro w hSw; (try dsimp only at hSw); go_simp
          all_goals first | with_reducible rfl | omega | (simp; omega)
        try simp only [Act.put, List.setIfInBounds_toArray, List.set_cons_zero, List.set_cons_succ]
        refine h_take 7 (some 78) (?_) rfl rfl (by kernel_rfl) (by kernel_rfl) (by kernel_rfl) (fun _ _ _ h => h) (by kernel_rfl) ?_ (by assumption) ?_
        rotate_left
        · intro w hSw; (try dsimp only at hSw); go_simp
          all_goals first | with_reducible rfl | omega | (simp; omega)
        try simp only [Act.put, List.setIfInBounds_toArray, List.set_cons_zero, List.set_cons_succ]
        refine h_take 9 (some 80) (?_) rfl rfl (by kernel_rfl) (by kernel_rfl) (by kernel_rfl) (fun _ _ _ h => h) (by kernel_rfl) ?_ (by assumption) ?_
        rotate_left
        · intro w hSw; (try dsimp only at hSw); go_simp
          all_goals first | with_reducible rfl | omega | (simp; omega)
        try simp only [Act.put, List.setIfInBounds_toArray, List.set_cons_zero, List.set_cons_succ]
        refine h_take 10 (some 81) (?_) rfl rfl (by kernel_rfl) (by kernel_rfl) (by kernel_rfl) (fun _ _ _ h => h) (by kernel_rfl) ?_ (by assumption) ?_
        rotate_left
        · intro w hSw; (try dsimp only at hSw); go_simp
          all_goals first | with_reducible rfl | omega | (simp; omega)
        try simp only [Act.put, List.setIfInBounds_toArray, List.set_cons_zero, List.set_cons_succ]
        refine h_take 11 (some 82) (?_) rfl rfl (by kernel_rfl) (by kernel_rfl) (by kernel_rfl) (fun _ _ _ h => h) (by kernel_rfl) ?_ (by assumption) ?_
        rotate_left
        · intro w hSw; (try dsimp only at hSw); go_simp
          all_goals first | with_reducible rfl | omega | (simp; omega)
        try simp only [Act.put, List.setIfInBounds_toArray, List.set_cons_zero, List.set_cons_succ]
        refine h_take 12 (some 83) (.slice (some ⟨b, oo + pp, none⟩) (r - pp) (c2 - pp)) rfl rfl (by kernel_rfl) (by kernel_rfl) (by kernel_rfl) (fun _ _ _ h => h) (by kernel_rfl) ?_ (by assumption) ?_
        · intro w hSw; (try dsimp only at hSw); go_simp
          all_goals (simp [hrc, hpc])
        try simp only [Act.put, List.setIfInBounds_toArray, List.set_cons_zero, List.set_cons_succ]
        refine h_call 6 (by kernel_rfl) rfl (by kernel_rfl) (fun K hK => ?_)
        go_simp
        refine hK.out _ _ ?_ (fun hHeld => ?_)
        · (try dsimp only) <;> (((refine (fun hB => ⟨hB, old_cell hB b0, old_cell hB b1⟩ : Below w8.heap.size w8 _ → _) ?_); (repeat (first | exact bel_refl _ | exact bel_drew (bel_refl _) | exact bel_drew (bel_alloc (bel_refl _) _) | exact bel_trans (And.left (by assumption)) (by assumption) | exact bel_alloc (And.left (by assumption)) _ | exact bel_drewN (And.left (by assumption)) _ | assumption))))
        clear hK K
        try simp only [Act.put, List.setIfInBounds_toArray, List.set_cons_zero, List.set_cons_succ]
        refine h_call 8 (by kernel_rfl) rfl (by kernel_rfl) (fun K hK => ?_)
        go_simp
        refine (implPutFact_any _ 0 _ [] kd2 A5 M2 c5 fs2 _ 0 _ (RdB.nil_ _ _ _) (Nat.zero_le _) (hr5.kept (And.left (by assumption) : Below w8.heap.size w8 _)) (by omega) (by have := HTF2.out; omega)).mono ?_
        rw [List.nil_append]
        rintro e wb ⟨vb, rfl, hob, hb, hsb⟩
        obtain ⟨Ab, cb, rfl, hcb, _⟩ := hob.form
        refine hK.out _ _ ?_ (fun hHeld => ?_)
        · (try dsimp only) <;> (((refine (fun hB => ⟨hB, old_cell hB b0, old_cell hB b1⟩ : Below w8.heap.size w8 _ → _) ?_); (repeat (first | exact bel_refl _ | exact bel_drew (bel_refl _) | exact bel_drew (bel_alloc (bel_refl _) _) | exact bel_trans (And.left (by assumption)) (by assumption) | exact bel_alloc (And.left (by assumption)) _ | exact bel_drewN (And.left (by assumption)) _ | assumption))))
        clear hK K
        try simp only [Act.put, List.setIfInBounds_toArray, List.set_cons_zero, List.set_cons_succ]
        refine h_call 13 (by kernel_rfl) rfl (by kernel_rfl) (fun K hK => ?_)
        go_simp
        have hcut := ((ry4.kept (And.left (by assumption) : Below w8.heap.size w8 _)).b.cut pp (r - pp) (by omega))
        simp only [Option.map_some, add_lit'] at hcut
        refine (sameBytes_any _ _ _ _ _ _ _ _ _ wb.heap.size hob.rdO.b (hcut.more (by have := ry4.1; have := Below.size (And.left (by assumption) : Below w8.heap.size w8 wb); omega)) (by have := HPL2.out; omega)).mono ?_
        rw [decide_eq_true HPQ.out]
        rintro e wc ⟨rfl, mm, rfl⟩
        refine hK.out _ _ ?_ (fun hHeld => ?_)
        · (try dsimp only) <;> (((refine (fun hB => ⟨hB, old_cell hB b0, old_cell hB b1⟩ : Below w8.heap.size w8 _ → _) ?_); (repeat (first | exact bel_refl _ | exact bel_drew (bel_refl _) | exact bel_drew (bel_alloc (bel_refl _) _) | exact bel_trans (And.left (by assumption)) (by assumption) | exact bel_alloc (And.left (by assumption)) _ | exact bel_drewN (And.left (by assumption)) _ | assumption))))
        clear hK K
        try simp only [Act.put, List.setIfInBounds_toArray, List.set_cons_zero, List.set_cons_succ]
        refine h_take 14 (some 85) (.bool true) rfl rfl (by kernel_rfl) (by kernel_rfl) (by kernel_rfl) (fun _ _ _ h => h) (by kernel_rfl) ?_ (by assumption) ?_
        · intro w hSw; (try dsimp only at hSw); go_simp
          all_goals first | with_reducible rfl | omega | (simp; omega)
        try simp only [Act.put, List.setIfInBounds_toArray, List.set_cons_zero, List.set_cons_succ]
        refine h_take 15 (some 86) (.bool true) rfl rfl (by kernel_rfl) (by kernel_rfl) (by kernel_rfl) (fun _ _ _ h => h) (by kernel_rfl) ?_ (by assumption) ?_
        · intro w hSw; (try dsimp only at hSw); go_simp
          all_goals first | with_reducible rfl | omega | (simp; omega)
        try simp only [Act.put, List.setIfInBounds_toArray, List.set_cons_zero, List.set_cons_succ]
        refine h_take 16 (some 2) (?_) rfl rfl (by kernel_rfl) (by kernel_rfl) (by kernel_rfl) (fun _ _ _ h => h) (by kernel_rfl) ?_ (by assumption) ?_
        rotate_left
        · intro w hSw; (try dsimp only at hSw); go_simp
          all_goals first | with_reducible rfl | omega | (simp; omega)
        try simp only [Act.put, List.setIfInBounds_toArray, List.set_cons_zero, List.set_cons_succ]
        refine wpAnyH_done (by kernel_rfl) ?_ _
        obtain ⟨hB, _⟩ := hHeld
        have hB1 : Below W.heap.size W _ := bel_trans GX hB
        go_wp2
        go_ret
        exact ⟨rfl, hB1⟩

theorem own : ownKnob Tryz.prog.godebug = none := by kernel_rfl
theorem laidOut : laidOutB Tryz.prog = true := by kernel_rfl
theorem lifted (os : Os) (started : os.Started) (H : Type) (enc : TypeId × Value → H) :
    ReturnsInHanded {} Tryz.checked os 4 .any (fun w args => (Rows.fnFactsReadSpec.pre enc Tryz.prog Tryz.f4 [] false w args ∧ laidMetH Tryz.prog laidLP w) ∧ sizedMet enc Tryz.prog Tryz.f4 (OpenSpec.ofChange Rows.fnFactsReadSpec) false w args) (Rows.fnFactsReadSpec.post enc Tryz.prog Tryz.f4 false true false false) := by
  refine handed_shaped (C := Tryz.checked) (X := fun w _ => laidMetH Tryz.prog laidLP w) (fun _ _ _ hh h => h.of_heap hh) own started (by kernel_rfl) Tryz.func4
    (ChangeSpec.witness_shaped (enc := enc) (C := Tryz.checked) (os := os) (X := fun w _ => laidMetH Tryz.prog laidLP w) false (World.laidAll Tryz.prog os laidLP) #[.slice none 0 0] 8 (World.laidAll_os _ _ _) (World.shaped_of_ZipB (by kernel_rfl) (by kernel_rfl)) (by kernel_rfl) (by kernel_rfl) (by kernel_rfl) (by rw [MakeChecks.laidMetH_plain _ _ _ (by kernel_rfl)]; exact laidMet_laidAll _ (by kernel_rfl) (by kernel_rfl))) ?_
  intro W base args ds gs before hval0 hW hL hsh
  have hval : ∀ (j : Nat) t v, Tryz.f4.params[j]? = some t → args[j]? = some v → Value.okWide Tryz.prog W .any base t v := hval0
  have hW' := hW
  obtain ⟨p, q, hA0, hV, rfl, hfz, hnd⟩ := hW
  have hA : DataW.TrodAll enc Tryz.prog W 0 (fun _ => true) true Tryz.f4.params.toList args.toList ds p := hA0
  rw [Tryz.params4] at hA hval
  obtain ⟨v0, vs0, d0, ds0, p0, q0, hargs, rfl, rfl, h0, r0⟩ := trodAll_cons hA
  obtain ⟨rfl, rfl, rfl⟩ := trodAll_nil r0
  obtain rfl : args = #[v0] := by cases args; simp_all
  obtain ⟨rfl, rfl⟩ := trodVars_none hV
  have lt0 : ∀ x ∈ p0, x.block < W.heap.size := by obtain ⟨m, hm⟩ := h0; exact DataW.trod_lt m _ _ _ hm
  obtain ⟨A0, n0, c0, b0, hv0, hs0⟩ := open_bytes Tryz.underlying22 Tryz.underlying5 (by kernel_rfl) (hval 0 22 v0 rfl rfl) h0
  subst hv0
  clear hA0 hval0
  refine (walk A0 n0 c0 b0 W hs0 (tabT_of_laidP hL) (varE_of_laidP hL) (maxT_of_shape hsh)).mono fun e W' ⟨he, bel⟩ => ?_
  subst he
  exact ⟨_, rfl, _, _, _, [], _, [], hW', trodAll_mk1 (shut_bool Tryz.underlying4 _), (trodAll_cons_mk (Below.trod laidOut (by kernel_rfl) (of_decide_eq_true (by kernel_rfl)) h0 bel lt0) trodAll_mk0), rfl, bel.frame _, fun h => by cases h⟩
theorem over : Rows.fnFactsReadRow.holds Tryz.pinned (OpenSpec.ofChange Rows.fnFactsReadSpec) :=
  OpenClaim.holds_of_wide 4 Tryz.f4 rfl rfl rfl rfl rfl rfl rfl ⟨rfl, rfl, rfl, rfl, rfl⟩ rfl rfl rfl rfl rfl (by kernel_rfl) Tryz.func4 (by kernel_rfl)
    (of_decide_eq_true (by kernel_rfl)) (by unfold Func.isWrapper; first | (rw [if_pos (by decide +kernel)]; kernel_rfl) | (rw [if_neg (by decide +kernel)]; exact ⟨rfl, rfl⟩))
    (fun os started H enc _ => lifted os started H enc)
theorem proved : Rows.FnFactsReadCardSaid :=
  Claim7.holds_tied_plain_at .later [] laidKP true _ _ over (fun _ h => by cases h) (by kernel_rfl) (fun _ h => by cases h) fnFactsRead_row_tie rfl ⟨rfl, rfl⟩ (by kernel_rfl) rfl
    (fun f fn hf hfn => by
      obtain rfl : f = 4 := Option.some.inj ((show Tryz.prog.funcNamed "loop.example/g00282/laws.FnFactsRead" = some 4 by kernel_rfl).symm.trans hf) |>.symm
      obtain rfl : fn = Tryz.f4 := (Option.some.inj (Tryz.func4.symm.trans hfn)).symm
      exact ⟨by kernel_rfl, fun j t ht => by
        rw [Tryz.params4] at ht
        have hm : t ∈ [22] := by simpa using Array.mem_of_getElem? ht
        have hall : ([22].all fun u => !Tryz.prog.wantsStandIn u) = true := by kernel_rfl
        exact (show Tryz.prog.wantsStandIn t = false by simpa using List.all_eq_true.1 hall t hm)⟩)
    (by kernel_rfl)
end Go.Proofs.YtcbbefibebkfgaaGreatDoor.fnFactsRead
