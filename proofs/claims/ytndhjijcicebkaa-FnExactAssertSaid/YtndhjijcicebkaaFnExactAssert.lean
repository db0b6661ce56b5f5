/- The law FnExactAssert returns true at every input, and leaves what it was given as it was. No condition. -/
import Derived.Test.YtndhjijcicebkaaReadS
import Derived.Test.YtndhjijcicebkaaStoreB
import Derived.Test.YtndhjijcicebkaaItemM
import Derived.Test.YtndhjijcicebkaaFactM
import Derived.Test.YtndhjijcicebkaaStoreX
import Derived.Test.YtndhjijcicebkaaStep
import Derived.Test.YtndhjijcicebkaaRead2
import Derived.Test.YtndhjijcicebkaaRows
import Derived.Test.YtndhjijcicebkaaRead
namespace Go.Proofs.Ytndhjijcicebkaa.fnExactAssert
open Go.ChangeShapes Go.WideShapes Go.ChangeAt Go.RowKit
open Go.ChangeMaps (open_string shut_string)
set_option linter.unusedVariables false
set_option maxRecDepth 100000
set_option maxHeartbeats 20000000

theorem walk (A0 : Option Addr) (n0 c0 : Nat) (xs0 : List IR) (nx0 : Int) (kd1 : ByteArray) (A1 : Option Addr) (n1 c1 : Nat) (xs1 : List Vl) (W : World) (hs0 : n0 ≤ c0 ∧ c0 ≤ 9223372036854775807 ∧ RdI W W.heap.size A0 n0 xs0 ∧ ∀ a ∈ xs0, goodI a) (hs1 : n1 ≤ c1 ∧ c1 ≤ 9223372036854775807 ∧ kd1.size ≤ 9223372036854775807 ∧ RdS vC 3 W W.heap.size A1 n1 xs1 ∧ ∀ a ∈ xs1, a.s.size ≤ 9223372036854775807) :
    Calls Try.prog 3 #[.agg #[.slice A0 n0 c0, .int .i64 nx0], .agg #[.string kd1, .slice A1 n1 c1]] W fun e w' => e = .returned (.bool true) ∧ Below W.heap.size W w' := by
  obtain ⟨hnc0, hc0, hr0, hz0⟩ := hs0
  obtain rfl : n0 = xs0.length := hr0.len.symm
  have HZ0 := Lib.hid hz0; clear hz0
  obtain ⟨hnc1, hc1, hk1, hr1, hz1⟩ := hs1
  obtain rfl : n1 = xs1.length := hr1.len.symm
  have HZ1 := Lib.hid hz1; clear hz1
  by_cases bz0 : (1048576 : Int) < ((totSt xs0) : Int)
  · have HB := Lib.hid (szR_big bz0)
    go_enter Try.func3, Try.ntmps3
    go_wp2_with fail
    refine (szStore_any A0 _ c0 _ xs0 nx0 _ _ ((hr0.alloc _).alloc _) (by omega) HZ0.out (by omega) (by omega)).mono ?_
    rw [HB.out]
    rintro e w1 ⟨rfl, hb⟩
    have g_w1 : Below W.heap.size W w1 := (by repeat (first | with_reducible exact bel_refl _ | with_reducible assumption | with_reducible refine bel_set ?_ (by first | (simp; done) | (simp; omega) | omega) _ | with_reducible refine bel_alloc ?_ _ | with_reducible refine bel_drew ?_ | with_reducible refine bel_drewN ?_ _ | with_reducible refine bel_trans ?_ (by assumption)))
    have b0_0 := old_cell hb (b := W.heap.size) (o := 0) (v := .slice A0 xs0.length c0) (by go_simp)
    have b0_1 := old_cell hb (b := W.heap.size) (o := 1) (v := .int .i64 nx0) (by go_simp)
    have b1_0 := old_cell hb (b := W.heap.size + 1) (o := 0) (v := .string kd1) (by go_simp)
    have b1_1 := old_cell hb (b := W.heap.size + 1) (o := 1) (v := .slice A1 xs1.length c1) (by go_simp)
    replace hr0 := hr0.kept g_w1
    replace hr1 := hr1.kept g_w1
    have zs_w1 := g_w1.size
    have gW := g_w1
    clear hb g_w1
    have z_b0_0 : W.heap.size < w1.heap.size := cell_lt b0_0
    have z_b1_0 : W.heap.size + 1 < w1.heap.size := cell_lt b1_0
    go_wp2
    go_ret
    exact ⟨rfl, gW⟩
  have HF0 := Lib.hid (szR_fit (Int.not_lt.1 bz0))
  by_cases bz1 : (1048576 : Int) - ((totSt xs0) : Nat) < ((totF ⟨kd1, xs1⟩) : Int)
  · have HB := Lib.hid (szR_big bz1)
    go_enter Try.func3, Try.ntmps3
    go_wp2_with fail
    refine (szStore_any A0 _ c0 _ xs0 nx0 _ _ ((hr0.alloc _).alloc _) (by omega) HZ0.out (by omega) (by omega)).mono ?_
    rw [HF0.out]
    rintro e w2 ⟨rfl, hb⟩
    have g_w2 : Below W.heap.size W w2 := (by repeat (first | with_reducible exact bel_refl _ | with_reducible assumption | with_reducible refine bel_set ?_ (by first | (simp; done) | (simp; omega) | omega) _ | with_reducible refine bel_alloc ?_ _ | with_reducible refine bel_drew ?_ | with_reducible refine bel_drewN ?_ _ | with_reducible refine bel_trans ?_ (by assumption)))
    have b0_0 := old_cell hb (b := W.heap.size) (o := 0) (v := .slice A0 xs0.length c0) (by go_simp)
    have b0_1 := old_cell hb (b := W.heap.size) (o := 1) (v := .int .i64 nx0) (by go_simp)
    have b1_0 := old_cell hb (b := W.heap.size + 1) (o := 0) (v := .string kd1) (by go_simp)
    have b1_1 := old_cell hb (b := W.heap.size + 1) (o := 1) (v := .slice A1 xs1.length c1) (by go_simp)
    replace hr0 := hr0.kept g_w2
    replace hr1 := hr1.kept g_w2
    have zs_w2 := g_w2.size
    have gW := g_w2
    clear hb g_w2
    have z_b0_0 : W.heap.size < w2.heap.size := cell_lt b0_0
    have z_b1_0 : W.heap.size + 1 < w2.heap.size := cell_lt b1_0
    go_wp2_with fail
    refine (szFact_any kd1 A1 _ c1 _ xs1 _ _ hr1 (by omega) hk1 HZ1.out (by omega) (by omega)).mono ?_
    rw [HB.out]
    rintro e w3 ⟨rfl, hb⟩
    have g_w3 : Below w2.heap.size w2 w3 := (by repeat (first | with_reducible exact bel_refl _ | with_reducible assumption | with_reducible refine bel_set ?_ (by first | (simp; done) | (simp; omega) | omega) _ | with_reducible refine bel_alloc ?_ _ | with_reducible refine bel_drew ?_ | with_reducible refine bel_drewN ?_ _ | with_reducible refine bel_trans ?_ (by assumption)))
    replace b0_0 := old_cell g_w3 b0_0
    replace b0_1 := old_cell g_w3 b0_1
    replace b1_0 := old_cell g_w3 b1_0
    replace b1_1 := old_cell g_w3 b1_1
    replace hr0 := hr0.kept g_w3
    replace hr1 := hr1.kept g_w3
    have zs_w3 := g_w3.size
    have gW : Below W.heap.size W w3 := bel_trans gW g_w3
    clear hb g_w3
    have z_b0_0 : W.heap.size < w3.heap.size := cell_lt b0_0
    have z_b1_0 : W.heap.size + 1 < w3.heap.size := cell_lt b1_0
    go_wp2
    go_ret
    exact ⟨rfl, gW⟩
  have HF1 := Lib.hid (szR_fit (Int.not_lt.1 bz1))
  have hl0 : xs0.length ≤ 1048576 := by unfold totSt totI at bz0; omega
  have HSL0 := Lib.hid (totSt_fs (Int.not_lt.1 bz0))
  have HTB0 := Lib.hid (Int.not_lt.1 bz0)
  have hl1 : xs1.length ≤ 1048576 := by unfold totF totV at bz1; simp only at bz1; omega
  obtain ⟨⟨rl, rnx, rid, rok⟩, hr⟩ : ∃ r, assertF (xs0.map itOf) nx0 ⟨kd1, xs1⟩ = r := ⟨_, rfl⟩
  have HBG := Lib.hid (assertF_big hr HTB0.out)
  have HR := Lib.hid hr; clear hr
  go_enter Try.func3, Try.ntmps3
  go_wp2_with fail
  refine (szStore_any A0 _ c0 _ xs0 nx0 _ _ ((hr0.alloc _).alloc _) (by omega) HZ0.out (by omega) (by omega)).mono ?_
  rw [HF0.out]
  rintro e w4 ⟨rfl, hb⟩
  have g_w4 : Below W.heap.size W w4 := (by repeat (first | with_reducible exact bel_refl _ | with_reducible assumption | with_reducible refine bel_set ?_ (by first | (simp; done) | (simp; omega) | omega) _ | with_reducible refine bel_alloc ?_ _ | with_reducible refine bel_drew ?_ | with_reducible refine bel_drewN ?_ _ | with_reducible refine bel_trans ?_ (by assumption)))
  have b0_0 := old_cell hb (b := W.heap.size) (o := 0) (v := .slice A0 xs0.length c0) (by go_simp)
  have b0_1 := old_cell hb (b := W.heap.size) (o := 1) (v := .int .i64 nx0) (by go_simp)
  have b1_0 := old_cell hb (b := W.heap.size + 1) (o := 0) (v := .string kd1) (by go_simp)
  have b1_1 := old_cell hb (b := W.heap.size + 1) (o := 1) (v := .slice A1 xs1.length c1) (by go_simp)
  replace hr0 := hr0.kept g_w4
  replace hr1 := hr1.kept g_w4
  have zs_w4 := g_w4.size
  have gW := g_w4
  clear hb g_w4
  have z_b0_0 : W.heap.size < w4.heap.size := cell_lt b0_0
  have z_b1_0 : W.heap.size + 1 < w4.heap.size := cell_lt b1_0
  go_wp2_with fail
  refine (szFact_any kd1 A1 _ c1 _ xs1 _ _ hr1 (by omega) hk1 HZ1.out (by omega) (by omega)).mono ?_
  rw [HF1.out]
  rintro e w5 ⟨rfl, hb⟩
  have g_w5 : Below w4.heap.size w4 w5 := (by repeat (first | with_reducible exact bel_refl _ | with_reducible assumption | with_reducible refine bel_set ?_ (by first | (simp; done) | (simp; omega) | omega) _ | with_reducible refine bel_alloc ?_ _ | with_reducible refine bel_drew ?_ | with_reducible refine bel_drewN ?_ _ | with_reducible refine bel_trans ?_ (by assumption)))
  replace b0_0 := old_cell g_w5 b0_0
  replace b0_1 := old_cell g_w5 b0_1
  replace b1_0 := old_cell g_w5 b1_0
  replace b1_1 := old_cell g_w5 b1_1
  replace hr0 := hr0.kept g_w5
  replace hr1 := hr1.kept g_w5
  have zs_w5 := g_w5.size
  have gW : Below W.heap.size W w5 := bel_trans gW g_w5
  clear hb g_w5
  have z_b0_0 : W.heap.size < w5.heap.size := cell_lt b0_0
  have z_b1_0 : W.heap.size + 1 < w5.heap.size := cell_lt b1_0
  go_upto_region 8 with fail
  go_cut [6, 7, 8] (fun s6 s7 s8 wx => ∃ A c rs b, s6 = .pointer (some ⟨b, 0, none⟩) ∧ s7 = .int .i64 rid ∧ s8 = .bool rok ∧ (rs.length ≤ c ∧ rs.map itOf = rl) ∧ Blk wx b 32 #[.slice A rs.length c, .int .i64 rnx] ∧ OwnI wx w5.heap.size (.slice A rs.length c) rs ∧ Below w5.heap.size w5 wx ∧ w5.heap.size ≤ b)
  case first =>
    refine wp_region_held_drew (S := (fun w' => Below w5.heap.size w5 w' ∧ w'.cell? ⟨W.heap.size, 0, none⟩ = some (.slice A0 xs0.length c0) ∧ w'.cell? ⟨W.heap.size, 1, none⟩ = some (.int .i64 nx0) ∧ w'.cell? ⟨W.heap.size + 1, 0, none⟩ = some (.string kd1) ∧ w'.cell? ⟨W.heap.size + 1, 1, none⟩ = some (.slice A1 xs1.length c1))) (by kernel_rfl) ?_ (fun hHeld => ?_)
    · (try dsimp only) <;> (((refine (fun hB => ⟨hB, old_cell hB b0_0, old_cell hB b0_1, old_cell hB b1_0, old_cell hB b1_1⟩ : Below w5.heap.size w5 _ → _) ?_); (repeat (first | exact bel_refl _ | exact bel_drew (bel_refl _) | exact bel_trans (And.left (by assumption)) (by assumption) | assumption | exact bel_alloc (And.left (by assumption)) _ | exact bel_set (bel_set (And.left (by assumption)) hzb _) hzb _))))
    refine h_take 0 (some 31) (?_) rfl rfl (by kernel_rfl) (by kernel_rfl) (by kernel_rfl) (fun _ _ _ h => h) (by kernel_rfl) ?_ (by assumption) ?_
    rotate_left
    · intro w hSw; (try dsimp only at hSw); go_simp
      all_goals first | with_reducible rfl | omega | (simp; omega)
    try simp only [Act.put, List.setIfInBounds_toArray, List.set_cons_zero, List.set_cons_succ]
    refine h_take 2 (some 33) (?_) rfl rfl (by kernel_rfl) (by kernel_rfl) (by kernel_rfl) (fun _ _ _ h => h) (by kernel_rfl) ?_ (by assumption) ?_
    rotate_left
    · intro w hSw; (try dsimp only at hSw); go_simp
      all_goals first | with_reducible rfl | omega | (simp; omega)
    try simp only [Act.put, List.setIfInBounds_toArray, List.set_cons_zero, List.set_cons_succ]
    refine wpAnyH_ready (rs := [1, 9]) (by kernel_rfl) (by simp) ?_
    refine AllReadyH.cons rfl (fun K hK => ?_) (AllReadyH.cons rfl (fun K hK => ?_) AllReadyH.nil)
    · rw [if_pos (by kernel_rfl)]
      go_simp
      refine (toStore_any A0 _ c0 xs0 nx0 _ _ (hr0.kept (And.left (by assumption))) (by omega) HSL0.out).mono ?_
      rintro e w6 ⟨A_6, c_6, rs_6, rfl, hc_6, hm_6, ho_6, hb⟩
      have HM_6 := Lib.hid hm_6
      clear hm_6
      have HLEN_6 := Lib.hid (map_len HM_6.out)
      replace ho_6 := ho_6.lower (And.left (by assumption) : Below w5.heap.size w5 _).size
      refine hK.out _ _ ?_ (fun hHeld => ?_)
      · (try dsimp only) <;> (((refine (fun hB => ⟨hB, old_cell hB b0_0, old_cell hB b0_1, old_cell hB b1_0, old_cell hB b1_1⟩ : Below w5.heap.size w5 _ → _) ?_); (repeat (first | exact bel_refl _ | exact bel_drew (bel_refl _) | exact bel_trans (And.left (by assumption)) (by assumption) | assumption | exact bel_alloc (And.left (by assumption)) _ | exact bel_set (bel_set (And.left (by assumption)) hzb _) hzb _))))
      clear hK K
      try simp only [Act.put, List.setIfInBounds_toArray, List.set_cons_zero, List.set_cons_succ]
      refine wpAnyH_ready (rs := [3, 9]) (by kernel_rfl) (by simp) ?_
      refine AllReadyH.cons rfl (fun K hK => ?_) (AllReadyH.cons rfl (fun K hK => ?_) AllReadyH.nil)
      · rw [if_pos (by kernel_rfl)]
        go_simp
        refine (toFact_any kd1 A1 _ c1 xs1 _ _ (hr1.kept (And.left (by assumption))) (by omega)).mono ?_
        rintro e w7 ⟨v_7, rfl, ho_7, hb⟩
        obtain ⟨A_7, c_7, rfl, hc_7, _⟩ := ho_7.rd
        replace ho_6 := ho_6.kept hb
        replace ho_7 := ho_7.lower (And.left (by assumption) : Below w5.heap.size w5 _).size
        refine hK.out _ _ ?_ (fun hHeld => ?_)
        · (try dsimp only) <;> (((refine (fun hB => ⟨hB, old_cell hB b0_0, old_cell hB b0_1, old_cell hB b1_0, old_cell hB b1_1⟩ : Below w5.heap.size w5 _ → _) ?_); (repeat (first | exact bel_refl _ | exact bel_drew (bel_refl _) | exact bel_trans (And.left (by assumption)) (by assumption) | assumption | exact bel_alloc (And.left (by assumption)) _ | exact bel_set (bel_set (And.left (by assumption)) hzb _) hzb _))))
        clear hK K
        try simp only [Act.put, List.setIfInBounds_toArray, List.set_cons_zero, List.set_cons_succ]
        refine wpAnyH_ready (rs := [4, 9]) (by kernel_rfl) (by simp) ?_
        refine AllReadyH.cons rfl (fun K hK => ?_) (AllReadyH.cons rfl (fun K hK => ?_) AllReadyH.nil)
        · rw [if_pos (by kernel_rfl)]
          go_simp
          refine (specAssert_any A_6 _ c_6 rs_6 nx0 kd1 A_7 _ c_7 xs1 _ _ _ (ho_6.rdO) (ho_7.rdO) (by have := HLEN_6.out; omega) (by omega) hk1 HZ1.out (fs_map HM_6.out HSL0.out) (good_of HM_6.out HZ0.out (fs_map HM_6.out HSL0.out)) rl rnx rid rok (by rw [HM_6.out]; exact HR.out)).mono ?_
          dsimp only [tupAs]
          rintro e w8 ⟨A_8, c_8, rs_8, rfl, hc_8, hm_8, ho_8, hb⟩
          have HM_8 := Lib.hid hm_8
          clear hm_8
          replace ho_6 := ho_6.kept hb
          replace ho_7 := ho_7.kept hb
          replace ho_8 := ho_8.lower (And.left (by assumption) : Below w5.heap.size w5 _).size
          refine hK.out _ _ ?_ (fun hHeld => ?_)
          · (try dsimp only) <;> (((refine (fun hB => ⟨hB, old_cell hB b0_0, old_cell hB b0_1, old_cell hB b1_0, old_cell hB b1_1⟩ : Below w5.heap.size w5 _ → _) ?_); (repeat (first | exact bel_refl _ | exact bel_drew (bel_refl _) | exact bel_trans (And.left (by assumption)) (by assumption) | assumption | exact bel_alloc (And.left (by assumption)) _ | exact bel_set (bel_set (And.left (by assumption)) hzb _) hzb _))))
          clear hK K
          try simp only [Act.put, List.setIfInBounds_toArray, List.set_cons_zero, List.set_cons_succ]
          refine h_take 5 (some 30) (?_) rfl rfl (by kernel_rfl) (by kernel_rfl) (by kernel_rfl) (fun _ _ _ h => h) (by kernel_rfl) ?_ (by assumption) ?_
          rotate_left
          · intro w hSw; (try dsimp only at hSw); go_simp
            all_goals first | with_reducible rfl | omega | (simp; omega)
          try simp only [Act.put, List.setIfInBounds_toArray, List.set_cons_zero, List.set_cons_succ]
          refine h_take 6 (some 36) (?_) rfl rfl (by kernel_rfl) (by kernel_rfl) (by kernel_rfl) (fun _ _ _ h => h) (by kernel_rfl) ?_ (by assumption) ?_
          rotate_left
          · intro w hSw; (try dsimp only at hSw); go_simp
            all_goals first | with_reducible rfl | omega | (simp; omega)
          try simp only [Act.put, List.setIfInBounds_toArray, List.set_cons_zero, List.set_cons_succ]
          refine h_take 7 (some 37) (?_) rfl rfl (by kernel_rfl) (by kernel_rfl) (by kernel_rfl) (fun _ _ _ h => h) (by kernel_rfl) ?_ (by assumption) ?_
          rotate_left
          · intro w hSw; (try dsimp only at hSw); go_simp
            all_goals first | with_reducible rfl | omega | (simp; omega)
          try simp only [Act.put, List.setIfInBounds_toArray, List.set_cons_zero, List.set_cons_succ]
          refine h_take 8 (some 38) (?_) rfl rfl (by kernel_rfl) (by kernel_rfl) (by kernel_rfl) (fun _ _ _ h => h) (by kernel_rfl) ?_ (by assumption) ?_
          rotate_left
          · intro w hSw; (try dsimp only at hSw); go_simp
            all_goals first | with_reducible rfl | omega | (simp; omega)
          try simp only [Act.put, List.setIfInBounds_toArray, List.set_cons_zero, List.set_cons_succ]
          refine h_call 9 (by kernel_rfl) rfl (by kernel_rfl) (fun K hK => ?_)
          have HBa := Blk.new w8 32 #[.slice none 0 0, .int .i64 0]
          have hzb : w5.heap.size ≤ w8.heap.size := (And.left (by assumption) : Below w5.heap.size w5 w8).size
          have ho_6_pre := ho_6
          have ho_7_pre := ho_7
          have ho_8_pre := ho_8
          replace ho_6 := ho_6.alloc (.cells #[.slice none 0 0, .int .i64 0] 32)
          replace ho_7 := ho_7.alloc (.cells #[.slice none 0 0, .int .i64 0] 32)
          replace ho_8 := ho_8.alloc (.cells #[.slice none 0 0, .int .i64 0] 32)
          go_simp
          refine hK.out _ _ ?_ (fun hHeld => ?_)
          · (try dsimp only) <;> (((refine (fun hB => ⟨hB, old_cell hB b0_0, old_cell hB b0_1, old_cell hB b1_0, old_cell hB b1_1⟩ : Below w5.heap.size w5 _ → _) ?_); (repeat (first | exact bel_refl _ | exact bel_drew (bel_refl _) | exact bel_trans (And.left (by assumption)) (by assumption) | assumption | exact bel_alloc (And.left (by assumption)) _ | exact bel_set (bel_set (And.left (by assumption)) hzb _) hzb _))))
          clear hK K
          try simp only [Act.put, List.setIfInBounds_toArray, List.set_cons_zero, List.set_cons_succ]
          refine h_call 10 (by kernel_rfl) rfl (by kernel_rfl) (fun K hK => ?_)
          obtain ⟨ha0, ha1, hfa0, hfa1⟩ := HBa.two
          have hal := HBa.lt
          go_simp
          refine hK.out _ _ ?_ (fun hHeld => ?_)
          · (try dsimp only) <;> (((refine (fun hB => ⟨hB, old_cell hB b0_0, old_cell hB b0_1, old_cell hB b1_0, old_cell hB b1_1⟩ : Below w5.heap.size w5 _ → _) ?_); (repeat (first | exact bel_refl _ | exact bel_drew (bel_refl _) | exact bel_trans (And.left (by assumption)) (by assumption) | assumption | exact bel_alloc (And.left (by assumption)) _ | exact bel_set (bel_set (And.left (by assumption)) hzb _) hzb _))))
          clear hK K
          try simp only [Act.put, List.setIfInBounds_toArray, List.set_cons_zero, List.set_cons_succ]
          refine h_take 11 (some 7) (?_) rfl rfl (by kernel_rfl) (by kernel_rfl) (by kernel_rfl) (fun _ _ _ h => h) (by kernel_rfl) ?_ (by assumption) ?_
          rotate_left
          · intro w hSw; (try dsimp only at hSw); go_simp
            all_goals first | with_reducible rfl | omega | (simp; omega)
          try simp only [Act.put, List.setIfInBounds_toArray, List.set_cons_zero, List.set_cons_succ]
          refine h_take 12 (some 8) (?_) rfl rfl (by kernel_rfl) (by kernel_rfl) (by kernel_rfl) (fun _ _ _ h => h) (by kernel_rfl) ?_ (by assumption) ?_
          rotate_left
          · intro w hSw; (try dsimp only at hSw); go_simp
            all_goals first | with_reducible rfl | omega | (simp; omega)
          try simp only [Act.put, List.setIfInBounds_toArray, List.set_cons_zero, List.set_cons_succ]
          refine wpAnyH_done (by kernel_rfl) ?_ _
          have hoZ := OwnI.setBlk (OwnI.setBlk ho_8 HBa 0 (.slice A_8 rs_8.length c_8)) (HBa.set_ 0 (.slice A_8 rs_8.length c_8)) 1 (.int .i64 rnx)
          have HBz := (HBa.set_ 0 (.slice A_8 rs_8.length c_8)).set_ 1 (.int .i64 rnx)
          simp only [List.setIfInBounds_toArray, List.set_cons_zero, List.set_cons_succ] at HBz
          go_wp2_with fail
          go_meet
          case rel => first | exact ⟨_, _, _, _, rfl, rfl, rfl, ⟨hc_8, HM_8.out⟩, HBz, hoZ, hHeld.1, hzb⟩ | exact ⟨_, _, _, _, rfl, rfl, rfl, ⟨hc_8, HM_8.out⟩, Blk.new _ _ _, ho_8_pre.alloc _, hHeld.1, hzb⟩
        · rw [if_pos (by kernel_rfl)]
          have HBa := Blk.new w7 32 #[.slice none 0 0, .int .i64 0]
          have hzb : w5.heap.size ≤ w7.heap.size := (And.left (by assumption) : Below w5.heap.size w5 w7).size
          have ho_6_pre := ho_6
          have ho_7_pre := ho_7
          replace ho_6 := ho_6.alloc (.cells #[.slice none 0 0, .int .i64 0] 32)
          replace ho_7 := ho_7.alloc (.cells #[.slice none 0 0, .int .i64 0] 32)
          go_simp
          refine hK.out _ _ ?_ (fun hHeld => ?_)
          · (try dsimp only) <;> (((refine (fun hB => ⟨hB, old_cell hB b0_0, old_cell hB b0_1, old_cell hB b1_0, old_cell hB b1_1⟩ : Below w5.heap.size w5 _ → _) ?_); (repeat (first | exact bel_refl _ | exact bel_drew (bel_refl _) | exact bel_trans (And.left (by assumption)) (by assumption) | assumption | exact bel_alloc (And.left (by assumption)) _ | exact bel_set (bel_set (And.left (by assumption)) hzb _) hzb _))))
          clear hK K
          try simp only [Act.put, List.setIfInBounds_toArray, List.set_cons_zero, List.set_cons_succ]
          refine h_call 4 (by kernel_rfl) rfl (by kernel_rfl) (fun K hK => ?_)
          go_simp
          refine (specAssert_any A_6 _ c_6 rs_6 nx0 kd1 A_7 _ c_7 xs1 _ _ _ (ho_6.rdO) (ho_7.rdO) (by have := HLEN_6.out; omega) (by omega) hk1 HZ1.out (fs_map HM_6.out HSL0.out) (good_of HM_6.out HZ0.out (fs_map HM_6.out HSL0.out)) rl rnx rid rok (by rw [HM_6.out]; exact HR.out)).mono ?_
          dsimp only [tupAs]
          rintro e w8 ⟨A_8, c_8, rs_8, rfl, hc_8, hm_8, ho_8, hb⟩
          have HM_8 := Lib.hid hm_8
          clear hm_8
          replace ho_6 := ho_6.kept hb
          replace ho_7 := ho_7.kept hb
          replace HBa := HBa.kept hb
          replace ho_8 := ho_8.lower (And.left (by assumption) : Below w5.heap.size w5 _).size
          refine hK.out _ _ ?_ (fun hHeld => ?_)
          · (try dsimp only) <;> (((refine (fun hB => ⟨hB, old_cell hB b0_0, old_cell hB b0_1, old_cell hB b1_0, old_cell hB b1_1⟩ : Below w5.heap.size w5 _ → _) ?_); (repeat (first | exact bel_refl _ | exact bel_drew (bel_refl _) | exact bel_trans (And.left (by assumption)) (by assumption) | assumption | exact bel_alloc (And.left (by assumption)) _ | exact bel_set (bel_set (And.left (by assumption)) hzb _) hzb _))))
          clear hK K
          try simp only [Act.put, List.setIfInBounds_toArray, List.set_cons_zero, List.set_cons_succ]
          refine h_take 5 (some 30) (?_) rfl rfl (by kernel_rfl) (by kernel_rfl) (by kernel_rfl) (fun _ _ _ h => h) (by kernel_rfl) ?_ (by assumption) ?_
          rotate_left
          · intro w hSw; (try dsimp only at hSw); go_simp
            all_goals first | with_reducible rfl | omega | (simp; omega)
          try simp only [Act.put, List.setIfInBounds_toArray, List.set_cons_zero, List.set_cons_succ]
          refine h_take 6 (some 36) (?_) rfl rfl (by kernel_rfl) (by kernel_rfl) (by kernel_rfl) (fun _ _ _ h => h) (by kernel_rfl) ?_ (by assumption) ?_
          rotate_left
          · intro w hSw; (try dsimp only at hSw); go_simp
            all_goals first | with_reducible rfl | omega | (simp; omega)
          try simp only [Act.put, List.setIfInBounds_toArray, List.set_cons_zero, List.set_cons_succ]
          refine h_take 7 (some 37) (?_) rfl rfl (by kernel_rfl) (by kernel_rfl) (by kernel_rfl) (fun _ _ _ h => h) (by kernel_rfl) ?_ (by assumption) ?_
          rotate_left
          · intro w hSw; (try dsimp only at hSw); go_simp
            all_goals first | with_reducible rfl | omega | (simp; omega)
          try simp only [Act.put, List.setIfInBounds_toArray, List.set_cons_zero, List.set_cons_succ]
          refine h_take 8 (some 38) (?_) rfl rfl (by kernel_rfl) (by kernel_rfl) (by kernel_rfl) (fun _ _ _ h => h) (by kernel_rfl) ?_ (by assumption) ?_
          rotate_left
          · intro w hSw; (try dsimp only at hSw); go_simp
            all_goals first | with_reducible rfl | omega | (simp; omega)
          try simp only [Act.put, List.setIfInBounds_toArray, List.set_cons_zero, List.set_cons_succ]
          refine h_call 10 (by kernel_rfl) rfl (by kernel_rfl) (fun K hK => ?_)
          obtain ⟨ha0, ha1, hfa0, hfa1⟩ := HBa.two
          have hal := HBa.lt
          go_simp
          refine hK.out _ _ ?_ (fun hHeld => ?_)
          · (try dsimp only) <;> (((refine (fun hB => ⟨hB, old_cell hB b0_0, old_cell hB b0_1, old_cell hB b1_0, old_cell hB b1_1⟩ : Below w5.heap.size w5 _ → _) ?_); (repeat (first | exact bel_refl _ | exact bel_drew (bel_refl _) | exact bel_trans (And.left (by assumption)) (by assumption) | assumption | exact bel_alloc (And.left (by assumption)) _ | exact bel_set (bel_set (And.left (by assumption)) hzb _) hzb _))))
          clear hK K
          try simp only [Act.put, List.setIfInBounds_toArray, List.set_cons_zero, List.set_cons_succ]
          refine h_take 11 (some 7) (?_) rfl rfl (by kernel_rfl) (by kernel_rfl) (by kernel_rfl) (fun _ _ _ h => h) (by kernel_rfl) ?_ (by assumption) ?_
          rotate_left
          · intro w hSw; (try dsimp only at hSw); go_simp
            all_goals first | with_reducible rfl | omega | (simp; omega)
          try simp only [Act.put, List.setIfInBounds_toArray, List.set_cons_zero, List.set_cons_succ]
          refine h_take 12 (some 8) (?_) rfl rfl (by kernel_rfl) (by kernel_rfl) (by kernel_rfl) (fun _ _ _ h => h) (by kernel_rfl) ?_ (by assumption) ?_
          rotate_left
          · intro w hSw; (try dsimp only at hSw); go_simp
            all_goals first | with_reducible rfl | omega | (simp; omega)
          try simp only [Act.put, List.setIfInBounds_toArray, List.set_cons_zero, List.set_cons_succ]
          refine wpAnyH_done (by kernel_rfl) ?_ _
          have hoZ := OwnI.setBlk (OwnI.setBlk ho_8 HBa 0 (.slice A_8 rs_8.length c_8)) (HBa.set_ 0 (.slice A_8 rs_8.length c_8)) 1 (.int .i64 rnx)
          have HBz := (HBa.set_ 0 (.slice A_8 rs_8.length c_8)).set_ 1 (.int .i64 rnx)
          simp only [List.setIfInBounds_toArray, List.set_cons_zero, List.set_cons_succ] at HBz
          go_wp2_with fail
          go_meet
          case rel => first | exact ⟨_, _, _, _, rfl, rfl, rfl, ⟨hc_8, HM_8.out⟩, HBz, hoZ, hHeld.1, hzb⟩ | exact ⟨_, _, _, _, rfl, rfl, rfl, ⟨hc_8, HM_8.out⟩, Blk.new _ _ _, ho_8_pre.alloc _, hHeld.1, hzb⟩
      · rw [if_pos (by kernel_rfl)]
        have HBa := Blk.new w6 32 #[.slice none 0 0, .int .i64 0]
        have hzb : w5.heap.size ≤ w6.heap.size := (And.left (by assumption) : Below w5.heap.size w5 w6).size
        have ho_6_pre := ho_6
        replace ho_6 := ho_6.alloc (.cells #[.slice none 0 0, .int .i64 0] 32)
        go_simp
        refine hK.out _ _ ?_ (fun hHeld => ?_)
        · (try dsimp only) <;> (((refine (fun hB => ⟨hB, old_cell hB b0_0, old_cell hB b0_1, old_cell hB b1_0, old_cell hB b1_1⟩ : Below w5.heap.size w5 _ → _) ?_); (repeat (first | exact bel_refl _ | exact bel_drew (bel_refl _) | exact bel_trans (And.left (by assumption)) (by assumption) | assumption | exact bel_alloc (And.left (by assumption)) _ | exact bel_set (bel_set (And.left (by assumption)) hzb _) hzb _))))
        clear hK K
        try simp only [Act.put, List.setIfInBounds_toArray, List.set_cons_zero, List.set_cons_succ]
        refine h_call 3 (by kernel_rfl) rfl (by kernel_rfl) (fun K hK => ?_)
        go_simp
        refine (toFact_any kd1 A1 _ c1 xs1 _ _ (hr1.kept (And.left (by assumption))) (by omega)).mono ?_
        rintro e w7 ⟨v_7, rfl, ho_7, hb⟩
        obtain ⟨A_7, c_7, rfl, hc_7, _⟩ := ho_7.rd
        replace ho_6 := ho_6.kept hb
        replace HBa := HBa.kept hb
        replace ho_7 := ho_7.lower (And.left (by assumption) : Below w5.heap.size w5 _).size
        refine hK.out _ _ ?_ (fun hHeld => ?_)
        · (try dsimp only) <;> (((refine (fun hB => ⟨hB, old_cell hB b0_0, old_cell hB b0_1, old_cell hB b1_0, old_cell hB b1_1⟩ : Below w5.heap.size w5 _ → _) ?_); (repeat (first | exact bel_refl _ | exact bel_drew (bel_refl _) | exact bel_trans (And.left (by assumption)) (by assumption) | assumption | exact bel_alloc (And.left (by assumption)) _ | exact bel_set (bel_set (And.left (by assumption)) hzb _) hzb _))))
        clear hK K
        try simp only [Act.put, List.setIfInBounds_toArray, List.set_cons_zero, List.set_cons_succ]
        refine h_call 4 (by kernel_rfl) rfl (by kernel_rfl) (fun K hK => ?_)
        go_simp
        refine (specAssert_any A_6 _ c_6 rs_6 nx0 kd1 A_7 _ c_7 xs1 _ _ _ (ho_6.rdO) (ho_7.rdO) (by have := HLEN_6.out; omega) (by omega) hk1 HZ1.out (fs_map HM_6.out HSL0.out) (good_of HM_6.out HZ0.out (fs_map HM_6.out HSL0.out)) rl rnx rid rok (by rw [HM_6.out]; exact HR.out)).mono ?_
        dsimp only [tupAs]
        rintro e w8 ⟨A_8, c_8, rs_8, rfl, hc_8, hm_8, ho_8, hb⟩
        have HM_8 := Lib.hid hm_8
        clear hm_8
        replace ho_6 := ho_6.kept hb
        replace ho_7 := ho_7.kept hb
        replace HBa := HBa.kept hb
        replace ho_8 := ho_8.lower (And.left (by assumption) : Below w5.heap.size w5 _).size
        refine hK.out _ _ ?_ (fun hHeld => ?_)
        · (try dsimp only) <;> (((refine (fun hB => ⟨hB, old_cell hB b0_0, old_cell hB b0_1, old_cell hB b1_0, old_cell hB b1_1⟩ : Below w5.heap.size w5 _ → _) ?_); (repeat (first | exact bel_refl _ | exact bel_drew (bel_refl _) | exact bel_trans (And.left (by assumption)) (by assumption) | assumption | exact bel_alloc (And.left (by assumption)) _ | exact bel_set (bel_set (And.left (by assumption)) hzb _) hzb _))))
        clear hK K
        try simp only [Act.put, List.setIfInBounds_toArray, List.set_cons_zero, List.set_cons_succ]
        refine h_take 5 (some 30) (?_) rfl rfl (by kernel_rfl) (by kernel_rfl) (by kernel_rfl) (fun _ _ _ h => h) (by kernel_rfl) ?_ (by assumption) ?_
        rotate_left
        · intro w hSw; (try dsimp only at hSw); go_simp
          all_goals first | with_reducible rfl | omega | (simp; omega)
        try simp only [Act.put, List.setIfInBounds_toArray, List.set_cons_zero, List.set_cons_succ]
        refine h_take 6 (some 36) (?_) rfl rfl (by kernel_rfl) (by kernel_rfl) (by kernel_rfl) (fun _ _ _ h => h) (by kernel_rfl) ?_ (by assumption) ?_
        rotate_left
        · intro w hSw; (try dsimp only at hSw); go_simp
          all_goals first | with_reducible rfl | omega | (simp; omega)
        try simp only [Act.put, List.setIfInBounds_toArray, List.set_cons_zero, List.set_cons_succ]
        refine h_take 7 (some 37) (?_) rfl rfl (by kernel_rfl) (by kernel_rfl) (by kernel_rfl) (fun _ _ _ h => h) (by kernel_rfl) ?_ (by assumption) ?_
        rotate_left
        · intro w hSw; (try dsimp only at hSw); go_simp
          all_goals first | with_reducible rfl | omega | (simp; omega)
        try simp only [Act.put, List.setIfInBounds_toArray, List.set_cons_zero, List.set_cons_succ]
        refine h_take 8 (some 38) (?_) rfl rfl (by kernel_rfl) (by kernel_rfl) (by kernel_rfl) (fun _ _ _ h => h) (by kernel_rfl) ?_ (by assumption) ?_
        rotate_left
        · intro w hSw; (try dsimp only at hSw); go_simp
          all_goals first | with_reducible rfl | omega | (simp; omega)
        try simp only [Act.put, List.setIfInBounds_toArray, List.set_cons_zero, List.set_cons_succ]
        refine h_call 10 (by kernel_rfl) rfl (by kernel_rfl) (fun K hK => ?_)
        obtain ⟨ha0, ha1, hfa0, hfa1⟩ := HBa.two
        have hal := HBa.lt
        go_simp
        refine hK.out _ _ ?_ (fun hHeld => ?_)
        · (try dsimp only) <;> (((refine (fun hB => ⟨hB, old_cell hB b0_0, old_cell hB b0_1, old_cell hB b1_0, old_cell hB b1_1⟩ : Below w5.heap.size w5 _ → _) ?_); (repeat (first | exact bel_refl _ | exact bel_drew (bel_refl _) | exact bel_trans (And.left (by assumption)) (by assumption) | assumption | exact bel_alloc (And.left (by assumption)) _ | exact bel_set (bel_set (And.left (by assumption)) hzb _) hzb _))))
        clear hK K
        try simp only [Act.put, List.setIfInBounds_toArray, List.set_cons_zero, List.set_cons_succ]
        refine h_take 11 (some 7) (?_) rfl rfl (by kernel_rfl) (by kernel_rfl) (by kernel_rfl) (fun _ _ _ h => h) (by kernel_rfl) ?_ (by assumption) ?_
        rotate_left
        · intro w hSw; (try dsimp only at hSw); go_simp
          all_goals first | with_reducible rfl | omega | (simp; omega)
        try simp only [Act.put, List.setIfInBounds_toArray, List.set_cons_zero, List.set_cons_succ]
        refine h_take 12 (some 8) (?_) rfl rfl (by kernel_rfl) (by kernel_rfl) (by kernel_rfl) (fun _ _ _ h => h) (by kernel_rfl) ?_ (by assumption) ?_
        rotate_left
        · intro w hSw; (try dsimp only at hSw); go_simp
          all_goals first | with_reducible rfl | omega | (simp; omega)
        try simp only [Act.put, List.setIfInBounds_toArray, List.set_cons_zero, List.set_cons_succ]
        refine wpAnyH_done (by kernel_rfl) ?_ _
        have hoZ := OwnI.setBlk (OwnI.setBlk ho_8 HBa 0 (.slice A_8 rs_8.length c_8)) (HBa.set_ 0 (.slice A_8 rs_8.length c_8)) 1 (.int .i64 rnx)
        have HBz := (HBa.set_ 0 (.slice A_8 rs_8.length c_8)).set_ 1 (.int .i64 rnx)
        simp only [List.setIfInBounds_toArray, List.set_cons_zero, List.set_cons_succ] at HBz
        go_wp2_with fail
        go_meet
        case rel => first | exact ⟨_, _, _, _, rfl, rfl, rfl, ⟨hc_8, HM_8.out⟩, HBz, hoZ, hHeld.1, hzb⟩ | exact ⟨_, _, _, _, rfl, rfl, rfl, ⟨hc_8, HM_8.out⟩, Blk.new _ _ _, ho_8_pre.alloc _, hHeld.1, hzb⟩
    · rw [if_pos (by kernel_rfl)]
      have HBa : Blk ((w5.drew).alloc (.cells #[.slice none 0 0, .int .i64 0] 32)) w5.heap.size 32 #[.slice none 0 0, .int .i64 0] := Blk.new (w5.drew) 32 #[.slice none 0 0, .int .i64 0]
      have hzb : w5.heap.size ≤ w5.heap.size := Nat.le_refl _
      go_simp
      refine hK.out _ _ ?_ (fun hHeld => ?_)
      · (try dsimp only) <;> (((refine (fun hB => ⟨hB, old_cell hB b0_0, old_cell hB b0_1, old_cell hB b1_0, old_cell hB b1_1⟩ : Below w5.heap.size w5 _ → _) ?_); (repeat (first | exact bel_refl _ | exact bel_drew (bel_refl _) | exact bel_trans (And.left (by assumption)) (by assumption) | assumption | exact bel_alloc (And.left (by assumption)) _ | exact bel_set (bel_set (And.left (by assumption)) hzb _) hzb _))))
      clear hK K
      try simp only [Act.put, List.setIfInBounds_toArray, List.set_cons_zero, List.set_cons_succ]
      refine h_call 1 (by kernel_rfl) rfl (by kernel_rfl) (fun K hK => ?_)
      go_simp
      refine (toStore_any A0 _ c0 xs0 nx0 _ _ (hr0.kept (And.left (by assumption))) (by omega) HSL0.out).mono ?_
      rintro e w6 ⟨A_6, c_6, rs_6, rfl, hc_6, hm_6, ho_6, hb⟩
      have HM_6 := Lib.hid hm_6
      clear hm_6
      have HLEN_6 := Lib.hid (map_len HM_6.out)
      replace HBa := HBa.kept hb
      replace ho_6 := ho_6.lower (And.left (by assumption) : Below w5.heap.size w5 _).size
      refine hK.out _ _ ?_ (fun hHeld => ?_)
      · (try dsimp only) <;> (((refine (fun hB => ⟨hB, old_cell hB b0_0, old_cell hB b0_1, old_cell hB b1_0, old_cell hB b1_1⟩ : Below w5.heap.size w5 _ → _) ?_); (repeat (first | exact bel_refl _ | exact bel_drew (bel_refl _) | exact bel_trans (And.left (by assumption)) (by assumption) | assumption | exact bel_alloc (And.left (by assumption)) _ | exact bel_set (bel_set (And.left (by assumption)) hzb _) hzb _))))
      clear hK K
      try simp only [Act.put, List.setIfInBounds_toArray, List.set_cons_zero, List.set_cons_succ]
      refine h_call 3 (by kernel_rfl) rfl (by kernel_rfl) (fun K hK => ?_)
      go_simp
      refine (toFact_any kd1 A1 _ c1 xs1 _ _ (hr1.kept (And.left (by assumption))) (by omega)).mono ?_
      rintro e w7 ⟨v_7, rfl, ho_7, hb⟩
      obtain ⟨A_7, c_7, rfl, hc_7, _⟩ := ho_7.rd
      replace ho_6 := ho_6.kept hb
      replace HBa := HBa.kept hb
      replace ho_7 := ho_7.lower (And.left (by assumption) : Below w5.heap.size w5 _).size
      refine hK.out _ _ ?_ (fun hHeld => ?_)
      · (try dsimp only) <;> (((refine (fun hB => ⟨hB, old_cell hB b0_0, old_cell hB b0_1, old_cell hB b1_0, old_cell hB b1_1⟩ : Below w5.heap.size w5 _ → _) ?_); (repeat (first | exact bel_refl _ | exact bel_drew (bel_refl _) | exact bel_trans (And.left (by assumption)) (by assumption) | assumption | exact bel_alloc (And.left (by assumption)) _ | exact bel_set (bel_set (And.left (by assumption)) hzb _) hzb _))))
      clear hK K
      try simp only [Act.put, List.setIfInBounds_toArray, List.set_cons_zero, List.set_cons_succ]
      refine h_call 4 (by kernel_rfl) rfl (by kernel_rfl) (fun K hK => ?_)
      go_simp
      refine (specAssert_any A_6 _ c_6 rs_6 nx0 kd1 A_7 _ c_7 xs1 _ _ _ (ho_6.rdO) (ho_7.rdO) (by have := HLEN_6.out; omega) (by omega) hk1 HZ1.out (fs_map HM_6.out HSL0.out) (good_of HM_6.out HZ0.out (fs_map HM_6.out HSL0.out)) rl rnx rid rok (by rw [HM_6.out]; exact HR.out)).mono ?_
      dsimp only [tupAs]
      rintro e w8 ⟨A_8, c_8, rs_8, rfl, hc_8, hm_8, ho_8, hb⟩
      have HM_8 := Lib.hid hm_8
      clear hm_8
      replace ho_6 := ho_6.kept hb
      replace ho_7 := ho_7.kept hb
      replace HBa := HBa.kept hb
      replace ho_8 := ho_8.lower (And.left (by assumption) : Below w5.heap.size w5 _).size
      refine hK.out _ _ ?_ (fun hHeld => ?_)
      · (try dsimp only) <;> (((refine (fun hB => ⟨hB, old_cell hB b0_0, old_cell hB b0_1, old_cell hB b1_0, old_cell hB b1_1⟩ : Below w5.heap.size w5 _ → _) ?_); (repeat (first | exact bel_refl _ | exact bel_drew (bel_refl _) | exact bel_trans (And.left (by assumption)) (by assumption) | assumption | exact bel_alloc (And.left (by assumption)) _ | exact bel_set (bel_set (And.left (by assumption)) hzb _) hzb _))))
      clear hK K
      try simp only [Act.put, List.setIfInBounds_toArray, List.set_cons_zero, List.set_cons_succ]
      refine h_take 5 (some 30) (?_) rfl rfl (by kernel_rfl) (by kernel_rfl) (by kernel_rfl) (fun _ _ _ h => h) (by kernel_rfl) ?_ (by assumption) ?_
      rotate_left
      · intro w hSw; (try dsimp only at hSw); go_simp
        all_goals first | with_reducible rfl | omega | (simp; omega)
      try simp only [Act.put, List.setIfInBounds_toArray, List.set_cons_zero, List.set_cons_succ]
      refine h_take 6 (some 36) (?_) rfl rfl (by kernel_rfl) (by kernel_rfl) (by kernel_rfl) (fun _ _ _ h => h) (by kernel_rfl) ?_ (by assumption) ?_
      rotate_left
      · intro w hSw; (try dsimp only at hSw); go_simp
        all_goals first | with_reducible rfl | omega | (simp; omega)
      try simp only [Act.put, List.setIfInBounds_toArray, List.set_cons_zero, List.set_cons_succ]
      refine h_take 7 (some 37) (?_) rfl rfl (by kernel_rfl) (by kernel_rfl) (by kernel_rfl) (fun _ _ _ h => h) (by kernel_rfl) ?_ (by assumption) ?_
      rotate_left
      · intro w hSw; (try dsimp only at hSw); go_simp
        all_goals first | with_reducible rfl | omega | (simp; omega)
      try simp only [Act.put, List.setIfInBounds_toArray, List.set_cons_zero, List.set_cons_succ]
      refine h_take 8 (some 38) (?_) rfl rfl (by kernel_rfl) (by kernel_rfl) (by kernel_rfl) (fun _ _ _ h => h) (by kernel_rfl) ?_ (by assumption) ?_
      rotate_left
      · intro w hSw; (try dsimp only at hSw); go_simp
        all_goals first | with_reducible rfl | omega | (simp; omega)
      try simp only [Act.put, List.setIfInBounds_toArray, List.set_cons_zero, List.set_cons_succ]
      refine h_call 10 (by kernel_rfl) rfl (by kernel_rfl) (fun K hK => ?_)
      obtain ⟨ha0, ha1, hfa0, hfa1⟩ := HBa.two
      have hal := HBa.lt
      go_simp
      refine hK.out _ _ ?_ (fun hHeld => ?_)
      · (try dsimp only) <;> (((refine (fun hB => ⟨hB, old_cell hB b0_0, old_cell hB b0_1, old_cell hB b1_0, old_cell hB b1_1⟩ : Below w5.heap.size w5 _ → _) ?_); (repeat (first | exact bel_refl _ | exact bel_drew (bel_refl _) | exact bel_trans (And.left (by assumption)) (by assumption) | assumption | exact bel_alloc (And.left (by assumption)) _ | exact bel_set (bel_set (And.left (by assumption)) hzb _) hzb _))))
      clear hK K
      try simp only [Act.put, List.setIfInBounds_toArray, List.set_cons_zero, List.set_cons_succ]
      refine h_take 11 (some 7) (?_) rfl rfl (by kernel_rfl) (by kernel_rfl) (by kernel_rfl) (fun _ _ _ h => h) (by kernel_rfl) ?_ (by assumption) ?_
      rotate_left
      · intro w hSw; (try dsimp only at hSw); go_simp
        all_goals first | with_reducible rfl | omega | (simp; omega)
      try simp only [Act.put, List.setIfInBounds_toArray, List.set_cons_zero, List.set_cons_succ]
      refine h_take 12 (some 8) (?_) rfl rfl (by kernel_rfl) (by kernel_rfl) (by kernel_rfl) (fun _ _ _ h => h) (by kernel_rfl) ?_ (by assumption) ?_
      rotate_left
      · intro w hSw; (try dsimp only at hSw); go_simp
        all_goals first | with_reducible rfl | omega | (simp; omega)
      try simp only [Act.put, List.setIfInBounds_toArray, List.set_cons_zero, List.set_cons_succ]
      refine wpAnyH_done (by kernel_rfl) ?_ _
      have hoZ := OwnI.setBlk (OwnI.setBlk ho_8 HBa 0 (.slice A_8 rs_8.length c_8)) (HBa.set_ 0 (.slice A_8 rs_8.length c_8)) 1 (.int .i64 rnx)
      have HBz := (HBa.set_ 0 (.slice A_8 rs_8.length c_8)).set_ 1 (.int .i64 rnx)
      simp only [List.setIfInBounds_toArray, List.set_cons_zero, List.set_cons_succ] at HBz
      go_wp2_with fail
      go_meet
      case rel => first | exact ⟨_, _, _, _, rfl, rfl, rfl, ⟨hc_8, HM_8.out⟩, HBz, hoZ, hHeld.1, hzb⟩ | exact ⟨_, _, _, _, rfl, rfl, rfl, ⟨hc_8, HM_8.out⟩, Blk.new _ _ _, ho_8_pre.alloc _, hHeld.1, hzb⟩
  case rest =>
    obtain ⟨A_8, c_8, rs_8, bb_8, rfl, rfl, rfl, ⟨hc_8, hm_8⟩, HBx, ho_8, hB, hzb_8⟩ := hcut
    have HM_8 := Lib.hid hm_8
    clear hm_8
    replace b0_0 := old_cell hB b0_0
    replace b0_1 := old_cell hB b0_1
    replace b1_0 := old_cell hB b1_0
    replace b1_1 := old_cell hB b1_1
    replace hr0 := hr0.kept hB
    replace hr1 := hr1.kept hB
    obtain ⟨bx8_0, bx8_1, _, _⟩ := HBx.two
    have zs_9 := hB.size
    replace gW := bel_trans gW hB
    clear hB HBx
    have z_b0_0 : W.heap.size < wc.heap.size := cell_lt b0_0
    have z_b1_0 : W.heap.size + 1 < wc.heap.size := cell_lt b1_0
    have z_bx8_0 : bb_8 < wc.heap.size := cell_lt bx8_0
    have in_8 : InI _ _ w5.heap.size wc.heap.size := ho_8.inL (by first | exact Nat.le_refl _ | (simp; done) | (simp; omega) | omega)
    go_wp2_with fail
    refine (toStore_any A0 _ c0 xs0 nx0 _ _ hr0 (by omega) HSL0.out).mono ?_
    rintro e w10 ⟨A_10, c_10, rs_10, rfl, hc_10, hm_10, ho_10, hb⟩
    have HM_10 := Lib.hid hm_10
    clear hm_10
    have HLEN_10 := Lib.hid (map_len HM_10.out)
    have g_w10 : Below wc.heap.size wc w10 := (by repeat (first | with_reducible exact bel_refl _ | with_reducible assumption | with_reducible refine bel_set ?_ (by first | (simp; done) | (simp; omega) | omega) _ | with_reducible refine bel_alloc ?_ _ | with_reducible refine bel_drew ?_ | with_reducible refine bel_drewN ?_ _ | with_reducible refine bel_trans ?_ (by assumption)))
    replace b0_0 := old_cell g_w10 b0_0
    replace b0_1 := old_cell g_w10 b0_1
    replace b1_0 := old_cell g_w10 b1_0
    replace b1_1 := old_cell g_w10 b1_1
    replace bx8_0 := old_cell g_w10 bx8_0
    replace bx8_1 := old_cell g_w10 bx8_1
    replace hr0 := hr0.kept g_w10
    replace hr1 := hr1.kept g_w10
    replace ho_8 := ho_8.kept g_w10
    have zs_w10 := g_w10.size
    have gW : Below W.heap.size W w10 := bel_trans gW g_w10
    clear hb g_w10
    have z_b0_0 : W.heap.size < w10.heap.size := cell_lt b0_0
    have z_b1_0 : W.heap.size + 1 < w10.heap.size := cell_lt b1_0
    have z_bx8_0 : bb_8 < w10.heap.size := cell_lt bx8_0
    have in_10 : InI _ _ wc.heap.size w10.heap.size := ho_10.inL (by first | exact Nat.le_refl _ | (simp; done) | (simp; omega) | omega)
    go_wp2_with fail
    refine (toFact_any kd1 A1 _ c1 xs1 _ _ (hr1.alloc _) (by omega)).mono ?_
    rintro e w11 ⟨v_11, rfl, ho_11, hb⟩
    obtain ⟨A_11, c_11, rfl, hc_11, _⟩ := ho_11.rd
    have g_w11 : Below w10.heap.size w10 w11 := (by repeat (first | with_reducible exact bel_refl _ | with_reducible assumption | with_reducible refine bel_set ?_ (by first | (simp; done) | (simp; omega) | omega) _ | with_reducible refine bel_alloc ?_ _ | with_reducible refine bel_drew ?_ | with_reducible refine bel_drewN ?_ _ | with_reducible refine bel_trans ?_ (by assumption)))
    have b2_0 := old_cell hb (b := w10.heap.size) (o := 0) (v := .slice A_10 rs_10.length c_10) (by go_simp)
    have b2_1 := old_cell hb (b := w10.heap.size) (o := 1) (v := .int .i64 nx0) (by go_simp)
    replace b0_0 := old_cell g_w11 b0_0
    replace b0_1 := old_cell g_w11 b0_1
    replace b1_0 := old_cell g_w11 b1_0
    replace b1_1 := old_cell g_w11 b1_1
    replace bx8_0 := old_cell g_w11 bx8_0
    replace bx8_1 := old_cell g_w11 bx8_1
    replace hr0 := hr0.kept g_w11
    replace hr1 := hr1.kept g_w11
    replace ho_8 := ho_8.kept g_w11
    replace ho_10 := ho_10.kept g_w11
    have zs_w11 := g_w11.size
    have gW : Below W.heap.size W w11 := bel_trans gW g_w11
    clear hb g_w11
    have z_b0_0 : W.heap.size < w11.heap.size := cell_lt b0_0
    have z_b1_0 : W.heap.size + 1 < w11.heap.size := cell_lt b1_0
    have z_bx8_0 : bb_8 < w11.heap.size := cell_lt bx8_0
    have z_b2_0 : w10.heap.size < w11.heap.size := cell_lt b2_0
    have in_11 : InB _ (w10.heap.size + 1) w11.heap.size := ho_11.inL (by first | exact Nat.le_refl _ | (simp; done) | (simp; omega) | omega)
    go_wp2_with fail
    refine (implAssert_any A_10 _ c_10 rs_10 nx0 kd1 A_11 _ c_11 xs1 _ _ _ ((ho_10.rdO).alloc _) ((ho_11.rdO).alloc _) (by have := HLEN_10.out; omega) hc_10 (by omega) hk1 HZ1.out (fs_map HM_10.out HSL0.out) (good_of HM_10.out HZ0.out (fs_map HM_10.out HSL0.out)) rl rnx rid rok (by rw [HM_10.out]; exact HR.out)).mono ?_
    dsimp only [tupAs]
    rintro e w12 ⟨A_12, c_12, rs_12, rfl, hc_12, hm_12, ho_12, hb⟩
    have HM_12 := Lib.hid hm_12
    clear hm_12
    have g_w12 : Below w11.heap.size w11 w12 := (by repeat (first | with_reducible exact bel_refl _ | with_reducible assumption | with_reducible refine bel_set ?_ (by first | (simp; done) | (simp; omega) | omega) _ | with_reducible refine bel_alloc ?_ _ | with_reducible refine bel_drew ?_ | with_reducible refine bel_drewN ?_ _ | with_reducible refine bel_trans ?_ (by assumption)))
    have b3_0 := old_cell hb (b := w11.heap.size) (o := 0) (v := .string kd1) (by go_simp)
    have b3_1 := old_cell hb (b := w11.heap.size) (o := 1) (v := .slice A_11 xs1.length c_11) (by go_simp)
    replace b0_0 := old_cell g_w12 b0_0
    replace b0_1 := old_cell g_w12 b0_1
    replace b1_0 := old_cell g_w12 b1_0
    replace b1_1 := old_cell g_w12 b1_1
    replace bx8_0 := old_cell g_w12 bx8_0
    replace bx8_1 := old_cell g_w12 bx8_1
    replace b2_0 := old_cell g_w12 b2_0
    replace b2_1 := old_cell g_w12 b2_1
    replace hr0 := hr0.kept g_w12
    replace hr1 := hr1.kept g_w12
    replace ho_8 := ho_8.kept g_w12
    replace ho_10 := ho_10.kept g_w12
    replace ho_11 := ho_11.kept g_w12
    have zs_w12 := g_w12.size
    have gW : Below W.heap.size W w12 := bel_trans gW g_w12
    clear hb g_w12
    have z_b0_0 : W.heap.size < w12.heap.size := cell_lt b0_0
    have z_b1_0 : W.heap.size + 1 < w12.heap.size := cell_lt b1_0
    have z_bx8_0 : bb_8 < w12.heap.size := cell_lt bx8_0
    have z_b2_0 : w10.heap.size < w12.heap.size := cell_lt b2_0
    have z_b3_0 : w11.heap.size < w12.heap.size := cell_lt b3_0
    have in_12 : InI _ _ (w11.heap.size + 1) w12.heap.size := ho_12.inL (by first | exact Nat.le_refl _ | (simp; done) | (simp; omega) | omega)
    go_wp2_with fail
    refine (eqStore_any A_12 A_8 _ c_12 _ c_8 rs_12 rs_8 rnx rnx _ _ _ ((ho_12.rdO).alloc _) ((ho_8.rdO).alloc _) (by have := len_of HM_12.out HBG.out; omega) (fs_le (fs_of HM_12.out HBG.out) (by omega))).mono ?_
    rw [decide_eq_true (st_eq HM_12.out HM_8.out)]
    rintro e w13 ⟨rfl, hb⟩
    have g_w13 : Below w12.heap.size w12 w13 := (by repeat (first | with_reducible exact bel_refl _ | with_reducible assumption | with_reducible refine bel_set ?_ (by first | (simp; done) | (simp; omega) | omega) _ | with_reducible refine bel_alloc ?_ _ | with_reducible refine bel_drew ?_ | with_reducible refine bel_drewN ?_ _ | with_reducible refine bel_trans ?_ (by assumption)))
    have b4_0 := old_cell hb (b := w12.heap.size) (o := 0) (v := .slice A_12 rs_12.length c_12) (by go_simp)
    have b4_1 := old_cell hb (b := w12.heap.size) (o := 1) (v := .int .i64 rnx) (by go_simp)
    replace b0_0 := old_cell g_w13 b0_0
    replace b0_1 := old_cell g_w13 b0_1
    replace b1_0 := old_cell g_w13 b1_0
    replace b1_1 := old_cell g_w13 b1_1
    replace bx8_0 := old_cell g_w13 bx8_0
    replace bx8_1 := old_cell g_w13 bx8_1
    replace b2_0 := old_cell g_w13 b2_0
    replace b2_1 := old_cell g_w13 b2_1
    replace b3_0 := old_cell g_w13 b3_0
    replace b3_1 := old_cell g_w13 b3_1
    replace hr0 := hr0.kept g_w13
    replace hr1 := hr1.kept g_w13
    replace ho_8 := ho_8.kept g_w13
    replace ho_10 := ho_10.kept g_w13
    replace ho_11 := ho_11.kept g_w13
    replace ho_12 := ho_12.kept g_w13
    have zs_w13 := g_w13.size
    have gW : Below W.heap.size W w13 := bel_trans gW g_w13
    clear hb g_w13
    have z_b0_0 : W.heap.size < w13.heap.size := cell_lt b0_0
    have z_b1_0 : W.heap.size + 1 < w13.heap.size := cell_lt b1_0
    have z_bx8_0 : bb_8 < w13.heap.size := cell_lt bx8_0
    have z_b2_0 : w10.heap.size < w13.heap.size := cell_lt b2_0
    have z_b3_0 : w11.heap.size < w13.heap.size := cell_lt b3_0
    have z_b4_0 : w12.heap.size < w13.heap.size := cell_lt b4_0
    go_wp2_with fail
    go_region_held3 (fun w' => Below w13.heap.size w13 w' ∧ w'.cell? ⟨W.heap.size, 0, none⟩ = some (.slice A0 xs0.length c0) ∧ w'.cell? ⟨W.heap.size, 1, none⟩ = some (.int .i64 nx0) ∧ w'.cell? ⟨W.heap.size + 1, 0, none⟩ = some (.string kd1) ∧ w'.cell? ⟨W.heap.size + 1, 1, none⟩ = some (.slice A1 xs1.length c1) ∧ w'.cell? ⟨bb_8, 0, none⟩ = some (.slice A_8 rs_8.length c_8) ∧ w'.cell? ⟨bb_8, 1, none⟩ = some (.int .i64 rnx) ∧ w'.cell? ⟨w10.heap.size, 0, none⟩ = some (.slice A_10 rs_10.length c_10) ∧ w'.cell? ⟨w10.heap.size, 1, none⟩ = some (.int .i64 nx0) ∧ w'.cell? ⟨w11.heap.size, 0, none⟩ = some (.string kd1) ∧ w'.cell? ⟨w11.heap.size, 1, none⟩ = some (.slice A_11 xs1.length c_11) ∧ w'.cell? ⟨w12.heap.size, 0, none⟩ = some (.slice A_12 rs_12.length c_12) ∧ w'.cell? ⟨w12.heap.size, 1, none⟩ = some (.int .i64 rnx)) (((refine (fun hB => ⟨hB, old_cell hB b0_0, old_cell hB b0_1, old_cell hB b1_0, old_cell hB b1_1, old_cell hB bx8_0, old_cell hB bx8_1, old_cell hB b2_0, old_cell hB b2_1, old_cell hB b3_0, old_cell hB b3_1, old_cell hB b4_0, old_cell hB b4_1⟩ : Below w13.heap.size w13 _ → _) ?_); (repeat (first | exact bel_refl _ | exact bel_drew (bel_refl _) | exact bel_trans (And.left (by assumption)) (by assumption) | assumption))))
      ((first | (go_at_call 11; (with_reducible refine (toStore_any A0 _ c0 xs0 nx0 _ _ (hr0.kept (And.left (by assumption))) (by omega) HSL0.out).mono ?_); rintro e w14 ⟨A_14, c_14, rs_14, rfl, hc_14, hm_14, ho_14, hb⟩; have HM_14 := Lib.hid hm_14; clear hm_14; have HLEN_14 := Lib.hid (map_len HM_14.out)) | (go_at_call 14; (with_reducible refine (eqStore_any A_10 A_14 _ c_10 _ c_14 rs_10 rs_14 nx0 nx0 _ _ _ ((ho_10.rdO).kept (And.left (by assumption))) (ho_14.rdO) (by have := HLEN_10.out; omega) (fs_le (fs_map HM_10.out HSL0.out) (by omega))).mono ?_); rw [decide_eq_true (st_eq HM_10.out HM_14.out)]; rintro e w15 ⟨rfl, hb⟩; (try replace ho_14 := ho_14.kept hb))))
    rename_i hHeld
    obtain ⟨hB, _⟩ := hHeld
    replace b0_0 := old_cell hB b0_0
    replace b0_1 := old_cell hB b0_1
    replace b1_0 := old_cell hB b1_0
    replace b1_1 := old_cell hB b1_1
    replace bx8_0 := old_cell hB bx8_0
    replace bx8_1 := old_cell hB bx8_1
    replace b2_0 := old_cell hB b2_0
    replace b2_1 := old_cell hB b2_1
    replace b3_0 := old_cell hB b3_0
    replace b3_1 := old_cell hB b3_1
    replace b4_0 := old_cell hB b4_0
    replace b4_1 := old_cell hB b4_1
    replace hr0 := hr0.kept hB
    replace hr1 := hr1.kept hB
    replace ho_8 := ho_8.kept hB
    replace ho_10 := ho_10.kept hB
    replace ho_11 := ho_11.kept hB
    replace ho_12 := ho_12.kept hB
    have zs_16 := hB.size
    replace gW := bel_trans gW hB
    clear hB
    have z_b0_0 : W.heap.size < w15.heap.size := cell_lt b0_0
    have z_b1_0 : W.heap.size + 1 < w15.heap.size := cell_lt b1_0
    have z_bx8_0 : bb_8 < w15.heap.size := cell_lt bx8_0
    have z_b2_0 : w10.heap.size < w15.heap.size := cell_lt b2_0
    have z_b3_0 : w11.heap.size < w15.heap.size := cell_lt b3_0
    have z_b4_0 : w12.heap.size < w15.heap.size := cell_lt b4_0
    go_wp2_with fail
    go_region_held3 (fun w' => Below w15.heap.size w15 w' ∧ w'.cell? ⟨W.heap.size, 0, none⟩ = some (.slice A0 xs0.length c0) ∧ w'.cell? ⟨W.heap.size, 1, none⟩ = some (.int .i64 nx0) ∧ w'.cell? ⟨W.heap.size + 1, 0, none⟩ = some (.string kd1) ∧ w'.cell? ⟨W.heap.size + 1, 1, none⟩ = some (.slice A1 xs1.length c1) ∧ w'.cell? ⟨bb_8, 0, none⟩ = some (.slice A_8 rs_8.length c_8) ∧ w'.cell? ⟨bb_8, 1, none⟩ = some (.int .i64 rnx) ∧ w'.cell? ⟨w10.heap.size, 0, none⟩ = some (.slice A_10 rs_10.length c_10) ∧ w'.cell? ⟨w10.heap.size, 1, none⟩ = some (.int .i64 nx0) ∧ w'.cell? ⟨w11.heap.size, 0, none⟩ = some (.string kd1) ∧ w'.cell? ⟨w11.heap.size, 1, none⟩ = some (.slice A_11 xs1.length c_11) ∧ w'.cell? ⟨w12.heap.size, 0, none⟩ = some (.slice A_12 rs_12.length c_12) ∧ w'.cell? ⟨w12.heap.size, 1, none⟩ = some (.int .i64 rnx)) (((refine (fun hB => ⟨hB, old_cell hB b0_0, old_cell hB b0_1, old_cell hB b1_0, old_cell hB b1_1, old_cell hB bx8_0, old_cell hB bx8_1, old_cell hB b2_0, old_cell hB b2_1, old_cell hB b3_0, old_cell hB b3_1, old_cell hB b4_0, old_cell hB b4_1⟩ : Below w15.heap.size w15 _ → _) ?_); (repeat (first | exact bel_refl _ | exact bel_drew (bel_refl _) | exact bel_trans (And.left (by assumption)) (by assumption) | assumption))))
      ((first | (go_at_call 12; (with_reducible refine (toFact_any kd1 A1 _ c1 xs1 _ _ (hr1.kept (And.left (by assumption))) (by omega)).mono ?_); rintro e w17 ⟨v_17, rfl, ho_17, hb⟩; obtain ⟨A_17, c_17, rfl, hc_17, _⟩ := ho_17.rd) | (go_at_call 15; (with_reducible refine (eqFact_any kd1 kd1 A_11 A_17 _ c_11 _ c_17 xs1 xs1 _ _ _ ((ho_11.rdO).kept (And.left (by assumption))) (ho_17.rdO) (by omega)).mono ?_); rw [decide_eq_true rfl]; rintro e w18 ⟨rfl, hb⟩; (try replace ho_17 := ho_17.kept hb))))
    rename_i hHeld
    obtain ⟨hB, _⟩ := hHeld
    replace b0_0 := old_cell hB b0_0
    replace b0_1 := old_cell hB b0_1
    replace b1_0 := old_cell hB b1_0
    replace b1_1 := old_cell hB b1_1
    replace bx8_0 := old_cell hB bx8_0
    replace bx8_1 := old_cell hB bx8_1
    replace b2_0 := old_cell hB b2_0
    replace b2_1 := old_cell hB b2_1
    replace b3_0 := old_cell hB b3_0
    replace b3_1 := old_cell hB b3_1
    replace b4_0 := old_cell hB b4_0
    replace b4_1 := old_cell hB b4_1
    replace hr0 := hr0.kept hB
    replace hr1 := hr1.kept hB
    replace ho_8 := ho_8.kept hB
    replace ho_10 := ho_10.kept hB
    replace ho_11 := ho_11.kept hB
    replace ho_12 := ho_12.kept hB
    have zs_19 := hB.size
    replace gW := bel_trans gW hB
    clear hB
    have z_b0_0 : W.heap.size < w18.heap.size := cell_lt b0_0
    have z_b1_0 : W.heap.size + 1 < w18.heap.size := cell_lt b1_0
    have z_bx8_0 : bb_8 < w18.heap.size := cell_lt bx8_0
    have z_b2_0 : w10.heap.size < w18.heap.size := cell_lt b2_0
    have z_b3_0 : w11.heap.size < w18.heap.size := cell_lt b3_0
    have z_b4_0 : w12.heap.size < w18.heap.size := cell_lt b4_0
    obtain ⟨m_20, hm_20, hmb_20⟩ : ∃ m, markEnd rs_10 1 = m ∧ m ≤ 1 + 3145728 := ⟨_, rfl, mark_bound HM_10.out HTB0.out _⟩
    have HME_20 := Lib.hid hm_20; clear hm_20
    go_wp2_with fail
    refine (markStore_any A_10 _ c_10 rs_10 nx0 _ 1 _ _ _ _ ho_10 in_10 (by first | rfl | omega | simp) rfl (fs_map HM_10.out HSL0.out) (by have := HLEN_10.out; omega) (by rw [HME_20.out]; omega)).mono ?_
    rw [HME_20.out]
    rintro e w20 ⟨rfl, hm, hg⟩
    have gg : Below W.heap.size w18 w20 := hg.bel (by omega) (by omega)
    have zs_w20 := hg.size
    replace b0_0 := hg.cell b0_0 (by omega)
    replace b0_1 := hg.cell b0_1 (by omega)
    replace b1_0 := hg.cell b1_0 (by omega)
    replace b1_1 := hg.cell b1_1 (by omega)
    replace bx8_0 := hg.cell bx8_0 (by omega)
    replace bx8_1 := hg.cell bx8_1 (by omega)
    replace b2_0 := hg.cell b2_0 (by omega)
    replace b2_1 := hg.cell b2_1 (by omega)
    replace b3_0 := hg.cell b3_0 (by omega)
    replace b3_1 := hg.cell b3_1 (by omega)
    replace b4_0 := hg.cell b4_0 (by omega)
    replace b4_1 := hg.cell b4_1 (by omega)
    replace hr0 := hr0.belowB gg
    replace hr1 := hr1.belowB gg
    replace ho_8 := ho_8.inn hg in_8 (by omega)
    replace ho_11 := ho_11.inn hg in_11 (by omega)
    replace ho_12 := ho_12.inn hg in_12 (by omega)
    have gW : Below W.heap.size W w20 := gW.trans gg
    clear ho_10
    have ho_10 := hm
    replace in_10 := inI_mk 1 in_10
    clear hm hg gg
    have z_b0_0 : W.heap.size < w20.heap.size := cell_lt b0_0
    have z_b1_0 : W.heap.size + 1 < w20.heap.size := cell_lt b1_0
    have z_bx8_0 : bb_8 < w20.heap.size := cell_lt bx8_0
    have z_b2_0 : w10.heap.size < w20.heap.size := cell_lt b2_0
    have z_b3_0 : w11.heap.size < w20.heap.size := cell_lt b3_0
    have z_b4_0 : w12.heap.size < w20.heap.size := cell_lt b4_0
    go_wp2_with fail
    refine (markFact_any kd1 A_11 _ c_11 xs1 _ m_20 _ _ ho_11 rfl (by first | rfl | omega | simp) (by omega) (by omega)).mono ?_
    rintro e w21 ⟨rfl, hm, hg⟩
    replace hg := GrIn.grown hg in_11
    have gg : Below W.heap.size w20 w21 := hg.bel (by omega) (by omega)
    have zs_w21 := hg.size
    replace b0_0 := hg.cell b0_0 (by omega)
    replace b0_1 := hg.cell b0_1 (by omega)
    replace b1_0 := hg.cell b1_0 (by omega)
    replace b1_1 := hg.cell b1_1 (by omega)
    replace bx8_0 := hg.cell bx8_0 (by omega)
    replace bx8_1 := hg.cell bx8_1 (by omega)
    replace b2_0 := hg.cell b2_0 (by omega)
    replace b2_1 := hg.cell b2_1 (by omega)
    replace b3_0 := hg.cell b3_0 (by omega)
    replace b3_1 := hg.cell b3_1 (by omega)
    replace b4_0 := hg.cell b4_0 (by omega)
    replace b4_1 := hg.cell b4_1 (by omega)
    replace hr0 := hr0.belowB gg
    replace hr1 := hr1.belowB gg
    replace ho_8 := ho_8.inn hg in_8 (by omega)
    replace ho_10 := ho_10.inn hg in_10 (by omega)
    replace ho_12 := ho_12.inn hg in_12 (by omega)
    have gW : Below W.heap.size W w21 := gW.trans gg
    clear ho_11
    have ho_11 := hm
    clear hm hg gg
    have z_b0_0 : W.heap.size < w21.heap.size := cell_lt b0_0
    have z_b1_0 : W.heap.size + 1 < w21.heap.size := cell_lt b1_0
    have z_bx8_0 : bb_8 < w21.heap.size := cell_lt bx8_0
    have z_b2_0 : w10.heap.size < w21.heap.size := cell_lt b2_0
    have z_b3_0 : w11.heap.size < w21.heap.size := cell_lt b3_0
    have z_b4_0 : w12.heap.size < w21.heap.size := cell_lt b4_0
    go_wp2_with fail
    refine (eqStore_any A_12 A_8 _ c_12 _ c_8 rs_12 rs_8 rnx rnx _ _ _ (ho_12.rdO) (ho_8.rdO) (by have := len_of HM_12.out HBG.out; omega) (fs_le (fs_of HM_12.out HBG.out) (by omega))).mono ?_
    rw [decide_eq_true (st_eq HM_12.out HM_8.out)]
    rintro e w22 ⟨rfl, hb⟩
    have g_w22 : Below w21.heap.size w21 w22 := (by repeat (first | with_reducible exact bel_refl _ | with_reducible assumption | with_reducible refine bel_set ?_ (by first | (simp; done) | (simp; omega) | omega) _ | with_reducible refine bel_alloc ?_ _ | with_reducible refine bel_drew ?_ | with_reducible refine bel_drewN ?_ _ | with_reducible refine bel_trans ?_ (by assumption)))
    replace b0_0 := old_cell g_w22 b0_0
    replace b0_1 := old_cell g_w22 b0_1
    replace b1_0 := old_cell g_w22 b1_0
    replace b1_1 := old_cell g_w22 b1_1
    replace bx8_0 := old_cell g_w22 bx8_0
    replace bx8_1 := old_cell g_w22 bx8_1
    replace b2_0 := old_cell g_w22 b2_0
    replace b2_1 := old_cell g_w22 b2_1
    replace b3_0 := old_cell g_w22 b3_0
    replace b3_1 := old_cell g_w22 b3_1
    replace b4_0 := old_cell g_w22 b4_0
    replace b4_1 := old_cell g_w22 b4_1
    replace hr0 := hr0.kept g_w22
    replace hr1 := hr1.kept g_w22
    replace ho_8 := ho_8.kept g_w22
    replace ho_10 := ho_10.kept g_w22
    replace ho_11 := ho_11.kept g_w22
    replace ho_12 := ho_12.kept g_w22
    have zs_w22 := g_w22.size
    have gW : Below W.heap.size W w22 := bel_trans gW g_w22
    clear hb g_w22
    have z_b0_0 : W.heap.size < w22.heap.size := cell_lt b0_0
    have z_b1_0 : W.heap.size + 1 < w22.heap.size := cell_lt b1_0
    have z_bx8_0 : bb_8 < w22.heap.size := cell_lt bx8_0
    have z_b2_0 : w10.heap.size < w22.heap.size := cell_lt b2_0
    have z_b3_0 : w11.heap.size < w22.heap.size := cell_lt b3_0
    have z_b4_0 : w12.heap.size < w22.heap.size := cell_lt b4_0
    obtain ⟨m_23, hm_23, hmb_23⟩ : ∃ m, markEnd rs_12 1 = m ∧ m ≤ 1 + 3145728 := ⟨_, rfl, mark_of HM_12.out HBG.out _⟩
    have HME_23 := Lib.hid hm_23; clear hm_23
    go_wp2_with fail
    refine (markStore_any A_12 _ c_12 rs_12 rnx _ 1 _ _ _ _ ho_12 in_12 (by first | rfl | omega | simp) rfl (fs_of HM_12.out HBG.out) (by have := len_of HM_12.out HBG.out; omega) (by rw [HME_23.out]; omega)).mono ?_
    rw [HME_23.out]
    rintro e w23 ⟨rfl, hm, hg⟩
    have gg : Below W.heap.size w22 w23 := hg.bel (by omega) (by omega)
    have zs_w23 := hg.size
    replace b0_0 := hg.cell b0_0 (by omega)
    replace b0_1 := hg.cell b0_1 (by omega)
    replace b1_0 := hg.cell b1_0 (by omega)
    replace b1_1 := hg.cell b1_1 (by omega)
    replace bx8_0 := hg.cell bx8_0 (by omega)
    replace bx8_1 := hg.cell bx8_1 (by omega)
    replace b2_0 := hg.cell b2_0 (by omega)
    replace b2_1 := hg.cell b2_1 (by omega)
    replace b3_0 := hg.cell b3_0 (by omega)
    replace b3_1 := hg.cell b3_1 (by omega)
    replace b4_0 := hg.cell b4_0 (by omega)
    replace b4_1 := hg.cell b4_1 (by omega)
    replace hr0 := hr0.belowB gg
    replace hr1 := hr1.belowB gg
    replace ho_8 := ho_8.inn hg in_8 (by omega)
    replace ho_10 := ho_10.inn hg in_10 (by omega)
    replace ho_11 := ho_11.inn hg in_11 (by omega)
    have gW : Below W.heap.size W w23 := gW.trans gg
    clear ho_12
    have ho_12 := hm
    replace in_12 := inI_mk 1 in_12
    clear hm hg gg
    have z_b0_0 : W.heap.size < w23.heap.size := cell_lt b0_0
    have z_b1_0 : W.heap.size + 1 < w23.heap.size := cell_lt b1_0
    have z_bx8_0 : bb_8 < w23.heap.size := cell_lt bx8_0
    have z_b2_0 : w10.heap.size < w23.heap.size := cell_lt b2_0
    have z_b3_0 : w11.heap.size < w23.heap.size := cell_lt b3_0
    have z_b4_0 : w12.heap.size < w23.heap.size := cell_lt b4_0
    go_wp2_with fail
    refine (heldStore_any A_12 _ c_12 rs_12 rnx _ 1 _ _ (ho_12.rdM (mkItems_len _ _)) rfl (by first | rfl | omega | simp) (fs_of HM_12.out HBG.out) (by have := len_of HM_12.out HBG.out; omega) (by rw [HME_23.out]; omega)).mono ?_
    rw [HME_23.out]
    rintro e w24 ⟨rfl, hb⟩
    have g_w24 : Below w23.heap.size w23 w24 := (by repeat (first | with_reducible exact bel_refl _ | with_reducible assumption | with_reducible refine bel_set ?_ (by first | (simp; done) | (simp; omega) | omega) _ | with_reducible refine bel_alloc ?_ _ | with_reducible refine bel_drew ?_ | with_reducible refine bel_drewN ?_ _ | with_reducible refine bel_trans ?_ (by assumption)))
    replace b0_0 := old_cell g_w24 b0_0
    replace b0_1 := old_cell g_w24 b0_1
    replace b1_0 := old_cell g_w24 b1_0
    replace b1_1 := old_cell g_w24 b1_1
    replace bx8_0 := old_cell g_w24 bx8_0
    replace bx8_1 := old_cell g_w24 bx8_1
    replace b2_0 := old_cell g_w24 b2_0
    replace b2_1 := old_cell g_w24 b2_1
    replace b3_0 := old_cell g_w24 b3_0
    replace b3_1 := old_cell g_w24 b3_1
    replace b4_0 := old_cell g_w24 b4_0
    replace b4_1 := old_cell g_w24 b4_1
    replace hr0 := hr0.kept g_w24
    replace hr1 := hr1.kept g_w24
    replace ho_8 := ho_8.kept g_w24
    replace ho_10 := ho_10.kept g_w24
    replace ho_11 := ho_11.kept g_w24
    replace ho_12 := ho_12.kept g_w24
    have zs_w24 := g_w24.size
    have gW : Below W.heap.size W w24 := bel_trans gW g_w24
    clear hb g_w24
    have z_b0_0 : W.heap.size < w24.heap.size := cell_lt b0_0
    have z_b1_0 : W.heap.size + 1 < w24.heap.size := cell_lt b1_0
    have z_bx8_0 : bb_8 < w24.heap.size := cell_lt bx8_0
    have z_b2_0 : w10.heap.size < w24.heap.size := cell_lt b2_0
    have z_b3_0 : w11.heap.size < w24.heap.size := cell_lt b3_0
    have z_b4_0 : w12.heap.size < w24.heap.size := cell_lt b4_0
    go_upto_region 31 with fail
    go_cut [17, 18, 19] (fun s17 s18 s19 wx => ∃ A c rs b, s17 = .pointer (some ⟨b, 0, none⟩) ∧ s18 = .int .i64 rid ∧ s19 = .bool rok ∧ (rs.length ≤ c ∧ rs.map itOf = rl) ∧ Blk wx b 32 #[.slice A rs.length c, .int .i64 rnx] ∧ OwnI wx w24.heap.size (.slice A rs.length c) rs ∧ Below w24.heap.size w24 wx ∧ w24.heap.size ≤ b)
    case first =>
      refine wp_region_held_drew (S := (fun w' => Below w24.heap.size w24 w' ∧ w'.cell? ⟨W.heap.size, 0, none⟩ = some (.slice A0 xs0.length c0) ∧ w'.cell? ⟨W.heap.size, 1, none⟩ = some (.int .i64 nx0) ∧ w'.cell? ⟨W.heap.size + 1, 0, none⟩ = some (.string kd1) ∧ w'.cell? ⟨W.heap.size + 1, 1, none⟩ = some (.slice A1 xs1.length c1) ∧ w'.cell? ⟨bb_8, 0, none⟩ = some (.slice A_8 rs_8.length c_8) ∧ w'.cell? ⟨bb_8, 1, none⟩ = some (.int .i64 rnx) ∧ w'.cell? ⟨w10.heap.size, 0, none⟩ = some (.slice A_10 rs_10.length c_10) ∧ w'.cell? ⟨w10.heap.size, 1, none⟩ = some (.int .i64 nx0) ∧ w'.cell? ⟨w11.heap.size, 0, none⟩ = some (.string kd1) ∧ w'.cell? ⟨w11.heap.size, 1, none⟩ = some (.slice A_11 xs1.length c_11) ∧ w'.cell? ⟨w12.heap.size, 0, none⟩ = some (.slice A_12 rs_12.length c_12) ∧ w'.cell? ⟨w12.heap.size, 1, none⟩ = some (.int .i64 rnx))) (by kernel_rfl) ?_ (fun hHeld => ?_)
      · (try dsimp only) <;> (((refine (fun hB => ⟨hB, old_cell hB b0_0, old_cell hB b0_1, old_cell hB b1_0, old_cell hB b1_1, old_cell hB bx8_0, old_cell hB bx8_1, old_cell hB b2_0, old_cell hB b2_1, old_cell hB b3_0, old_cell hB b3_1, old_cell hB b4_0, old_cell hB b4_1⟩ : Below w24.heap.size w24 _ → _) ?_); (repeat (first | exact bel_refl _ | exact bel_drew (bel_refl _) | exact bel_trans (And.left (by assumption)) (by assumption) | assumption | exact bel_alloc (And.left (by assumption)) _ | exact bel_set (bel_set (And.left (by assumption)) hzb _) hzb _))))
      refine h_take 0 (some 110) (?_) rfl rfl (by kernel_rfl) (by kernel_rfl) (by kernel_rfl) (fun _ _ _ h => h) (by kernel_rfl) ?_ (by assumption) ?_
      rotate_left
      · intro w hSw; (try dsimp only at hSw); go_simp
        all_goals first | with_reducible rfl | omega | (simp; omega)
      try simp only [Act.put, List.setIfInBounds_toArray, List.set_cons_zero, List.set_cons_succ]
      refine h_take 2 (some 112) (?_) rfl rfl (by kernel_rfl) (by kernel_rfl) (by kernel_rfl) (fun _ _ _ h => h) (by kernel_rfl) ?_ (by assumption) ?_
      rotate_left
      · intro w hSw; (try dsimp only at hSw); go_simp
        all_goals first | with_reducible rfl | omega | (simp; omega)
      try simp only [Act.put, List.setIfInBounds_toArray, List.set_cons_zero, List.set_cons_succ]
      refine wpAnyH_ready (rs := [1, 9]) (by kernel_rfl) (by simp) ?_
      refine AllReadyH.cons rfl (fun K hK => ?_) (AllReadyH.cons rfl (fun K hK => ?_) AllReadyH.nil)
      · rw [if_pos (by kernel_rfl)]
        go_simp
        refine (toStore_any A0 _ c0 xs0 nx0 _ _ (hr0.kept (And.left (by assumption))) (by omega) HSL0.out).mono ?_
        rintro e w25 ⟨A_25, c_25, rs_25, rfl, hc_25, hm_25, ho_25, hb⟩
        have HM_25 := Lib.hid hm_25
        clear hm_25
        have HLEN_25 := Lib.hid (map_len HM_25.out)
        replace ho_25 := ho_25.lower (And.left (by assumption) : Below w24.heap.size w24 _).size
        refine hK.out _ _ ?_ (fun hHeld => ?_)
        · (try dsimp only) <;> (((refine (fun hB => ⟨hB, old_cell hB b0_0, old_cell hB b0_1, old_cell hB b1_0, old_cell hB b1_1, old_cell hB bx8_0, old_cell hB bx8_1, old_cell hB b2_0, old_cell hB b2_1, old_cell hB b3_0, old_cell hB b3_1, old_cell hB b4_0, old_cell hB b4_1⟩ : Below w24.heap.size w24 _ → _) ?_); (repeat (first | exact bel_refl _ | exact bel_drew (bel_refl _) | exact bel_trans (And.left (by assumption)) (by assumption) | assumption | exact bel_alloc (And.left (by assumption)) _ | exact bel_set (bel_set (And.left (by assumption)) hzb _) hzb _))))
        clear hK K
        try simp only [Act.put, List.setIfInBounds_toArray, List.set_cons_zero, List.set_cons_succ]
        refine wpAnyH_ready (rs := [3, 9]) (by kernel_rfl) (by simp) ?_
        refine AllReadyH.cons rfl (fun K hK => ?_) (AllReadyH.cons rfl (fun K hK => ?_) AllReadyH.nil)
        · rw [if_pos (by kernel_rfl)]
          go_simp
          refine (toFact_any kd1 A1 _ c1 xs1 _ _ (hr1.kept (And.left (by assumption))) (by omega)).mono ?_
          rintro e w26 ⟨v_26, rfl, ho_26, hb⟩
          obtain ⟨A_26, c_26, rfl, hc_26, _⟩ := ho_26.rd
          replace ho_25 := ho_25.kept hb
          replace ho_26 := ho_26.lower (And.left (by assumption) : Below w24.heap.size w24 _).size
          refine hK.out _ _ ?_ (fun hHeld => ?_)
          · (try dsimp only) <;> (((refine (fun hB => ⟨hB, old_cell hB b0_0, old_cell hB b0_1, old_cell hB b1_0, old_cell hB b1_1, old_cell hB bx8_0, old_cell hB bx8_1, old_cell hB b2_0, old_cell hB b2_1, old_cell hB b3_0, old_cell hB b3_1, old_cell hB b4_0, old_cell hB b4_1⟩ : Below w24.heap.size w24 _ → _) ?_); (repeat (first | exact bel_refl _ | exact bel_drew (bel_refl _) | exact bel_trans (And.left (by assumption)) (by assumption) | assumption | exact bel_alloc (And.left (by assumption)) _ | exact bel_set (bel_set (And.left (by assumption)) hzb _) hzb _))))
          clear hK K
          try simp only [Act.put, List.setIfInBounds_toArray, List.set_cons_zero, List.set_cons_succ]
          refine wpAnyH_ready (rs := [4, 9]) (by kernel_rfl) (by simp) ?_
          refine AllReadyH.cons rfl (fun K hK => ?_) (AllReadyH.cons rfl (fun K hK => ?_) AllReadyH.nil)
          · rw [if_pos (by kernel_rfl)]
            go_simp
            refine (implAssert_any A_25 _ c_25 rs_25 nx0 kd1 A_26 _ c_26 xs1 _ _ _ (ho_25.rdO) (ho_26.rdO) (by have := HLEN_25.out; omega) hc_25 (by omega) hk1 HZ1.out (fs_map HM_25.out HSL0.out) (good_of HM_25.out HZ0.out (fs_map HM_25.out HSL0.out)) rl rnx rid rok (by rw [HM_25.out]; exact HR.out)).mono ?_
            dsimp only [tupAs]
            rintro e w27 ⟨A_27, c_27, rs_27, rfl, hc_27, hm_27, ho_27, hb⟩
            have HM_27 := Lib.hid hm_27
            clear hm_27
            replace ho_25 := ho_25.kept hb
            replace ho_26 := ho_26.kept hb
            replace ho_27 := ho_27.lower (And.left (by assumption) : Below w24.heap.size w24 _).size
            refine hK.out _ _ ?_ (fun hHeld => ?_)
            · (try dsimp only) <;> (((refine (fun hB => ⟨hB, old_cell hB b0_0, old_cell hB b0_1, old_cell hB b1_0, old_cell hB b1_1, old_cell hB bx8_0, old_cell hB bx8_1, old_cell hB b2_0, old_cell hB b2_1, old_cell hB b3_0, old_cell hB b3_1, old_cell hB b4_0, old_cell hB b4_1⟩ : Below w24.heap.size w24 _ → _) ?_); (repeat (first | exact bel_refl _ | exact bel_drew (bel_refl _) | exact bel_trans (And.left (by assumption)) (by assumption) | assumption | exact bel_alloc (And.left (by assumption)) _ | exact bel_set (bel_set (And.left (by assumption)) hzb _) hzb _))))
            clear hK K
            try simp only [Act.put, List.setIfInBounds_toArray, List.set_cons_zero, List.set_cons_succ]
            refine h_take 5 (some 109) (?_) rfl rfl (by kernel_rfl) (by kernel_rfl) (by kernel_rfl) (fun _ _ _ h => h) (by kernel_rfl) ?_ (by assumption) ?_
            rotate_left
            · intro w hSw; (try dsimp only at hSw); go_simp
              all_goals first | with_reducible rfl | omega | (simp; omega)
            try simp only [Act.put, List.setIfInBounds_toArray, List.set_cons_zero, List.set_cons_succ]
            refine h_take 6 (some 115) (?_) rfl rfl (by kernel_rfl) (by kernel_rfl) (by kernel_rfl) (fun _ _ _ h => h) (by kernel_rfl) ?_ (by assumption) ?_
            rotate_left
            · intro w hSw; (try dsimp only at hSw); go_simp
              all_goals first | with_reducible rfl | omega | (simp; omega)
            try simp only [Act.put, List.setIfInBounds_toArray, List.set_cons_zero, List.set_cons_succ]
            refine h_take 7 (some 116) (?_) rfl rfl (by kernel_rfl) (by kernel_rfl) (by kernel_rfl) (fun _ _ _ h => h) (by kernel_rfl) ?_ (by assumption) ?_
            rotate_left
            · intro w hSw; (try dsimp only at hSw); go_simp
              all_goals first | with_reducible rfl | omega | (simp; omega)
            try simp only [Act.put, List.setIfInBounds_toArray, List.set_cons_zero, List.set_cons_succ]
            refine h_take 8 (some 117) (?_) rfl rfl (by kernel_rfl) (by kernel_rfl) (by kernel_rfl) (fun _ _ _ h => h) (by kernel_rfl) ?_ (by assumption) ?_
            rotate_left
            · intro w hSw; (try dsimp only at hSw); go_simp
              all_goals first | with_reducible rfl | omega | (simp; omega)
            try simp only [Act.put, List.setIfInBounds_toArray, List.set_cons_zero, List.set_cons_succ]
            refine h_call 9 (by kernel_rfl) rfl (by kernel_rfl) (fun K hK => ?_)
            have HBa := Blk.new w27 32 #[.slice none 0 0, .int .i64 0]
            have hzb : w24.heap.size ≤ w27.heap.size := (And.left (by assumption) : Below w24.heap.size w24 w27).size
            have ho_25_pre := ho_25
            have ho_26_pre := ho_26
            have ho_27_pre := ho_27
            replace ho_25 := ho_25.alloc (.cells #[.slice none 0 0, .int .i64 0] 32)
            replace ho_26 := ho_26.alloc (.cells #[.slice none 0 0, .int .i64 0] 32)
            replace ho_27 := ho_27.alloc (.cells #[.slice none 0 0, .int .i64 0] 32)
            go_simp
            refine hK.out _ _ ?_ (fun hHeld => ?_)
            · (try dsimp only) <;> (((refine (fun hB => ⟨hB, old_cell hB b0_0, old_cell hB b0_1, old_cell hB b1_0, old_cell hB b1_1, old_cell hB bx8_0, old_cell hB bx8_1, old_cell hB b2_0, old_cell hB b2_1, old_cell hB b3_0, old_cell hB b3_1, old_cell hB b4_0, old_cell hB b4_1⟩ : Below w24.heap.size w24 _ → _) ?_); (repeat (first | exact bel_refl _ | exact bel_drew (bel_refl _) | exact bel_trans (And.left (by assumption)) (by assumption) | assumption | exact bel_alloc (And.left (by assumption)) _ | exact bel_set (bel_set (And.left (by assumption)) hzb _) hzb _))))
            clear hK K
            try simp only [Act.put, List.setIfInBounds_toArray, List.set_cons_zero, List.set_cons_succ]
            refine h_call 10 (by kernel_rfl) rfl (by kernel_rfl) (fun K hK => ?_)
            obtain ⟨ha0, ha1, hfa0, hfa1⟩ := HBa.two
            have hal := HBa.lt
            go_simp
            refine hK.out _ _ ?_ (fun hHeld => ?_)
            · (try dsimp only) <;> (((refine (fun hB => ⟨hB, old_cell hB b0_0, old_cell hB b0_1, old_cell hB b1_0, old_cell hB b1_1, old_cell hB bx8_0, old_cell hB bx8_1, old_cell hB b2_0, old_cell hB b2_1, old_cell hB b3_0, old_cell hB b3_1, old_cell hB b4_0, old_cell hB b4_1⟩ : Below w24.heap.size w24 _ → _) ?_); (repeat (first | exact bel_refl _ | exact bel_drew (bel_refl _) | exact bel_trans (And.left (by assumption)) (by assumption) | assumption | exact bel_alloc (And.left (by assumption)) _ | exact bel_set (bel_set (And.left (by assumption)) hzb _) hzb _))))
            clear hK K
            try simp only [Act.put, List.setIfInBounds_toArray, List.set_cons_zero, List.set_cons_succ]
            refine h_take 11 (some 18) (?_) rfl rfl (by kernel_rfl) (by kernel_rfl) (by kernel_rfl) (fun _ _ _ h => h) (by kernel_rfl) ?_ (by assumption) ?_
            rotate_left
            · intro w hSw; (try dsimp only at hSw); go_simp
              all_goals first | with_reducible rfl | omega | (simp; omega)
            try simp only [Act.put, List.setIfInBounds_toArray, List.set_cons_zero, List.set_cons_succ]
            refine h_take 12 (some 19) (?_) rfl rfl (by kernel_rfl) (by kernel_rfl) (by kernel_rfl) (fun _ _ _ h => h) (by kernel_rfl) ?_ (by assumption) ?_
            rotate_left
            · intro w hSw; (try dsimp only at hSw); go_simp
              all_goals first | with_reducible rfl | omega | (simp; omega)
            try simp only [Act.put, List.setIfInBounds_toArray, List.set_cons_zero, List.set_cons_succ]
            refine wpAnyH_done (by kernel_rfl) ?_ _
            have hoZ := OwnI.setBlk (OwnI.setBlk ho_27 HBa 0 (.slice A_27 rs_27.length c_27)) (HBa.set_ 0 (.slice A_27 rs_27.length c_27)) 1 (.int .i64 rnx)
            have HBz := (HBa.set_ 0 (.slice A_27 rs_27.length c_27)).set_ 1 (.int .i64 rnx)
            simp only [List.setIfInBounds_toArray, List.set_cons_zero, List.set_cons_succ] at HBz
            go_wp2_with fail
            go_meet
            case rel => first | exact ⟨_, _, _, _, rfl, rfl, rfl, ⟨hc_27, HM_27.out⟩, HBz, hoZ, hHeld.1, hzb⟩ | exact ⟨_, _, _, _, rfl, rfl, rfl, ⟨hc_27, HM_27.out⟩, Blk.new _ _ _, ho_27_pre.alloc _, hHeld.1, hzb⟩
          · rw [if_pos (by kernel_rfl)]
            have HBa := Blk.new w26 32 #[.slice none 0 0, .int .i64 0]
            have hzb : w24.heap.size ≤ w26.heap.size := (And.left (by assumption) : Below w24.heap.size w24 w26).size
            have ho_25_pre := ho_25
            have ho_26_pre := ho_26
            replace ho_25 := ho_25.alloc (.cells #[.slice none 0 0, .int .i64 0] 32)
            replace ho_26 := ho_26.alloc (.cells #[.slice none 0 0, .int .i64 0] 32)
            go_simp
            refine hK.out _ _ ?_ (fun hHeld => ?_)
            · (try dsimp only) <;> (((refine (fun hB => ⟨hB, old_cell hB b0_0, old_cell hB b0_1, old_cell hB b1_0, old_cell hB b1_1, old_cell hB bx8_0, old_cell hB bx8_1, old_cell hB b2_0, old_cell hB b2_1, old_cell hB b3_0, old_cell hB b3_1, old_cell hB b4_0, old_cell hB b4_1⟩ : Below w24.heap.size w24 _ → _) ?_); (repeat (first | exact bel_refl _ | exact bel_drew (bel_refl _) | exact bel_trans (And.left (by assumption)) (by assumption) | assumption | exact bel_alloc (And.left (by assumption)) _ | exact bel_set (bel_set (And.left (by assumption)) hzb _) hzb _))))
            clear hK K
            try simp only [Act.put, List.setIfInBounds_toArray, List.set_cons_zero, List.set_cons_succ]
            refine h_call 4 (by kernel_rfl) rfl (by kernel_rfl) (fun K hK => ?_)
            go_simp
            refine (implAssert_any A_25 _ c_25 rs_25 nx0 kd1 A_26 _ c_26 xs1 _ _ _ (ho_25.rdO) (ho_26.rdO) (by have := HLEN_25.out; omega) hc_25 (by omega) hk1 HZ1.out (fs_map HM_25.out HSL0.out) (good_of HM_25.out HZ0.out (fs_map HM_25.out HSL0.out)) rl rnx rid rok (by rw [HM_25.out]; exact HR.out)).mono ?_
            dsimp only [tupAs]
            rintro e w27 ⟨A_27, c_27, rs_27, rfl, hc_27, hm_27, ho_27, hb⟩
            have HM_27 := Lib.hid hm_27
            clear hm_27
            replace ho_25 := ho_25.kept hb
            replace ho_26 := ho_26.kept hb
            replace HBa := HBa.kept hb
            replace ho_27 := ho_27.lower (And.left (by assumption) : Below w24.heap.size w24 _).size
            refine hK.out _ _ ?_ (fun hHeld => ?_)
            · (try dsimp only) <;> (((refine (fun hB => ⟨hB, old_cell hB b0_0, old_cell hB b0_1, old_cell hB b1_0, old_cell hB b1_1, old_cell hB bx8_0, old_cell hB bx8_1, old_cell hB b2_0, old_cell hB b2_1, old_cell hB b3_0, old_cell hB b3_1, old_cell hB b4_0, old_cell hB b4_1⟩ : Below w24.heap.size w24 _ → _) ?_); (repeat (first | exact bel_refl _ | exact bel_drew (bel_refl _) | exact bel_trans (And.left (by assumption)) (by assumption) | assumption | exact bel_alloc (And.left (by assumption)) _ | exact bel_set (bel_set (And.left (by assumption)) hzb _) hzb _))))
            clear hK K
            try simp only [Act.put, List.setIfInBounds_toArray, List.set_cons_zero, List.set_cons_succ]
            refine h_take 5 (some 109) (?_) rfl rfl (by kernel_rfl) (by kernel_rfl) (by kernel_rfl) (fun _ _ _ h => h) (by kernel_rfl) ?_ (by assumption) ?_
            rotate_left
            · intro w hSw; (try dsimp only at hSw); go_simp
              all_goals first | with_reducible rfl | omega | (simp; omega)
            try simp only [Act.put, List.setIfInBounds_toArray, List.set_cons_zero, List.set_cons_succ]
            refine h_take 6 (some 115) (?_) rfl rfl (by kernel_rfl) (by kernel_rfl) (by kernel_rfl) (fun _ _ _ h => h) (by kernel_rfl) ?_ (by assumption) ?_
            rotate_left
            · intro w hSw; (try dsimp only at hSw); go_simp
              all_goals first | with_reducible rfl | omega | (simp; omega)
            try simp only [Act.put, List.setIfInBounds_toArray, List.set_cons_zero, List.set_cons_succ]
            refine h_take 7 (some 116) (?_) rfl rfl (by kernel_rfl) (by kernel_rfl) (by kernel_rfl) (fun _ _ _ h => h) (by kernel_rfl) ?_ (by assumption) ?_
            rotate_left
            · intro w hSw; (try dsimp only at hSw); go_simp
              all_goals first | with_reducible rfl | omega | (simp; omega)
            try simp only [Act.put, List.setIfInBounds_toArray, List.set_cons_zero, List.set_cons_succ]
            refine h_take 8 (some 117) (?_) rfl rfl (by kernel_rfl) (by kernel_rfl) (by kernel_rfl) (fun _ _ _ h => h) (by kernel_rfl) ?_ (by assumption) ?_
            rotate_left
            · intro w hSw; (try dsimp only at hSw); go_simp
              all_goals first | with_reducible rfl | omega | (simp; omega)
            try simp only [Act.put, List.setIfInBounds_toArray, List.set_cons_zero, List.set_cons_succ]
            refine h_call 10 (by kernel_rfl) rfl (by kernel_rfl) (fun K hK => ?_)
            obtain ⟨ha0, ha1, hfa0, hfa1⟩ := HBa.two
            have hal := HBa.lt
            go_simp
            refine hK.out _ _ ?_ (fun hHeld => ?_)
            · (try dsimp only) <;> (((refine (fun hB => ⟨hB, old_cell hB b0_0, old_cell hB b0_1, old_cell hB b1_0, old_cell hB b1_1, old_cell hB bx8_0, old_cell hB bx8_1, old_cell hB b2_0, old_cell hB b2_1, old_cell hB b3_0, old_cell hB b3_1, old_cell hB b4_0, old_cell hB b4_1⟩ : Below w24.heap.size w24 _ → _) ?_); (repeat (first | exact bel_refl _ | exact bel_drew (bel_refl _) | exact bel_trans (And.left (by assumption)) (by assumption) | assumption | exact bel_alloc (And.left (by assumption)) _ | exact bel_set (bel_set (And.left (by assumption)) hzb _) hzb _))))
            clear hK K
            try simp only [Act.put, List.setIfInBounds_toArray, List.set_cons_zero, List.set_cons_succ]
            refine h_take 11 (some 18) (?_) rfl rfl (by kernel_rfl) (by kernel_rfl) (by kernel_rfl) (fun _ _ _ h => h) (by kernel_rfl) ?_ (by assumption) ?_
            rotate_left
            · intro w hSw; (try dsimp only at hSw); go_simp
              all_goals first | with_reducible rfl | omega | (simp; omega)
            try simp only [Act.put, List.setIfInBounds_toArray, List.set_cons_zero, List.set_cons_succ]
            refine h_take 12 (some 19) (?_) rfl rfl (by kernel_rfl) (by kernel_rfl) (by kernel_rfl) (fun _ _ _ h => h) (by kernel_rfl) ?_ (by assumption) ?_
            rotate_left
            · intro w hSw; (try dsimp only at hSw); go_simp
              all_goals first | with_reducible rfl | omega | (simp; omega)
            try simp only [Act.put, List.setIfInBounds_toArray, List.set_cons_zero, List.set_cons_succ]
            refine wpAnyH_done (by kernel_rfl) ?_ _
            have hoZ := OwnI.setBlk (OwnI.setBlk ho_27 HBa 0 (.slice A_27 rs_27.length c_27)) (HBa.set_ 0 (.slice A_27 rs_27.length c_27)) 1 (.int .i64 rnx)
            have HBz := (HBa.set_ 0 (.slice A_27 rs_27.length c_27)).set_ 1 (.int .i64 rnx)
            simp only [List.setIfInBounds_toArray, List.set_cons_zero, List.set_cons_succ] at HBz
            go_wp2_with fail
            go_meet
            case rel => first | exact ⟨_, _, _, _, rfl, rfl, rfl, ⟨hc_27, HM_27.out⟩, HBz, hoZ, hHeld.1, hzb⟩ | exact ⟨_, _, _, _, rfl, rfl, rfl, ⟨hc_27, HM_27.out⟩, Blk.new _ _ _, ho_27_pre.alloc _, hHeld.1, hzb⟩
        · rw [if_pos (by kernel_rfl)]
          have HBa := Blk.new w25 32 #[.slice none 0 0, .int .i64 0]
          have hzb : w24.heap.size ≤ w25.heap.size := (And.left (by assumption) : Below w24.heap.size w24 w25).size
          have ho_25_pre := ho_25
          replace ho_25 := ho_25.alloc (.cells #[.slice none 0 0, .int .i64 0] 32)
          go_simp
          refine hK.out _ _ ?_ (fun hHeld => ?_)
          · (try dsimp only) <;> (((refine (fun hB => ⟨hB, old_cell hB b0_0, old_cell hB b0_1, old_cell hB b1_0, old_cell hB b1_1, old_cell hB bx8_0, old_cell hB bx8_1, old_cell hB b2_0, old_cell hB b2_1, old_cell hB b3_0, old_cell hB b3_1, old_cell hB b4_0, old_cell hB b4_1⟩ : Below w24.heap.size w24 _ → _) ?_); (repeat (first | exact bel_refl _ | exact bel_drew (bel_refl _) | exact bel_trans (And.left (by assumption)) (by assumption) | assumption | exact bel_alloc (And.left (by assumption)) _ | exact bel_set (bel_set (And.left (by assumption)) hzb _) hzb _))))
          clear hK K
          try simp only [Act.put, List.setIfInBounds_toArray, List.set_cons_zero, List.set_cons_succ]
          refine h_call 3 (by kernel_rfl) rfl (by kernel_rfl) (fun K hK => ?_)
          go_simp
          refine (toFact_any kd1 A1 _ c1 xs1 _ _ (hr1.kept (And.left (by assumption))) (by omega)).mono ?_
          rintro e w26 ⟨v_26, rfl, ho_26, hb⟩
          obtain ⟨A_26, c_26, rfl, hc_26, _⟩ := ho_26.rd
          replace ho_25 := ho_25.kept hb
          replace HBa := HBa.kept hb
          replace ho_26 := ho_26.lower (And.left (by assumption) : Below w24.heap.size w24 _).size
          refine hK.out _ _ ?_ (fun hHeld => ?_)
          · (try dsimp only) <;> (((refine (fun hB => ⟨hB, old_cell hB b0_0, old_cell hB b0_1, old_cell hB b1_0, old_cell hB b1_1, old_cell hB bx8_0, old_cell hB bx8_1, old_cell hB b2_0, old_cell hB b2_1, old_cell hB b3_0, old_cell hB b3_1, old_cell hB b4_0, old_cell hB b4_1⟩ : Below w24.heap.size w24 _ → _) ?_); (repeat (first | exact bel_refl _ | exact bel_drew (bel_refl _) | exact bel_trans (And.left (by assumption)) (by assumption) | assumption | exact bel_alloc (And.left (by assumption)) _ | exact bel_set (bel_set (And.left (by assumption)) hzb _) hzb _))))
          clear hK K
          try simp only [Act.put, List.setIfInBounds_toArray, List.set_cons_zero, List.set_cons_succ]
          refine h_call 4 (by kernel_rfl) rfl (by kernel_rfl) (fun K hK => ?_)
          go_simp
          refine (implAssert_any A_25 _ c_25 rs_25 nx0 kd1 A_26 _ c_26 xs1 _ _ _ (ho_25.rdO) (ho_26.rdO) (by have := HLEN_25.out; omega) hc_25 (by omega) hk1 HZ1.out (fs_map HM_25.out HSL0.out) (good_of HM_25.out HZ0.out (fs_map HM_25.out HSL0.out)) rl rnx rid rok (by rw [HM_25.out]; exact HR.out)).mono ?_
          dsimp only [tupAs]
          rintro e w27 ⟨A_27, c_27, rs_27, rfl, hc_27, hm_27, ho_27, hb⟩
          have HM_27 := Lib.hid hm_27
          clear hm_27
          replace ho_25 := ho_25.kept hb
          replace ho_26 := ho_26.kept hb
          replace HBa := HBa.kept hb
          replace ho_27 := ho_27.lower (And.left (by assumption) : Below w24.heap.size w24 _).size
          refine hK.out _ _ ?_ (fun hHeld => ?_)
          · (try dsimp only) <;> (((refine (fun hB => ⟨hB, old_cell hB b0_0, old_cell hB b0_1, old_cell hB b1_0, old_cell hB b1_1, old_cell hB bx8_0, old_cell hB bx8_1, old_cell hB b2_0, old_cell hB b2_1, old_cell hB b3_0, old_cell hB b3_1, old_cell hB b4_0, old_cell hB b4_1⟩ : Below w24.heap.size w24 _ → _) ?_); (repeat (first | exact bel_refl _ | exact bel_drew (bel_refl _) | exact bel_trans (And.left (by assumption)) (by assumption) | assumption | exact bel_alloc (And.left (by assumption)) _ | exact bel_set (bel_set (And.left (by assumption)) hzb _) hzb _))))
          clear hK K
          try simp only [Act.put, List.setIfInBounds_toArray, List.set_cons_zero, List.set_cons_succ]
          refine h_take 5 (some 109) (?_) rfl rfl (by kernel_rfl) (by kernel_rfl) (by kernel_rfl) (fun _ _ _ h => h) (by kernel_rfl) ?_ (by assumption) ?_
          rotate_left
          · intro w hSw; (try dsimp only at hSw); go_simp
            all_goals first | with_reducible rfl | omega | (simp; omega)
          try simp only [Act.put, List.setIfInBounds_toArray, List.set_cons_zero, List.set_cons_succ]
          refine h_take 6 (some 115) (?_) rfl rfl (by kernel_rfl) (by kernel_rfl) (by kernel_rfl) (fun _ _ _ h => h) (by kernel_rfl) ?_ (by assumption) ?_
          rotate_left
          · intro w hSw; (try dsimp only at hSw); go_simp
            all_goals first | with_reducible rfl | omega | (simp; omega)
          try simp only [Act.put, List.setIfInBounds_toArray, List.set_cons_zero, List.set_cons_succ]
          refine h_take 7 (some 116) (?_) rfl rfl (by kernel_rfl) (by kernel_rfl) (by kernel_rfl) (fun _ _ _ h => h) (by kernel_rfl) ?_ (by assumption) ?_
          rotate_left
          · intro w hSw; (try dsimp only at hSw); go_simp
            all_goals first | with_reducible rfl | omega | (simp; omega)
          try simp only [Act.put, List.setIfInBounds_toArray, List.set_cons_zero, List.set_cons_succ]
          refine h_take 8 (some 117) (?_) rfl rfl (by kernel_rfl) (by kernel_rfl) (by kernel_rfl) (fun _ _ _ h => h) (by kernel_rfl) ?_ (by assumption) ?_
          rotate_left
          · intro w hSw; (try dsimp only at hSw); go_simp
            all_goals first | with_reducible rfl | omega | (simp; omega)
          try simp only [Act.put, List.setIfInBounds_toArray, List.set_cons_zero, List.set_cons_succ]
          refine h_call 10 (by kernel_rfl) rfl (by kernel_rfl) (fun K hK => ?_)
          obtain ⟨ha0, ha1, hfa0, hfa1⟩ := HBa.two
          have hal := HBa.lt
          go_simp
          refine hK.out _ _ ?_ (fun hHeld => ?_)
          · (try dsimp only) <;> (((refine (fun hB => ⟨hB, old_cell hB b0_0, old_cell hB b0_1, old_cell hB b1_0, old_cell hB b1_1, old_cell hB bx8_0, old_cell hB bx8_1, old_cell hB b2_0, old_cell hB b2_1, old_cell hB b3_0, old_cell hB b3_1, old_cell hB b4_0, old_cell hB b4_1⟩ : Below w24.heap.size w24 _ → _) ?_); (repeat (first | exact bel_refl _ | exact bel_drew (bel_refl _) | exact bel_trans (And.left (by assumption)) (by assumption) | assumption | exact bel_alloc (And.left (by assumption)) _ | exact bel_set (bel_set (And.left (by assumption)) hzb _) hzb _))))
          clear hK K
          try simp only [Act.put, List.setIfInBounds_toArray, List.set_cons_zero, List.set_cons_succ]
          refine h_take 11 (some 18) (?_) rfl rfl (by kernel_rfl) (by kernel_rfl) (by kernel_rfl) (fun _ _ _ h => h) (by kernel_rfl) ?_ (by assumption) ?_
          rotate_left
          · intro w hSw; (try dsimp only at hSw); go_simp
            all_goals first | with_reducible rfl | omega | (simp; omega)
          try simp only [Act.put, List.setIfInBounds_toArray, List.set_cons_zero, List.set_cons_succ]
          refine h_take 12 (some 19) (?_) rfl rfl (by kernel_rfl) (by kernel_rfl) (by kernel_rfl) (fun _ _ _ h => h) (by kernel_rfl) ?_ (by assumption) ?_
          rotate_left
          · intro w hSw; (try dsimp only at hSw); go_simp
            all_goals first | with_reducible rfl | omega | (simp; omega)
          try simp only [Act.put, List.setIfInBounds_toArray, List.set_cons_zero, List.set_cons_succ]
          refine wpAnyH_done (by kernel_rfl) ?_ _
          have hoZ := OwnI.setBlk (OwnI.setBlk ho_27 HBa 0 (.slice A_27 rs_27.length c_27)) (HBa.set_ 0 (.slice A_27 rs_27.length c_27)) 1 (.int .i64 rnx)
          have HBz := (HBa.set_ 0 (.slice A_27 rs_27.length c_27)).set_ 1 (.int .i64 rnx)
          simp only [List.setIfInBounds_toArray, List.set_cons_zero, List.set_cons_succ] at HBz
          go_wp2_with fail
          go_meet
          case rel => first | exact ⟨_, _, _, _, rfl, rfl, rfl, ⟨hc_27, HM_27.out⟩, HBz, hoZ, hHeld.1, hzb⟩ | exact ⟨_, _, _, _, rfl, rfl, rfl, ⟨hc_27, HM_27.out⟩, Blk.new _ _ _, ho_27_pre.alloc _, hHeld.1, hzb⟩
      · rw [if_pos (by kernel_rfl)]
        have HBa : Blk ((w24.drew).alloc (.cells #[.slice none 0 0, .int .i64 0] 32)) w24.heap.size 32 #[.slice none 0 0, .int .i64 0] := Blk.new (w24.drew) 32 #[.slice none 0 0, .int .i64 0]
        have hzb : w24.heap.size ≤ w24.heap.size := Nat.le_refl _
        go_simp
        refine hK.out _ _ ?_ (fun hHeld => ?_)
        · (try dsimp only) <;> (((refine (fun hB => ⟨hB, old_cell hB b0_0, old_cell hB b0_1, old_cell hB b1_0, old_cell hB b1_1, old_cell hB bx8_0, old_cell hB bx8_1, old_cell hB b2_0, old_cell hB b2_1, old_cell hB b3_0, old_cell hB b3_1, old_cell hB b4_0, old_cell hB b4_1⟩ : Below w24.heap.size w24 _ → _) ?_); (repeat (first | exact bel_refl _ | exact bel_drew (bel_refl _) | exact bel_trans (And.left (by assumption)) (by assumption) | assumption | exact bel_alloc (And.left (by assumption)) _ | exact bel_set (bel_set (And.left (by assumption)) hzb _) hzb _))))
        clear hK K
        try simp only [Act.put, List.setIfInBounds_toArray, List.set_cons_zero, List.set_cons_succ]
        refine h_call 1 (by kernel_rfl) rfl (by kernel_rfl) (fun K hK => ?_)
        go_simp
        refine (toStore_any A0 _ c0 xs0 nx0 _ _ (hr0.kept (And.left (by assumption))) (by omega) HSL0.out).mono ?_
        rintro e w25 ⟨A_25, c_25, rs_25, rfl, hc_25, hm_25, ho_25, hb⟩
        have HM_25 := Lib.hid hm_25
        clear hm_25
        have HLEN_25 := Lib.hid (map_len HM_25.out)
        replace HBa := HBa.kept hb
        replace ho_25 := ho_25.lower (And.left (by assumption) : Below w24.heap.size w24 _).size
        refine hK.out _ _ ?_ (fun hHeld => ?_)
        · (try dsimp only) <;> (((refine (fun hB => ⟨hB, old_cell hB b0_0, old_cell hB b0_1, old_cell hB b1_0, old_cell hB b1_1, old_cell hB bx8_0, old_cell hB bx8_1, old_cell hB b2_0, old_cell hB b2_1, old_cell hB b3_0, old_cell hB b3_1, old_cell hB b4_0, old_cell hB b4_1⟩ : Below w24.heap.size w24 _ → _) ?_); (repeat (first | exact bel_refl _ | exact bel_drew (bel_refl _) | exact bel_trans (And.left (by assumption)) (by assumption) | assumption | exact bel_alloc (And.left (by assumption)) _ | exact bel_set (bel_set (And.left (by assumption)) hzb _) hzb _))))
        clear hK K
        try simp only [Act.put, List.setIfInBounds_toArray, List.set_cons_zero, List.set_cons_succ]
        refine h_call 3 (by kernel_rfl) rfl (by kernel_rfl) (fun K hK => ?_)
        go_simp
        refine (toFact_any kd1 A1 _ c1 xs1 _ _ (hr1.kept (And.left (by assumption))) (by omega)).mono ?_
        rintro e w26 ⟨v_26, rfl, ho_26, hb⟩
        obtain ⟨A_26, c_26, rfl, hc_26, _⟩ := ho_26.rd
        replace ho_25 := ho_25.kept hb
        replace HBa := HBa.kept hb
        replace ho_26 := ho_26.lower (And.left (by assumption) : Below w24.heap.size w24 _).size
        refine hK.out _ _ ?_ (fun hHeld => ?_)
        · (try dsimp only) <;> (((refine (fun hB => ⟨hB, old_cell hB b0_0, old_cell hB b0_1, old_cell hB b1_0, old_cell hB b1_1, old_cell hB bx8_0, old_cell hB bx8_1, old_cell hB b2_0, old_cell hB b2_1, old_cell hB b3_0, old_cell hB b3_1, old_cell hB b4_0, old_cell hB b4_1⟩ : Below w24.heap.size w24 _ → _) ?_); (repeat (first | exact bel_refl _ | exact bel_drew (bel_refl _) | exact bel_trans (And.left (by assumption)) (by assumption) | assumption | exact bel_alloc (And.left (by assumption)) _ | exact bel_set (bel_set (And.left (by assumption)) hzb _) hzb _))))
        clear hK K
        try simp only [Act.put, List.setIfInBounds_toArray, List.set_cons_zero, List.set_cons_succ]
        refine h_call 4 (by kernel_rfl) rfl (by kernel_rfl) (fun K hK => ?_)
        go_simp
        refine (implAssert_any A_25 _ c_25 rs_25 nx0 kd1 A_26 _ c_26 xs1 _ _ _ (ho_25.rdO) (ho_26.rdO) (by have := HLEN_25.out; omega) hc_25 (by omega) hk1 HZ1.out (fs_map HM_25.out HSL0.out) (good_of HM_25.out HZ0.out (fs_map HM_25.out HSL0.out)) rl rnx rid rok (by rw [HM_25.out]; exact HR.out)).mono ?_
        dsimp only [tupAs]
        rintro e w27 ⟨A_27, c_27, rs_27, rfl, hc_27, hm_27, ho_27, hb⟩
        have HM_27 := Lib.hid hm_27
        clear hm_27
        replace ho_25 := ho_25.kept hb
        replace ho_26 := ho_26.kept hb
        replace HBa := HBa.kept hb
        replace ho_27 := ho_27.lower (And.left (by assumption) : Below w24.heap.size w24 _).size
        refine hK.out _ _ ?_ (fun hHeld => ?_)
        · (try dsimp only) <;> (((refine (fun hB => ⟨hB, old_cell hB b0_0, old_cell hB b0_1, old_cell hB b1_0, old_cell hB b1_1, old_cell hB bx8_0, old_cell hB bx8_1, old_cell hB b2_0, old_cell hB b2_1, old_cell hB b3_0, old_cell hB b3_1, old_cell hB b4_0, old_cell hB b4_1⟩ : Below w24.heap.size w24 _ → _) ?_); (repeat (first | exact bel_refl _ | exact bel_drew (bel_refl _) | exact bel_trans (And.left (by assumption)) (by assumption) | assumption | exact bel_alloc (And.left (by assumption)) _ | exact bel_set (bel_set (And.left (by assumption)) hzb _) hzb _))))
        clear hK K
        try simp only [Act.put, List.setIfInBounds_toArray, List.set_cons_zero, List.set_cons_succ]
        refine h_take 5 (some 109) (?_) rfl rfl (by kernel_rfl) (by kernel_rfl) (by kernel_rfl) (fun _ _ _ h => h) (by kernel_rfl) ?_ (by assumption) ?_
        rotate_left
        · intro w hSw; (try dsimp only at hSw); go_simp
          all_goals first | with_reducible rfl | omega | (simp; omega)
        try simp only [Act.put, List.setIfInBounds_toArray, List.set_cons_zero, List.set_cons_succ]
        refine h_take 6 (some 115) (?_) rfl rfl (by kernel_rfl) (by kernel_rfl) (by kernel_rfl) (fun _ _ _ h => h) (by kernel_rfl) ?_ (by assumption) ?_
        rotate_left
        · intro w hSw; (try dsimp only at hSw); go_simp
          all_goals first | with_reducible rfl | omega | (simp; omega)
        try simp only [Act.put, List.setIfInBounds_toArray, List.set_cons_zero, List.set_cons_succ]
        refine h_take 7 (some 116) (?_) rfl rfl (by kernel_rfl) (by kernel_rfl) (by kernel_rfl) (fun _ _ _ h => h) (by kernel_rfl) ?_ (by assumption) ?_
        rotate_left
        · intro w hSw; (try dsimp only at hSw); go_simp
          all_goals first | with_reducible rfl | omega | (simp; omega)
        try simp only [Act.put, List.setIfInBounds_toArray, List.set_cons_zero, List.set_cons_succ]
        refine h_take 8 (some 117) (?_) rfl rfl (by kernel_rfl) (by kernel_rfl) (by kernel_rfl) (fun _ _ _ h => h) (by kernel_rfl) ?_ (by assumption) ?_
        rotate_left
        · intro w hSw; (try dsimp only at hSw); go_simp
          all_goals first | with_reducible rfl | omega | (simp; omega)
        try simp only [Act.put, List.setIfInBounds_toArray, List.set_cons_zero, List.set_cons_succ]
        refine h_call 10 (by kernel_rfl) rfl (by kernel_rfl) (fun K hK => ?_)
        obtain ⟨ha0, ha1, hfa0, hfa1⟩ := HBa.two
        have hal := HBa.lt
        go_simp
        refine hK.out _ _ ?_ (fun hHeld => ?_)
        · (try dsimp only) <;> (((refine (fun hB => ⟨hB, old_cell hB b0_0, old_cell hB b0_1, old_cell hB b1_0, old_cell hB b1_1, old_cell hB bx8_0, old_cell hB bx8_1, old_cell hB b2_0, old_cell hB b2_1, old_cell hB b3_0, old_cell hB b3_1, old_cell hB b4_0, old_cell hB b4_1⟩ : Below w24.heap.size w24 _ → _) ?_); (repeat (first | exact bel_refl _ | exact bel_drew (bel_refl _) | exact bel_trans (And.left (by assumption)) (by assumption) | assumption | exact bel_alloc (And.left (by assumption)) _ | exact bel_set (bel_set (And.left (by assumption)) hzb _) hzb _))))
        clear hK K
        try simp only [Act.put, List.setIfInBounds_toArray, List.set_cons_zero, List.set_cons_succ]
        refine h_take 11 (some 18) (?_) rfl rfl (by kernel_rfl) (by kernel_rfl) (by kernel_rfl) (fun _ _ _ h => h) (by kernel_rfl) ?_ (by assumption) ?_
        rotate_left
        · intro w hSw; (try dsimp only at hSw); go_simp
          all_goals first | with_reducible rfl | omega | (simp; omega)
        try simp only [Act.put, List.setIfInBounds_toArray, List.set_cons_zero, List.set_cons_succ]
        refine h_take 12 (some 19) (?_) rfl rfl (by kernel_rfl) (by kernel_rfl) (by kernel_rfl) (fun _ _ _ h => h) (by kernel_rfl) ?_ (by assumption) ?_
        rotate_left
        · intro w hSw; (try dsimp only at hSw); go_simp
          all_goals first | with_reducible rfl | omega | (simp; omega)
        try simp only [Act.put, List.setIfInBounds_toArray, List.set_cons_zero, List.set_cons_succ]
        refine wpAnyH_done (by kernel_rfl) ?_ _
        have hoZ := OwnI.setBlk (OwnI.setBlk ho_27 HBa 0 (.slice A_27 rs_27.length c_27)) (HBa.set_ 0 (.slice A_27 rs_27.length c_27)) 1 (.int .i64 rnx)
        have HBz := (HBa.set_ 0 (.slice A_27 rs_27.length c_27)).set_ 1 (.int .i64 rnx)
        simp only [List.setIfInBounds_toArray, List.set_cons_zero, List.set_cons_succ] at HBz
        go_wp2_with fail
        go_meet
        case rel => first | exact ⟨_, _, _, _, rfl, rfl, rfl, ⟨hc_27, HM_27.out⟩, HBz, hoZ, hHeld.1, hzb⟩ | exact ⟨_, _, _, _, rfl, rfl, rfl, ⟨hc_27, HM_27.out⟩, Blk.new _ _ _, ho_27_pre.alloc _, hHeld.1, hzb⟩
    case rest =>
      obtain ⟨A_27, c_27, rs_27, bb_27, rfl, rfl, rfl, ⟨hc_27, hm_27⟩, HBx, ho_27, hB, hzb_27⟩ := hcut
      have HM_27 := Lib.hid hm_27
      clear hm_27
      replace b0_0 := old_cell hB b0_0
      replace b0_1 := old_cell hB b0_1
      replace b1_0 := old_cell hB b1_0
      replace b1_1 := old_cell hB b1_1
      replace bx8_0 := old_cell hB bx8_0
      replace bx8_1 := old_cell hB bx8_1
      replace b2_0 := old_cell hB b2_0
      replace b2_1 := old_cell hB b2_1
      replace b3_0 := old_cell hB b3_0
      replace b3_1 := old_cell hB b3_1
      replace b4_0 := old_cell hB b4_0
      replace b4_1 := old_cell hB b4_1
      replace hr0 := hr0.kept hB
      replace hr1 := hr1.kept hB
      replace ho_8 := ho_8.kept hB
      replace ho_10 := ho_10.kept hB
      replace ho_11 := ho_11.kept hB
      replace ho_12 := ho_12.kept hB
      obtain ⟨bx27_0, bx27_1, _, _⟩ := HBx.two
      have zs_28 := hB.size
      replace gW := bel_trans gW hB
      clear hB HBx
      have z_b0_0 : W.heap.size < wc.heap.size := cell_lt b0_0
      have z_b1_0 : W.heap.size + 1 < wc.heap.size := cell_lt b1_0
      have z_bx8_0 : bb_8 < wc.heap.size := cell_lt bx8_0
      have z_b2_0 : w10.heap.size < wc.heap.size := cell_lt b2_0
      have z_b3_0 : w11.heap.size < wc.heap.size := cell_lt b3_0
      have z_b4_0 : w12.heap.size < wc.heap.size := cell_lt b4_0
      have z_bx27_0 : bb_27 < wc.heap.size := cell_lt bx27_0
      have in_27 : InI _ _ w24.heap.size wc.heap.size := ho_27.inL (by first | exact Nat.le_refl _ | (simp; done) | (simp; omega) | omega)
      go_wp2_with fail
      refine (eqStore_any A_27 A_8 _ c_27 _ c_8 rs_27 rs_8 rnx rnx _ _ _ (ho_27.rdO) (ho_8.rdO) (by have := len_of HM_27.out HBG.out; omega) (fs_le (fs_of HM_27.out HBG.out) (by omega))).mono ?_
      rw [decide_eq_true (st_eq HM_27.out HM_8.out)]
      rintro e w29 ⟨rfl, hb⟩
      have g_w29 : Below wc.heap.size wc w29 := (by repeat (first | with_reducible exact bel_refl _ | with_reducible assumption | with_reducible refine bel_set ?_ (by first | (simp; done) | (simp; omega) | omega) _ | with_reducible refine bel_alloc ?_ _ | with_reducible refine bel_drew ?_ | with_reducible refine bel_drewN ?_ _ | with_reducible refine bel_trans ?_ (by assumption)))
      replace b0_0 := old_cell g_w29 b0_0
      replace b0_1 := old_cell g_w29 b0_1
      replace b1_0 := old_cell g_w29 b1_0
      replace b1_1 := old_cell g_w29 b1_1
      replace bx8_0 := old_cell g_w29 bx8_0
      replace bx8_1 := old_cell g_w29 bx8_1
      replace b2_0 := old_cell g_w29 b2_0
      replace b2_1 := old_cell g_w29 b2_1
      replace b3_0 := old_cell g_w29 b3_0
      replace b3_1 := old_cell g_w29 b3_1
      replace b4_0 := old_cell g_w29 b4_0
      replace b4_1 := old_cell g_w29 b4_1
      replace bx27_0 := old_cell g_w29 bx27_0
      replace bx27_1 := old_cell g_w29 bx27_1
      replace hr0 := hr0.kept g_w29
      replace hr1 := hr1.kept g_w29
      replace ho_8 := ho_8.kept g_w29
      replace ho_10 := ho_10.kept g_w29
      replace ho_11 := ho_11.kept g_w29
      replace ho_12 := ho_12.kept g_w29
      replace ho_27 := ho_27.kept g_w29
      have zs_w29 := g_w29.size
      have gW : Below W.heap.size W w29 := bel_trans gW g_w29
      clear hb g_w29
      have z_b0_0 : W.heap.size < w29.heap.size := cell_lt b0_0
      have z_b1_0 : W.heap.size + 1 < w29.heap.size := cell_lt b1_0
      have z_bx8_0 : bb_8 < w29.heap.size := cell_lt bx8_0
      have z_b2_0 : w10.heap.size < w29.heap.size := cell_lt b2_0
      have z_b3_0 : w11.heap.size < w29.heap.size := cell_lt b3_0
      have z_b4_0 : w12.heap.size < w29.heap.size := cell_lt b4_0
      have z_bx27_0 : bb_27 < w29.heap.size := cell_lt bx27_0
      go_wp2_with fail
      refine (heldStore_any A_12 _ c_12 rs_12 rnx _ 1 _ _ (ho_12.rdM (mkItems_len _ _)) rfl (by first | rfl | omega | simp) (fs_of HM_12.out HBG.out) (by have := len_of HM_12.out HBG.out; omega) (by rw [HME_23.out]; omega)).mono ?_
      rw [HME_23.out]
      rintro e w30 ⟨rfl, hb⟩
      have g_w30 : Below w29.heap.size w29 w30 := (by repeat (first | with_reducible exact bel_refl _ | with_reducible assumption | with_reducible refine bel_set ?_ (by first | (simp; done) | (simp; omega) | omega) _ | with_reducible refine bel_alloc ?_ _ | with_reducible refine bel_drew ?_ | with_reducible refine bel_drewN ?_ _ | with_reducible refine bel_trans ?_ (by assumption)))
      replace b0_0 := old_cell g_w30 b0_0
      replace b0_1 := old_cell g_w30 b0_1
      replace b1_0 := old_cell g_w30 b1_0
      replace b1_1 := old_cell g_w30 b1_1
      replace bx8_0 := old_cell g_w30 bx8_0
      replace bx8_1 := old_cell g_w30 bx8_1
      replace b2_0 := old_cell g_w30 b2_0
      replace b2_1 := old_cell g_w30 b2_1
      replace b3_0 := old_cell g_w30 b3_0
      replace b3_1 := old_cell g_w30 b3_1
      replace b4_0 := old_cell g_w30 b4_0
      replace b4_1 := old_cell g_w30 b4_1
      replace bx27_0 := old_cell g_w30 bx27_0
      replace bx27_1 := old_cell g_w30 bx27_1
      replace hr0 := hr0.kept g_w30
      replace hr1 := hr1.kept g_w30
      replace ho_8 := ho_8.kept g_w30
      replace ho_10 := ho_10.kept g_w30
      replace ho_11 := ho_11.kept g_w30
      replace ho_12 := ho_12.kept g_w30
      replace ho_27 := ho_27.kept g_w30
      have zs_w30 := g_w30.size
      have gW : Below W.heap.size W w30 := bel_trans gW g_w30
      clear hb g_w30
      have z_b0_0 : W.heap.size < w30.heap.size := cell_lt b0_0
      have z_b1_0 : W.heap.size + 1 < w30.heap.size := cell_lt b1_0
      have z_bx8_0 : bb_8 < w30.heap.size := cell_lt bx8_0
      have z_b2_0 : w10.heap.size < w30.heap.size := cell_lt b2_0
      have z_b3_0 : w11.heap.size < w30.heap.size := cell_lt b3_0
      have z_b4_0 : w12.heap.size < w30.heap.size := cell_lt b4_0
      have z_bx27_0 : bb_27 < w30.heap.size := cell_lt bx27_0
      go_wp2
      go_ret
      exact ⟨rfl, gW⟩

theorem own : ownKnob Try.prog.godebug = none := by kernel_rfl
theorem laidOut : laidOutB Try.prog = true := by kernel_rfl
theorem lifted (os : Os) (started : os.Started) (H : Type) (enc : TypeId × Value → H) :
    ReturnsInHanded {} Try.checked os 3 .any (Rows.fnExactAssertSpec.pre6 enc Try.prog Try.f3 Rows.fnExactAssertRow.domain false) (Rows.fnExactAssertSpec.post enc Try.prog Try.f3 false true false false) := by
  refine returnsInHanded_of_change (C := Try.checked) own started (by kernel_rfl) Try.func3
    (ChangeSpec.witness6 (enc := enc) (C := Try.checked) false ⟨#[], #[.agg #[.slice none 0 0, .int .i64 0], .agg #[.string ByteArray.empty, .slice none 0 0]], []⟩ 8 (by kernel_rfl) (by kernel_rfl) (by kernel_rfl) (by kernel_rfl)) ?_
  intro W base args ds gs before hval0 hW hcnd _
  have hval : ∀ (j : Nat) t v, Try.f3.params[j]? = some t → args[j]? = some v → Value.okWide Try.prog W .any base t v := hval0
  have hW' := hW
  obtain ⟨p, q, hA0, hV, rfl, hfz, hnd⟩ := hW
  have hA : DataW.TrodAll enc Try.prog W 0 (fun _ => true) true Try.f3.params.toList args.toList ds p := hA0
  rw [Try.params3] at hA hval
  obtain ⟨v0, vs0, d0, ds0, p0, q0, hargs, rfl, rfl, h0, r0⟩ := trodAll_cons hA
  obtain ⟨v1, vs1, d1, ds1, p1, q1, rfl, rfl, rfl, h1, r1⟩ := trodAll_cons r0
  obtain ⟨rfl, rfl, rfl⟩ := trodAll_nil r1
  obtain rfl : args = #[v0, v1] := by cases args; simp_all
  obtain ⟨rfl, rfl⟩ := trodVars_none hV
  have lt0 : ∀ x ∈ p0, x.block < W.heap.size := by obtain ⟨m, hm⟩ := h0; exact DataW.trod_lt m _ _ _ hm
  obtain ⟨A0, n0, c0, xs0, nx0, hv0, hs0⟩ := open_store (hval 0 24 v0 rfl rfl) h0
  subst hv0
  have lt1 : ∀ x ∈ p1, x.block < W.heap.size := by obtain ⟨m, hm⟩ := h1; exact DataW.trod_lt m _ _ _ hm
  obtain ⟨kd1, A1, n1, c1, xs1, hv1, hs1⟩ := open_fact (hval 1 27 v1 rfl rfl) h1
  subst hv1
  clear hA0 hval0
  refine (walk A0 n0 c0 xs0 nx0 kd1 A1 n1 c1 xs1 W hs0 hs1).mono fun e W' ⟨he, bel⟩ => ?_
  subst he
  exact ⟨_, rfl, _, _, _, [], _, [], hW', trodAll_mk1 (shut_bool Try.underlying4 _), (trodAll_cons_mk (Below.trod laidOut (by kernel_rfl) (of_decide_eq_true (by kernel_rfl)) h0 bel lt0) (trodAll_cons_mk (Below.trod laidOut (by kernel_rfl) (of_decide_eq_true (by kernel_rfl)) h1 bel lt1) trodAll_mk0)), rfl, bel.frame _, fun h => by cases h⟩
theorem over : Rows.fnExactAssertRow.holds Try.pinned (OpenSpec.ofChange Rows.fnExactAssertSpec) :=
  OpenClaim.holds_of_wide 3 Try.f3 rfl rfl rfl rfl rfl rfl rfl ⟨rfl, rfl, rfl, rfl, rfl⟩ rfl rfl rfl rfl rfl (by kernel_rfl) Try.func3 (by kernel_rfl)
    (of_decide_eq_true (by kernel_rfl)) (by unfold Func.isWrapper; first | (rw [if_pos (by decide +kernel)]; kernel_rfl) | (rw [if_neg (by decide +kernel)]; exact ⟨rfl, rfl⟩))
    (fun os started H enc _ => lifted os started H enc)
theorem proved : Rows.FnExactAssertSaid := over
end Go.Proofs.Ytndhjijcicebkaa.fnExactAssert
