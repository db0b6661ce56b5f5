/- The law FnAll returns true at every input, and leaves what it was given as it was. No condition. -/
import Derived.Test.YtgpinhamgdganaaDoorDraw9
import Derived.Test.YtgpinhamgdganaaDoorPlainAll
import Derived.Test.YtgpinhamgdganaaDoorBindOf
import Derived.Test.YtgpinhamgdganaaDoorAt
import Derived.Test.YtgpinhamgdganaaDoorRows
import Derived.Test.YtgpinhamgdganaaDoorRead
import Derived.Test.YtgpinhamgdganaaDoorDoor
import Derived.Test.YtgpinhamgdganaaDoorCards
import Derived.Test.YtgpinhamgdganaaDoorTie
import Derived.SevenTiedAt
namespace Go.Proofs.YtgpinhamgdganaaDoor.fnAll
open Go.ChangeShapes Go.WideShapes Go.ChangeAt Go.RowKit
open Go.ChangeMaps (open_string shut_string)
set_option linter.unusedVariables false
set_option maxRecDepth 100000
set_option maxHeartbeats 20000000

theorem all_step {cs : List Cd} {l : List Bd} {k : Nat} (h : k < cs.length) : (cs.take (k + 1)).all (fun c => holds c l) = ((cs.take k).all (fun c => holds c l) && holds cs[k] l) := by
  rw [List.take_succ_eq_append_getElem h, List.all_append]
  simp
theorem walk (A : Option Addr) (n c : Nat) (code : List UInt8) (W : World) (hs : n ≤ c ∧ c ≤ maxLen ∧ RdB W W.heap.size A n code) (ht : TabT W) :
    Calls Tryd.prog 3 #[.slice A n c] W fun e w' => e = .returned (.bool true) ∧ Below W.heap.size W w' := by
  obtain ⟨hnc, _, hr⟩ := hs
  have HTT := Lib.hid ht; clear ht
  by_cases hbig : (1048576 : Int) < n
  · go_enter Tryd.func3, Tryd.ntmps3
    go_wp2_with fail
    refine (big_any _ _ _ _).mono ?_
    rw [decide_eq_true hbig]
    rintro e w' ⟨rfl, rfl⟩
    go_wp2
    go_ret
    exact ⟨rfl, Below.refl _ _⟩
  · go_enter Tryd.func3, Tryd.ntmps3
    go_wp2_with fail
    refine (big_any _ _ _ _).mono ?_
    rw [decide_eq_false (by omega)]
    rintro e w' ⟨rfl, rfl⟩
    go_wp2_with fail
    refine (DrawHoldAll_any A n c code W _ hr (Nat.le_refl _) (by omega)).mono ?_
    rintro e w1 ⟨A0, c0, cs, A1, c1, l, ⟨hcl, hcz⟩, ⟨hll, hlz⟩, rfl, ⟨r0, r1⟩, gW⟩
    have HCZ := Lib.hid hcz
    clear hlz hcz
    go_wp2
    go_loopw [5, 6] (fun u i wr => ∃ (k : Nat) (a : Bool), k ≤ cs.length ∧ i = .int .i64 k ∧ u = .bool a ∧ (cs.take k).all (fun c => holds c l) = a ∧ RdS cC 11 wr w1.heap.size A0 cs.length cs ∧ RdS bC 4 wr w1.heap.size A1 l.length l ∧ Below W.heap.size W wr) (fun _ i _ => cs.length - (intOf i).toNat)
    case atStart => exact ⟨0, true, Nat.zero_le _, rfl, rfl, rfl, r0, r1, gW⟩
    case round =>
      clear r0 r1 gW
      obtain ⟨k, a, hk, rfl, rfl, ha, r0, r1, gW⟩ := hrel
      have HA := Lib.hid ha; clear ha
      by_cases hlt : k < cs.length
      · obtain ⟨b, o, hA0, hb, hc⟩ := r0.2.cond_ (by omega)
        obtain ⟨op, lk, ls, lvk, lvn, lvs, rk, rs, rvk, rvn, rvs, he, p0, p1, p2, p3, p4, p5, p6, p7, p8, p9, p10⟩ := hc k hlt
        clear hc
        subst hA0
        have hst := all_step (l := l) hlt
        rw [he, HA.out] at hst
        obtain ⟨h, hh⟩ : ∃ h, holds ⟨op, ⟨lk, ls, ⟨lvk, lvn, lvs⟩⟩, ⟨rk, rs, ⟨rvk, rvn, rvs⟩⟩⟩ l = h := ⟨_, rfl⟩
        rw [hh] at hst
        have HH := Lib.hid hh; have HST := Lib.hid hst; clear hh hst he
        have hj0 : (0:Int) ≤ (k:Int) := by omega
        have hj1 : (k:Int) < (cs.length:Int) := by omega
        cases a
        · go_wp2
          go_roundw
          case rel => exact ⟨k + 1, false, by omega, by go_num, rfl, by rw [HST.out]; rfl, r0, r1, gW⟩
          case measure => simp [intOf]; omega
        · go_wp2_with fail
          refine (implHolds_any op lk ls lvk lvn lvs rk rs rvk rvn rvs A1 _ c1 l _ w1.heap.size r1 (by omega)).mono ?_
          rw [HH.out]
          rintro e w3 ⟨rfl, hb3⟩
          go_wp2
          go_roundw
          case rel => exact ⟨k + 1, h, by omega, by go_num, rfl, by rw [HST.out]; simp, r0.kept hb3, r1.kept hb3, bel_trans gW hb3⟩
          case measure => simp [intOf]; omega
      · have hall : holdAll cs l = a := by
          unfold holdAll
          rw [← HA.out, List.take_of_length_le (by omega)]
        have HALL := Lib.hid hall; clear hall
        have gS := gW.size
        go_wp2_with fail
        refine (DrawCondText_any A n c code _ W.heap.size (RdB.below hr gW) gS (by omega)).mono ?_
        rintro e w4 ⟨op, lk, ls, lvk, lvn, lvs, rk, rs, rvk, rvn, rvs, ⟨h1, h2, h3, h4⟩, rfl, hb4⟩
        have HX := Blk.new w4 34 #[.int .i64 0, .int .i64 0, .string ⟨#[]⟩, .int .i64 0, .int .i64 0, .string ⟨#[]⟩, .int .i64 0, .string ⟨#[]⟩, .int .i64 0, .int .i64 0, .string ⟨#[]⟩]
        replace r0 := r0.kept hb4
        replace r1 := r1.kept hb4
        replace gW := bel_trans gW hb4
        have gS := gW.size
        clear hb4
        have hq1 : ls.size ≤ 9223372036854775807 := by omega
        have hq2 : lvs.size ≤ 9223372036854775807 := by omega
        have hq3 : rs.size ≤ 9223372036854775807 := by omega
        have hq4 : rvs.size ≤ 9223372036854775807 := by omega
        obtain ⟨d, hd⟩ : ∃ d, condOk ⟨op, ⟨lk, ls, ⟨lvk, lvn, lvs⟩⟩, ⟨rk, rs, ⟨rvk, rvn, rvs⟩⟩⟩ = d := ⟨_, rfl⟩
        obtain ⟨tx, htx⟩ : ∃ tx, condText ⟨op, ⟨lk, ls, ⟨lvk, lvn, lvs⟩⟩, ⟨rk, rs, ⟨rvk, rvn, rvs⟩⟩⟩ = tx := ⟨_, rfl⟩
        have hz : decide (tx = ⟨#[]⟩) = !d := by
          rw [← htx, ← hd]
          cases hd2 : condOk ⟨op, ⟨lk, ls, ⟨lvk, lvn, lvs⟩⟩, ⟨rk, rs, ⟨rvk, rvn, rvs⟩⟩⟩
          · rw [condText_none hd2]; rfl
          · rw [condText_ne hd2]; rfl
        have HD := Lib.hid hd; have HTX := Lib.hid htx; clear hd htx
        have hzz : (tx.toList == ([] : List UInt8)) = !d := by
          have := str_eq tx ⟨#[]⟩
          rw [hz, ByteArray.toList_eq ⟨#[]⟩] at this
          exact this
        go_upto_region 10 with ((with_reducible show wpList _ _ _ (Oper.mk none (Op.store _ _ _) _ _ _ _ :: _) _ _); refine wpList_store_at (by rfl) 34 (.tmp 7) (.tmp 31) (by rfl) _ [] [.int .i64 0, .int .i64 0, .string ⟨#[]⟩, .int .i64 0, .int .i64 0, .string ⟨#[]⟩, .int .i64 0, .string ⟨#[]⟩, .int .i64 0, .int .i64 0, .string ⟨#[]⟩] [] [.int .i64 op, .int .i64 lk, .string ls, .int .i64 lvk, .int .i64 lvn, .string lvs, .int .i64 rk, .string rs, .int .i64 rvk, .int .i64 rvn, .string rvs] (by rfl) (by rfl) HX (by rfl) (by kernel_rfl) (by simp [Value.oneCell']) (fun V => RdS cC 11 V w1.heap.size A0 cs.length cs ∧ RdS bC 4 V w1.heap.size A1 l.length l ∧ Below W.heap.size W V ∧ w4.heap.size < V.heap.size) (fun V o v h => ⟨RdS.setCell h.1 (by have := r0.1; simp; omega) v, RdS.setCell h.2.1 (by have := r0.1; simp; omega) v, bel_set h.2.2.1 (by simp; omega) v, by simpa using h.2.2.2⟩) ⟨r0.alloc _, r1.alloc _, bel_alloc gW _, by simp⟩ ?_; intro w5 HX2 hpr)
        obtain ⟨r2, r3, g5, z5⟩ := hpr
        replace HX2 : Blk w5 w4.heap.size 34 #[.int .i64 op, .int .i64 lk, .string ls, .int .i64 lvk, .int .i64 lvn, .string lvs, .int .i64 rk, .string rs, .int .i64 rvk, .int .i64 rvn, .string rvs] := HX2
        clear HX r0 r1 gW
        have x0 := HX2.cell 0
        have x1 := HX2.cell 1
        have x2 := HX2.cell 2
        have x3 := HX2.cell 3
        have x4 := HX2.cell 4
        have x5 := HX2.cell 5
        have x6 := HX2.cell 6
        have x7 := HX2.cell 7
        have x8 := HX2.cell 8
        have x9 := HX2.cell 9
        have x10 := HX2.cell 10
        simp at x0 x1 x2 x3 x4 x5 x6 x7 x8 x9 x10
        cases d
        · simp only [Bool.not_false] at hzz
          refine wp_region_held_drew (S := (fun w' => Below w5.heap.size w5 w' ∧ w'.cell? ⟨w4.heap.size, 0, none⟩ = some (.int .i64 op) ∧ w'.cell? ⟨w4.heap.size, 1, none⟩ = some (.int .i64 lk) ∧ w'.cell? ⟨w4.heap.size, 2, none⟩ = some (.string ls) ∧ w'.cell? ⟨w4.heap.size, 3, none⟩ = some (.int .i64 lvk) ∧ w'.cell? ⟨w4.heap.size, 4, none⟩ = some (.int .i64 lvn) ∧ w'.cell? ⟨w4.heap.size, 5, none⟩ = some (.string lvs) ∧ w'.cell? ⟨w4.heap.size, 6, none⟩ = some (.int .i64 rk) ∧ w'.cell? ⟨w4.heap.size, 7, none⟩ = some (.string rs) ∧ w'.cell? ⟨w4.heap.size, 8, none⟩ = some (.int .i64 rvk) ∧ w'.cell? ⟨w4.heap.size, 9, none⟩ = some (.int .i64 rvn) ∧ w'.cell? ⟨w4.heap.size, 10, none⟩ = some (.string rvs))) (by kernel_rfl) ?_ (fun hHeld => ?_)
          · (try dsimp only) <;> (((refine (fun hB => ⟨hB, old_cell hB x0, old_cell hB x1, old_cell hB x2, old_cell hB x3, old_cell hB x4, old_cell hB x5, old_cell hB x6, old_cell hB x7, old_cell hB x8, old_cell hB x9, old_cell hB x10⟩ : Below w5.heap.size w5 _ → _) ?_); (repeat (first | exact bel_refl _ | exact bel_drew (bel_refl _) | exact bel_trans (And.left (by assumption)) (by assumption) | assumption))))
          refine h_take 0 (some 32) (?_) rfl rfl (by kernel_rfl) (by kernel_rfl) (by kernel_rfl) (fun _ _ _ h => h) (by kernel_rfl) ?_ (by assumption) ?_
          rotate_left
          · intro w hSw; (try dsimp only at hSw); go_simp
            all_goals first | with_reducible rfl | omega | (simp; omega)
          try simp only [Act.put, List.setIfInBounds_toArray, List.set_cons_zero, List.set_cons_succ]
          refine h_take 1 (some 33) (?_) rfl rfl (by kernel_rfl) (by kernel_rfl) (by kernel_rfl) (fun _ _ _ h => h) (by kernel_rfl) ?_ (by assumption) ?_
          rotate_left
          · intro w hSw; (try dsimp only at hSw); go_simp
            all_goals first | with_reducible rfl | omega | (simp; omega)
          try simp only [Act.put, List.setIfInBounds_toArray, List.set_cons_zero, List.set_cons_succ]
          refine h_take 3 (some 35) (?_) rfl rfl (by kernel_rfl) (by kernel_rfl) (by kernel_rfl) (fun _ _ _ h => h) (by kernel_rfl) ?_ (by assumption) ?_
          rotate_left
          · intro w hSw; (try dsimp only at hSw); go_simp
            all_goals first | with_reducible rfl | omega | (simp; omega)
          try simp only [Act.put, List.setIfInBounds_toArray, List.set_cons_zero, List.set_cons_succ]
          refine h_call 2 (by kernel_rfl) rfl (by kernel_rfl) (fun K hK => ?_)
          go_simp
          refine (implHoldAll_any A0 _ c0 cs A1 _ c1 l _ w1.heap.size w1.heap.size (r2.kept (And.left (by assumption))) (r3.kept (And.left (by assumption))) (by omega) (by omega)).mono ?_
          rw [HALL.out]
          rintro e wa ⟨rfl, hb⟩
          refine hK.out _ _ ?_ (fun hHeld => ?_)
          · (try dsimp only) <;> (((refine (fun hB => ⟨hB, old_cell hB x0, old_cell hB x1, old_cell hB x2, old_cell hB x3, old_cell hB x4, old_cell hB x5, old_cell hB x6, old_cell hB x7, old_cell hB x8, old_cell hB x9, old_cell hB x10⟩ : Below w5.heap.size w5 _ → _) ?_); (repeat (first | exact bel_refl _ | exact bel_drew (bel_refl _) | exact bel_trans (And.left (by assumption)) (by assumption) | assumption))))
          clear hK K
          try simp only [Act.put, List.setIfInBounds_toArray, List.set_cons_zero, List.set_cons_succ]
          refine h_take 4 (some 36) (.bool true) rfl rfl (by kernel_rfl) (by kernel_rfl) (by kernel_rfl) (fun _ _ _ h => h) (by kernel_rfl) ?_ (by assumption) ?_
          · intro w hSw; (try dsimp only at hSw); go_simp
            all_goals first | with_reducible rfl | omega | (simp; omega)
          try simp only [Act.put, List.setIfInBounds_toArray, List.set_cons_zero, List.set_cons_succ]
          refine h_take 5 (some 37) (.bool true) rfl rfl (by kernel_rfl) (by kernel_rfl) (by kernel_rfl) (fun _ _ _ h => h) (by kernel_rfl) ?_ (by assumption) ?_
          · intro w hSw; (try dsimp only at hSw); go_simp
            all_goals first | with_reducible rfl | omega | (simp; omega)
          try simp only [Act.put, List.setIfInBounds_toArray, List.set_cons_zero, List.set_cons_succ]
          refine h_take 6 (some 38) (?_) rfl rfl (by kernel_rfl) (by kernel_rfl) (by kernel_rfl) (fun _ _ _ h => h) (by kernel_rfl) ?_ (by assumption) ?_
          rotate_left
          · intro w hSw; (try dsimp only at hSw); go_simp
            all_goals first | with_reducible rfl | omega | (simp; omega)
          try simp only [Act.put, List.setIfInBounds_toArray, List.set_cons_zero, List.set_cons_succ]
          refine h_take 9 (some 41) (?_) rfl rfl (by kernel_rfl) (by kernel_rfl) (by kernel_rfl) (fun _ _ _ h => h) (by kernel_rfl) ?_ (by assumption) ?_
          rotate_left
          · intro w hSw; (try dsimp only at hSw); go_simp
            all_goals first | with_reducible rfl | omega | (simp; omega)
          try simp only [Act.put, List.setIfInBounds_toArray, List.set_cons_zero, List.set_cons_succ]
          refine h_call 7 (by kernel_rfl) rfl (by kernel_rfl) (fun K hK => ?_)
          go_simp
          refine (implCondText_any op lk ls lvk lvn lvs rk rs rvk rvn rvs _ (HTT.out.kept (bel_trans g5 (And.left (by assumption)))) hq1 hq2 hq3 hq4).mono ?_
          rw [HTX.out]
          rintro e wb ⟨rfl, hb⟩
          refine hK.out _ _ ?_ (fun hHeld => ?_)
          · (try dsimp only) <;> (((refine (fun hB => ⟨hB, old_cell hB x0, old_cell hB x1, old_cell hB x2, old_cell hB x3, old_cell hB x4, old_cell hB x5, old_cell hB x6, old_cell hB x7, old_cell hB x8, old_cell hB x9, old_cell hB x10⟩ : Below w5.heap.size w5 _ → _) ?_); (repeat (first | exact bel_refl _ | exact bel_drew (bel_refl _) | exact bel_trans (And.left (by assumption)) (by assumption) | assumption))))
          clear hK K
          try simp only [Act.put, List.setIfInBounds_toArray, List.set_cons_zero, List.set_cons_succ]
          refine h_take 8 (some 40) (.bool true) rfl rfl (by kernel_rfl) (by kernel_rfl) (by kernel_rfl) (fun _ _ _ h => h) (by kernel_rfl) ?_ (by assumption) ?_
          · intro w hSw; (try dsimp only at hSw); go_simp
            all_goals first | with_reducible rfl | omega | (simp; omega)
          try simp only [Act.put, List.setIfInBounds_toArray, List.set_cons_zero, List.set_cons_succ]
          refine h_call 10 (by kernel_rfl) rfl (by kernel_rfl) (fun K hK => ?_)
          go_simp
          refine (specCondOk_any op lk ls lvk lvn lvs rk rs rvk rvn rvs _ hq1 hq2 hq3 hq4).mono ?_
          rw [HD.out]
          rintro e wc ⟨rfl, hb⟩
          refine hK.out _ _ ?_ (fun hHeld => ?_)
          · (try dsimp only) <;> (((refine (fun hB => ⟨hB, old_cell hB x0, old_cell hB x1, old_cell hB x2, old_cell hB x3, old_cell hB x4, old_cell hB x5, old_cell hB x6, old_cell hB x7, old_cell hB x8, old_cell hB x9, old_cell hB x10⟩ : Below w5.heap.size w5 _ → _) ?_); (repeat (first | exact bel_refl _ | exact bel_drew (bel_refl _) | exact bel_trans (And.left (by assumption)) (by assumption) | assumption))))
          clear hK K
          try simp only [Act.put, List.setIfInBounds_toArray, List.set_cons_zero, List.set_cons_succ]
          refine h_take 11 (some 43) (.bool true) rfl rfl (by kernel_rfl) (by kernel_rfl) (by kernel_rfl) (fun _ _ _ h => h) (by kernel_rfl) ?_ (by assumption) ?_
          · intro w hSw; (try dsimp only at hSw); go_simp
            all_goals first | with_reducible rfl | omega | (simp; omega)
          try simp only [Act.put, List.setIfInBounds_toArray, List.set_cons_zero, List.set_cons_succ]
          refine h_take 12 (some 44) (.bool true) rfl rfl (by kernel_rfl) (by kernel_rfl) (by kernel_rfl) (fun _ _ _ h => h) (by kernel_rfl) ?_ (by assumption) ?_
          · intro w hSw; (try dsimp only at hSw); go_simp
            all_goals first | with_reducible rfl | omega | (simp; omega)
          try simp only [Act.put, List.setIfInBounds_toArray, List.set_cons_zero, List.set_cons_succ]
          refine h_take 13 (some 45) (.bool true) rfl rfl (by kernel_rfl) (by kernel_rfl) (by kernel_rfl) (fun _ _ _ h => h) (by kernel_rfl) ?_ (by assumption) ?_
          · intro w hSw; (try dsimp only at hSw); go_simp
            all_goals first | with_reducible rfl | omega | (simp; omega)
          try simp only [Act.put, List.setIfInBounds_toArray, List.set_cons_zero, List.set_cons_succ]
          refine h_take 14 (some 2) (?_) rfl rfl (by kernel_rfl) (by kernel_rfl) (by kernel_rfl) (fun _ _ _ h => h) (by kernel_rfl) ?_ (by assumption) ?_
          rotate_left
          · intro w hSw; (try dsimp only at hSw); go_simp
            all_goals first | with_reducible rfl | omega | (simp; omega)
          try simp only [Act.put, List.setIfInBounds_toArray, List.set_cons_zero, List.set_cons_succ]
          refine wpAnyH_done (by kernel_rfl) ?_ _
          obtain ⟨hB, _⟩ := hHeld
          have hB1 : Below W.heap.size W _ := bel_trans g5 hB
          go_wp2
          go_ret
          exact ⟨rfl, hB1⟩
        · simp only [Bool.not_true] at hzz
          refine wp_region_held_drew (S := (fun w' => Below w5.heap.size w5 w' ∧ w'.cell? ⟨w4.heap.size, 0, none⟩ = some (.int .i64 op) ∧ w'.cell? ⟨w4.heap.size, 1, none⟩ = some (.int .i64 lk) ∧ w'.cell? ⟨w4.heap.size, 2, none⟩ = some (.string ls) ∧ w'.cell? ⟨w4.heap.size, 3, none⟩ = some (.int .i64 lvk) ∧ w'.cell? ⟨w4.heap.size, 4, none⟩ = some (.int .i64 lvn) ∧ w'.cell? ⟨w4.heap.size, 5, none⟩ = some (.string lvs) ∧ w'.cell? ⟨w4.heap.size, 6, none⟩ = some (.int .i64 rk) ∧ w'.cell? ⟨w4.heap.size, 7, none⟩ = some (.string rs) ∧ w'.cell? ⟨w4.heap.size, 8, none⟩ = some (.int .i64 rvk) ∧ w'.cell? ⟨w4.heap.size, 9, none⟩ = some (.int .i64 rvn) ∧ w'.cell? ⟨w4.heap.size, 10, none⟩ = some (.string rvs))) (by kernel_rfl) ?_ (fun hHeld => ?_)
          · (try dsimp only) <;> (((refine (fun hB => ⟨hB, old_cell hB x0, old_cell hB x1, old_cell hB x2, old_cell hB x3, old_cell hB x4, old_cell hB x5, old_cell hB x6, old_cell hB x7, old_cell hB x8, old_cell hB x9, old_cell hB x10⟩ : Below w5.heap.size w5 _ → _) ?_); (repeat (first | exact bel_refl _ | exact bel_drew (bel_refl _) | exact bel_trans (And.left (by assumption)) (by assumption) | assumption))))
          refine h_take 0 (some 32) (?_) rfl rfl (by kernel_rfl) (by kernel_rfl) (by kernel_rfl) (fun _ _ _ h => h) (by kernel_rfl) ?_ (by assumption) ?_
          rotate_left
          · intro w hSw; (try dsimp only at hSw); go_simp
            all_goals first | with_reducible rfl | omega | (simp; omega)
          try simp only [Act.put, List.setIfInBounds_toArray, List.set_cons_zero, List.set_cons_succ]
          refine h_take 1 (some 33) (?_) rfl rfl (by kernel_rfl) (by kernel_rfl) (by kernel_rfl) (fun _ _ _ h => h) (by kernel_rfl) ?_ (by assumption) ?_
          rotate_left
          · intro w hSw; (try dsimp only at hSw); go_simp
            all_goals first | with_reducible rfl | omega | (simp; omega)
          try simp only [Act.put, List.setIfInBounds_toArray, List.set_cons_zero, List.set_cons_succ]
          refine h_take 3 (some 35) (?_) rfl rfl (by kernel_rfl) (by kernel_rfl) (by kernel_rfl) (fun _ _ _ h => h) (by kernel_rfl) ?_ (by assumption) ?_
          rotate_left
          · intro w hSw; (try dsimp only at hSw); go_simp
            all_goals first | with_reducible rfl | omega | (simp; omega)
          try simp only [Act.put, List.setIfInBounds_toArray, List.set_cons_zero, List.set_cons_succ]
          refine h_call 2 (by kernel_rfl) rfl (by kernel_rfl) (fun K hK => ?_)
          go_simp
          refine (implHoldAll_any A0 _ c0 cs A1 _ c1 l _ w1.heap.size w1.heap.size (r2.kept (And.left (by assumption))) (r3.kept (And.left (by assumption))) (by omega) (by omega)).mono ?_
          rw [HALL.out]
          rintro e wa ⟨rfl, hb⟩
          refine hK.out _ _ ?_ (fun hHeld => ?_)
          · (try dsimp only) <;> (((refine (fun hB => ⟨hB, old_cell hB x0, old_cell hB x1, old_cell hB x2, old_cell hB x3, old_cell hB x4, old_cell hB x5, old_cell hB x6, old_cell hB x7, old_cell hB x8, old_cell hB x9, old_cell hB x10⟩ : Below w5.heap.size w5 _ → _) ?_); (repeat (first | exact bel_refl _ | exact bel_drew (bel_refl _) | exact bel_trans (And.left (by assumption)) (by assumption) | assumption))))
          clear hK K
          try simp only [Act.put, List.setIfInBounds_toArray, List.set_cons_zero, List.set_cons_succ]
          refine h_take 4 (some 36) (.bool true) rfl rfl (by kernel_rfl) (by kernel_rfl) (by kernel_rfl) (fun _ _ _ h => h) (by kernel_rfl) ?_ (by assumption) ?_
          · intro w hSw; (try dsimp only at hSw); go_simp
            all_goals first | with_reducible rfl | omega | (simp; omega)
          try simp only [Act.put, List.setIfInBounds_toArray, List.set_cons_zero, List.set_cons_succ]
          refine h_take 5 (some 37) (.bool true) rfl rfl (by kernel_rfl) (by kernel_rfl) (by kernel_rfl) (fun _ _ _ h => h) (by kernel_rfl) ?_ (by assumption) ?_
          · intro w hSw; (try dsimp only at hSw); go_simp
            all_goals first | with_reducible rfl | omega | (simp; omega)
          try simp only [Act.put, List.setIfInBounds_toArray, List.set_cons_zero, List.set_cons_succ]
          refine h_take 6 (some 38) (?_) rfl rfl (by kernel_rfl) (by kernel_rfl) (by kernel_rfl) (fun _ _ _ h => h) (by kernel_rfl) ?_ (by assumption) ?_
          rotate_left
          · intro w hSw; (try dsimp only at hSw); go_simp
            all_goals first | with_reducible rfl | omega | (simp; omega)
          try simp only [Act.put, List.setIfInBounds_toArray, List.set_cons_zero, List.set_cons_succ]
          refine h_take 9 (some 41) (?_) rfl rfl (by kernel_rfl) (by kernel_rfl) (by kernel_rfl) (fun _ _ _ h => h) (by kernel_rfl) ?_ (by assumption) ?_
          rotate_left
          · intro w hSw; (try dsimp only at hSw); go_simp
            all_goals first | with_reducible rfl | omega | (simp; omega)
          try simp only [Act.put, List.setIfInBounds_toArray, List.set_cons_zero, List.set_cons_succ]
          refine h_call 7 (by kernel_rfl) rfl (by kernel_rfl) (fun K hK => ?_)
          go_simp
          refine (implCondText_any op lk ls lvk lvn lvs rk rs rvk rvn rvs _ (HTT.out.kept (bel_trans g5 (And.left (by assumption)))) hq1 hq2 hq3 hq4).mono ?_
          rw [HTX.out]
          rintro e wb ⟨rfl, hb⟩
          refine hK.out _ _ ?_ (fun hHeld => ?_)
          · (try dsimp only) <;> (((refine (fun hB => ⟨hB, old_cell hB x0, old_cell hB x1, old_cell hB x2, old_cell hB x3, old_cell hB x4, old_cell hB x5, old_cell hB x6, old_cell hB x7, old_cell hB x8, old_cell hB x9, old_cell hB x10⟩ : Below w5.heap.size w5 _ → _) ?_); (repeat (first | exact bel_refl _ | exact bel_drew (bel_refl _) | exact bel_trans (And.left (by assumption)) (by assumption) | assumption))))
          clear hK K
          try simp only [Act.put, List.setIfInBounds_toArray, List.set_cons_zero, List.set_cons_succ]
          refine h_take 8 (some 40) (.bool false) rfl rfl (by kernel_rfl) (by kernel_rfl) (by kernel_rfl) (fun _ _ _ h => h) (by kernel_rfl) ?_ (by assumption) ?_
          · intro w hSw; (try dsimp only at hSw); go_simp
            all_goals first | with_reducible rfl | omega | (simp; omega)
          try simp only [Act.put, List.setIfInBounds_toArray, List.set_cons_zero, List.set_cons_succ]
          refine h_call 10 (by kernel_rfl) rfl (by kernel_rfl) (fun K hK => ?_)
          go_simp
          refine (specCondOk_any op lk ls lvk lvn lvs rk rs rvk rvn rvs _ hq1 hq2 hq3 hq4).mono ?_
          rw [HD.out]
          rintro e wc ⟨rfl, hb⟩
          refine hK.out _ _ ?_ (fun hHeld => ?_)
          · (try dsimp only) <;> (((refine (fun hB => ⟨hB, old_cell hB x0, old_cell hB x1, old_cell hB x2, old_cell hB x3, old_cell hB x4, old_cell hB x5, old_cell hB x6, old_cell hB x7, old_cell hB x8, old_cell hB x9, old_cell hB x10⟩ : Below w5.heap.size w5 _ → _) ?_); (repeat (first | exact bel_refl _ | exact bel_drew (bel_refl _) | exact bel_trans (And.left (by assumption)) (by assumption) | assumption))))
          clear hK K
          try simp only [Act.put, List.setIfInBounds_toArray, List.set_cons_zero, List.set_cons_succ]
          refine h_take 11 (some 43) (.bool false) rfl rfl (by kernel_rfl) (by kernel_rfl) (by kernel_rfl) (fun _ _ _ h => h) (by kernel_rfl) ?_ (by assumption) ?_
          · intro w hSw; (try dsimp only at hSw); go_simp
            all_goals first | with_reducible rfl | omega | (simp; omega)
          try simp only [Act.put, List.setIfInBounds_toArray, List.set_cons_zero, List.set_cons_succ]
          refine h_take 12 (some 44) (.bool true) rfl rfl (by kernel_rfl) (by kernel_rfl) (by kernel_rfl) (fun _ _ _ h => h) (by kernel_rfl) ?_ (by assumption) ?_
          · intro w hSw; (try dsimp only at hSw); go_simp
            all_goals first | with_reducible rfl | omega | (simp; omega)
          try simp only [Act.put, List.setIfInBounds_toArray, List.set_cons_zero, List.set_cons_succ]
          refine h_take 13 (some 45) (.bool true) rfl rfl (by kernel_rfl) (by kernel_rfl) (by kernel_rfl) (fun _ _ _ h => h) (by kernel_rfl) ?_ (by assumption) ?_
          · intro w hSw; (try dsimp only at hSw); go_simp
            all_goals first | with_reducible rfl | omega | (simp; omega)
          try simp only [Act.put, List.setIfInBounds_toArray, List.set_cons_zero, List.set_cons_succ]
          refine h_take 14 (some 2) (?_) rfl rfl (by kernel_rfl) (by kernel_rfl) (by kernel_rfl) (fun _ _ _ h => h) (by kernel_rfl) ?_ (by assumption) ?_
          rotate_left
          · intro w hSw; (try dsimp only at hSw); go_simp
            all_goals first | with_reducible rfl | omega | (simp; omega)
          try simp only [Act.put, List.setIfInBounds_toArray, List.set_cons_zero, List.set_cons_succ]
          refine wpAnyH_done (by kernel_rfl) ?_ _
          obtain ⟨hB, _⟩ := hHeld
          have hB1 : Below W.heap.size W _ := bel_trans g5 hB
          go_wp2
          go_ret
          exact ⟨rfl, hB1⟩

theorem own : ownKnob Tryd.prog.godebug = none := by kernel_rfl
theorem laidOut : laidOutB Tryd.prog = true := by kernel_rfl
theorem lifted (os : Os) (started : os.Started) (H : Type) (enc : TypeId × Value → H) :
    ReturnsInHanded {} Tryd.checked os 3 .any (fun w args => (Rows.fnAllSpec.pre enc Tryd.prog Tryd.f3 [] false w args ∧ laidMetH Tryd.prog laidL w) ∧ sizedMet enc Tryd.prog Tryd.f3 (OpenSpec.ofChange Rows.fnAllSpec) false w args) (Rows.fnAllSpec.post enc Tryd.prog Tryd.f3 false true false false) := by
  refine returnsInHanded_of_change_and (C := Tryd.checked) (X := fun w _ => laidMetH Tryd.prog laidL w) (fun _ _ _ hh h => h.of_heap hh) own started (by kernel_rfl) Tryd.func3
    (ChangeSpec.witness_shaped (enc := enc) (C := Tryd.checked) (os := os) (X := fun w _ => laidMetH Tryd.prog laidL w) false (World.doorLaid Tryd.prog 400 os) #[.slice none 0 0] 8 rfl (World.shaped_of_RefB (by kernel_rfl) (by kernel_rfl)) (by kernel_rfl) (by kernel_rfl) (by kernel_rfl) (door_met os _)) ?_
  intro W base args ds gs before hval0 hW _ _ hL _
  have hval : ∀ (j : Nat) t v, Tryd.f3.params[j]? = some t → args[j]? = some v → Value.okWide Tryd.prog W .any base t v := hval0
  have hW' := hW
  obtain ⟨p, q, hA0, hV, rfl, hfz, hnd⟩ := hW
  have hA : DataW.TrodAll enc Tryd.prog W 0 (fun _ => true) true Tryd.f3.params.toList args.toList ds p := hA0
  rw [Tryd.params3] at hA hval
  obtain ⟨v0, vs0, d0, ds0, p0, q0, hargs, rfl, rfl, h0, r0⟩ := trodAll_cons hA
  obtain ⟨rfl, rfl, rfl⟩ := trodAll_nil r0
  obtain rfl : args = #[v0] := by cases args; simp_all
  obtain ⟨rfl, rfl⟩ := trodVars_none hV
  have lt0 : ∀ x ∈ p0, x.block < W.heap.size := by obtain ⟨m, hm⟩ := h0; exact DataW.trod_lt m _ _ _ hm
  obtain ⟨A0, n0, c0, b0, hv0, hs0⟩ := open_bytes Tryd.underlying22 Tryd.underlying5 (by kernel_rfl) (hval 0 22 v0 rfl rfl) h0
  subst hv0
  clear hA0 hval0
  refine (walk A0 n0 c0 b0 W hs0 (tabT_of_laid hL)).mono fun e W' ⟨he, bel⟩ => ?_
  subst he
  exact ⟨_, rfl, _, _, _, [], _, [], hW', trodAll_mk1 (shut_bool Tryd.underlying4 _), (trodAll_cons_mk (Below.trod laidOut (by kernel_rfl) (of_decide_eq_true (by kernel_rfl)) h0 bel lt0) trodAll_mk0), rfl, bel.frame _, fun h => by cases h⟩
theorem over : Rows.fnAllRow.holds Tryd.pinned (OpenSpec.ofChange Rows.fnAllSpec) :=
  OpenClaim.holds_of_wide 3 Tryd.f3 rfl rfl rfl rfl rfl rfl rfl ⟨rfl, rfl, rfl, rfl, rfl⟩ rfl rfl rfl rfl rfl (by kernel_rfl) Tryd.func3 (by kernel_rfl)
    (of_decide_eq_true (by kernel_rfl)) (by unfold Func.isWrapper; first | (rw [if_pos (by decide +kernel)]; kernel_rfl) | (rw [if_neg (by decide +kernel)]; exact ⟨rfl, rfl⟩))
    (fun os started H enc _ => lifted os started H enc)
theorem proved : Rows.FnAllCardSaid :=
  Claim7.holds_tied_plain_at .later [] laidK true _ _ over (fun _ h => by cases h) (by kernel_rfl) (fun _ h => by cases h) fnAll_row_tie rfl ⟨rfl, rfl⟩ (by kernel_rfl) rfl
    (fun f fn hf hfn => by
      obtain rfl : f = 3 := Option.some.inj ((show Tryd.prog.funcNamed "loop.example/g00282/laws.FnAll" = some 3 by kernel_rfl).symm.trans hf) |>.symm
      obtain rfl : fn = Tryd.f3 := (Option.some.inj (Tryd.func3.symm.trans hfn)).symm
      exact ⟨by kernel_rfl, fun j t ht => by
        rw [Tryd.params3] at ht
        have hm : t ∈ [22] := by simpa using Array.mem_of_getElem? ht
        have hall : ([22].all fun u => !Tryd.prog.wantsStandIn u) = true := by kernel_rfl
        exact (show Tryd.prog.wantsStandIn t = false by simpa using List.all_eq_true.1 hall t hm)⟩)
    (by kernel_rfl)
end Go.Proofs.YtgpinhamgdganaaDoor.fnAll
