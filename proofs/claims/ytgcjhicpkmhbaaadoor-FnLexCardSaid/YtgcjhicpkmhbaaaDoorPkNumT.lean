import Derived.Test.YtgcjhicpkmhbaaaDoorHeld
import Derived.Test.YtgcjhicpkmhbaaaDoorChecked
import Derived.Lib.ItoaMem
import Derived.Lib.ItoaLen
import Derived.Lib.Hide
/- A region that draws its order: two operations are ready at once. Names no program. No condition. -/
namespace Go.Proofs.YtgcjhicpkmhbaaaDoor
open Go.RowKit
section
variable {P : Program} {md : Region.Mode} {ops : Array Oper} {Q : Exit → Act → World → Prop} {S : World → Prop}
theorem h_two (i j : Nat) {oi oj : Oper} {fuel : Nat} {listed : Array Bool} {a : Act} {w : World} (hr : Region.ready md ops listed = [i, j]) (hi : ops[i]? = some oi) (hj : ops[j]? = some oj)
    (hwi : Region.wanted oi (yielded ops a.tmps) = true) (hwj : Region.wanted oj (yielded ops a.tmps) = true)
    (h1 : ∀ K' : Act → World → Prop, Shut (∀ a w, S w → (S w → wpAnyH P md ops Q S fuel (listed.setIfInBounds i true) a w) → K' a w) → Oper.wp P oi a w K' Q)
    (h2 : ∀ K' : Act → World → Prop, Shut (∀ a w, S w → (S w → wpAnyH P md ops Q S fuel (listed.setIfInBounds j true) a w) → K' a w) → Oper.wp P oj a w K' Q) : wpAnyH P md ops Q S (fuel + 1) listed a w :=
  wpAnyH_ready hr (by simp) (AllReadyH.cons hi (fun K hK => by rw [if_pos hwi]; exact h1 K hK) (AllReadyH.cons hj (fun K hK => by rw [if_pos hwj]; exact h2 K hK) AllReadyH.nil))
end
end Go.Proofs.YtgcjhicpkmhbaaaDoor

/- Numbers as texts: what the reference writes of a number that is kept is its decimal numeral. Condition: the number is one that is kept. -/
namespace Go.Proofs.YtgcjhicpkmhbaaaDoor
open Go.RowKit
set_option maxRecDepth 100000
set_option maxHeartbeats 4000000
def numT (n : Int) : ByteArray := ⟨(Lib.itoa n).toArray⟩
theorem digits_small {n : Nat} (h : n < 10) : Lib.decDigits n = [UInt8.ofNat (48 + n)] := by rw [Lib.decDigits, dif_pos h]
theorem digits_big {n : Nat} (h : ¬ n < 10) : Lib.decDigits n = Lib.decDigits (n / 10) ++ [UInt8.ofNat (48 + n % 10)] := by rw [Lib.decDigits, dif_neg h]
theorem cat_arr (a b : List UInt8) : (⟨a.toArray⟩ ++ ⟨b.toArray⟩ : ByteArray) = ⟨(a ++ b).toArray⟩ := by
  apply ByteArray.ext
  simp
theorem digits_len {n : Nat} (h : n ≤ 1000000000) : (Lib.decDigits n).length ≤ 21 := by
  rw [← Lib.itoa_nonneg]
  exact Lib.itoa_length_le _ (by omega) (by omega)
theorem l2Num_nat (n : Nat) : n ≤ 1000000000 → ∀ w : World, Calls Tryd.prog 73 #[.int .i64 n] w fun e w' => e = .returned (.string ⟨(Lib.decDigits n).toArray⟩) ∧ Below w.heap.size w w' := by
  induction n using Nat.strongRecOn with
  | _ n ih =>
  intro hn w
  have IH := Lib.hid ih; clear ih
  by_cases h : n < 10
  · have h0 : ¬ ((n : Int) < 0) := by omega
    have h1 : ((n : Int) < 10) := by omega
    have hcv := conv_bytes (P := Tryd.prog) (RdB.one w 5 (48 + (n : Int)) (by omega) (by omega)) 28 5 Tryd.underlying28 Tryd.underlying5 9 Tryd.underlying9 1
    go_enter Tryd.func73, Tryd.ntmps73
    go_wp2
    go_ret
    refine ⟨ret_str ?_, (by repeat (first | with_reducible exact bel_refl _ | with_reducible assumption | with_reducible refine bel_set ?_ (by first | (simp; done) | (simp; omega) | omega) _ | with_reducible refine bel_alloc ?_ _ | with_reducible refine bel_drew ?_ | with_reducible refine bel_drewN ?_ _ | with_reducible refine bel_trans ?_ (by assumption)))⟩
    rw [digits_small h]
    simp
  · have h0 : ¬ ((n : Int) < 0) := by omega
    have h1 : ¬ ((n : Int) < 10) := by omega
    have hlen := digits_len (n := n / 10) (by omega)
    go_enter Tryd.func73, Tryd.ntmps73
    go_upto_region 5 with fail
    refine wp_region_held_drew (S := (fun w' => Below w.heap.size w w')) (by kernel_rfl) ?_ (fun hHeld => ?_)
    · (try dsimp only) <;> (first | exact (by repeat (first | with_reducible exact bel_refl _ | with_reducible assumption | with_reducible refine bel_set ?_ (by first | (simp; done) | (simp; omega) | omega) _ | with_reducible refine bel_alloc ?_ _ | with_reducible refine bel_drew ?_ | with_reducible refine bel_drewN ?_ _ | with_reducible refine bel_trans ?_ (by assumption))))
    refine h_take 0 (some 18) (?_) rfl rfl (by kernel_rfl) (by kernel_rfl) (by kernel_rfl) (fun _ _ _ h => h) (by kernel_rfl) ?_ (by assumption) ?_
    rotate_left
    · intro w hSw; (try dsimp only at hSw); go_simp
      all_goals first | with_reducible rfl | omega | (simp; omega)
    try simp only [Act.put, List.setIfInBounds_toArray, List.set_cons_zero, List.set_cons_succ]
    refine h_take 1 (some 19) (.int .i64 ((n / 10 : Nat) : Int)) rfl rfl (by kernel_rfl) (by kernel_rfl) (by kernel_rfl) (fun _ _ _ h => h) (by kernel_rfl) ?_ (by assumption) ?_
    · intro w hSw; (try dsimp only at hSw); go_simp
      all_goals first | with_reducible rfl | omega | (simp; omega) | (rw [IntKind.wrap_i64]; omega) | (rw [IntKind.wrap_u8]; omega) | exact Int.tmod_eq_emod_of_nonneg (by omega) | (simp [IntKind.wrap_i64, IntKind.wrap_u8]; omega)
    try simp only [Act.put, List.setIfInBounds_toArray, List.set_cons_zero, List.set_cons_succ]
    refine h_take 3 (some 21) (?_) rfl rfl (by kernel_rfl) (by kernel_rfl) (by kernel_rfl) (fun _ _ _ h => h) (by kernel_rfl) ?_ (by assumption) ?_
    rotate_left
    · intro w hSw; (try dsimp only at hSw); go_simp
      all_goals first | with_reducible rfl | omega | (simp; omega)
    try simp only [Act.put, List.setIfInBounds_toArray, List.set_cons_zero, List.set_cons_succ]
    refine h_take 4 (some 22) (.int .i64 ((n % 10 : Nat) : Int)) rfl rfl (by kernel_rfl) (by kernel_rfl) (by kernel_rfl) (fun _ _ _ h => h) (by kernel_rfl) ?_ (by assumption) ?_
    · intro w hSw; (try dsimp only at hSw); go_simp
      all_goals first | with_reducible rfl | omega | (simp; omega) | (rw [IntKind.wrap_i64]; omega) | (rw [IntKind.wrap_u8]; omega) | exact Int.tmod_eq_emod_of_nonneg (by omega) | (simp [IntKind.wrap_i64, IntKind.wrap_u8]; omega)
    try simp only [Act.put, List.setIfInBounds_toArray, List.set_cons_zero, List.set_cons_succ]
    refine h_take 5 (some 23) (.int .i64 ((48 + n % 10 : Nat) : Int)) rfl rfl (by kernel_rfl) (by kernel_rfl) (by kernel_rfl) (fun _ _ _ h => h) (by kernel_rfl) ?_ (by assumption) ?_
    · intro w hSw; (try dsimp only at hSw); go_simp
      all_goals first | with_reducible rfl | omega | (simp; omega) | (rw [IntKind.wrap_i64]; omega) | (rw [IntKind.wrap_u8]; omega) | exact Int.tmod_eq_emod_of_nonneg (by omega) | (simp [IntKind.wrap_i64, IntKind.wrap_u8]; omega)
    try simp only [Act.put, List.setIfInBounds_toArray, List.set_cons_zero, List.set_cons_succ]
    refine h_take 6 (some 24) (.int .u8 ((48 + n % 10 : Nat) : Int)) rfl rfl (by kernel_rfl) (by kernel_rfl) (by kernel_rfl) (fun _ _ _ h => h) (by kernel_rfl) ?_ (by assumption) ?_
    · intro w hSw; (try dsimp only at hSw); go_simp
      all_goals first | with_reducible rfl | omega | (simp; omega) | (rw [IntKind.wrap_i64]; omega) | (rw [IntKind.wrap_u8]; omega) | exact Int.tmod_eq_emod_of_nonneg (by omega) | (simp [IntKind.wrap_i64, IntKind.wrap_u8]; omega)
    try simp only [Act.put, List.setIfInBounds_toArray, List.set_cons_zero, List.set_cons_succ]
    refine h_two 2 7 (by kernel_rfl) rfl rfl (by rfl) (by rfl) (fun K hK => ?_) (fun K hK => ?_)
    · skip
      go_simp
      refine (IH.out (n / 10) (by omega) (by omega) _).mono ?_
      rintro e w2 ⟨rfl, hb⟩
      refine hK.out _ _ ?_ (fun hHeld => ?_)
      · (try dsimp only) <;> (first | exact (by repeat (first | with_reducible exact bel_refl _ | with_reducible assumption | with_reducible refine bel_set ?_ (by first | (simp; done) | (simp; omega) | omega) _ | with_reducible refine bel_alloc ?_ _ | with_reducible refine bel_drew ?_ | with_reducible refine bel_drewN ?_ _ | with_reducible refine bel_trans ?_ (by assumption))))
      clear hK K
      try simp only [Act.put, List.setIfInBounds_toArray, List.set_cons_zero, List.set_cons_succ]
      refine h_call 7 (by kernel_rfl) rfl (by rfl) (fun K hK => ?_)
      go_simp
      refine hK.out _ _ ?_ (fun hHeld => ?_)
      · (try dsimp only) <;> (first | exact (by repeat (first | with_reducible exact bel_refl _ | with_reducible assumption | with_reducible refine bel_set ?_ (by first | (simp; done) | (simp; omega) | omega) _ | with_reducible refine bel_alloc ?_ _ | with_reducible refine bel_drew ?_ | with_reducible refine bel_drewN ?_ _ | with_reducible refine bel_trans ?_ (by assumption))))
      clear hK K
      try simp only [Act.put, List.setIfInBounds_toArray, List.set_cons_zero, List.set_cons_succ]
      refine h_call 8 (by kernel_rfl) rfl (by rfl) (fun K hK => ?_)
      have hcv := conv_bytes (P := Tryd.prog) (RdB.one w2 5 (48 + (n : Int) % 10) (by omega) (by omega)) 28 5 Tryd.underlying28 Tryd.underlying5 9 Tryd.underlying9 1
      go_simp
      refine hK.out _ _ ?_ (fun hHeld => ?_)
      · (try dsimp only) <;> (first | exact (by repeat (first | with_reducible exact bel_refl _ | with_reducible assumption | with_reducible refine bel_set ?_ (by first | (simp; done) | (simp; omega) | omega) _ | with_reducible refine bel_alloc ?_ _ | with_reducible refine bel_drew ?_ | with_reducible refine bel_drewN ?_ _ | with_reducible refine bel_trans ?_ (by assumption))))
      clear hK K
      try simp only [Act.put, List.setIfInBounds_toArray, List.set_cons_zero, List.set_cons_succ]
      refine h_take 9 (some 27) (.string ⟨(Lib.decDigits n).toArray⟩) rfl rfl (by kernel_rfl) (by kernel_rfl) (by kernel_rfl) (fun _ _ _ h => h) (by kernel_rfl) ?_ (by assumption) ?_
      · intro w hSw; (try dsimp only at hSw); go_simp
        all_goals (rw [if_neg (by omega), cat_arr (Lib.decDigits (n / 10)) [UInt8.ofNat (48 + (n : Int) % 10).toNat], digits_big h]; congr 5)
      try simp only [Act.put, List.setIfInBounds_toArray, List.set_cons_zero, List.set_cons_succ]
      refine h_take 10 (some 2) (.string ⟨(Lib.decDigits n).toArray⟩) rfl rfl (by kernel_rfl) (by kernel_rfl) (by kernel_rfl) (fun _ _ _ h => h) (by kernel_rfl) ?_ (by assumption) ?_
      · intro w hSw; (try dsimp only at hSw); go_simp
        all_goals first | with_reducible rfl | omega | (simp; omega) | (rw [IntKind.wrap_i64]; omega) | (rw [IntKind.wrap_u8]; omega) | exact Int.tmod_eq_emod_of_nonneg (by omega) | (simp [IntKind.wrap_i64, IntKind.wrap_u8]; omega)
      try simp only [Act.put, List.setIfInBounds_toArray, List.set_cons_zero, List.set_cons_succ]
      refine wpAnyH_done (by kernel_rfl) ?_ _
      go_wp2
      go_ret
      exact ⟨rfl, by assumption⟩
    · skip
      go_simp
      refine hK.out _ _ ?_ (fun hHeld => ?_)
      · (try dsimp only) <;> (first | exact (by repeat (first | with_reducible exact bel_refl _ | with_reducible assumption | with_reducible refine bel_set ?_ (by first | (simp; done) | (simp; omega) | omega) _ | with_reducible refine bel_alloc ?_ _ | with_reducible refine bel_drew ?_ | with_reducible refine bel_drewN ?_ _ | with_reducible refine bel_trans ?_ (by assumption))))
      clear hK K
      try simp only [Act.put, List.setIfInBounds_toArray, List.set_cons_zero, List.set_cons_succ]
      refine h_two 2 8 (by kernel_rfl) rfl rfl (by rfl) (by rfl) (fun K hK => ?_) (fun K hK => ?_)
      · skip
        go_simp
        refine (IH.out (n / 10) (by omega) (by omega) _).mono ?_
        rintro e w2 ⟨rfl, hb⟩
        refine hK.out _ _ ?_ (fun hHeld => ?_)
        · (try dsimp only) <;> (first | exact (by repeat (first | with_reducible exact bel_refl _ | with_reducible assumption | with_reducible refine bel_set ?_ (by first | (simp; done) | (simp; omega) | omega) _ | with_reducible refine bel_alloc ?_ _ | with_reducible refine bel_drew ?_ | with_reducible refine bel_drewN ?_ _ | with_reducible refine bel_trans ?_ (by assumption))))
        clear hK K
        try simp only [Act.put, List.setIfInBounds_toArray, List.set_cons_zero, List.set_cons_succ]
        refine h_call 8 (by kernel_rfl) rfl (by rfl) (fun K hK => ?_)
        have hcv := conv_bytes (P := Tryd.prog) (RdB.below (w := (w.alloc _).drew) (RdB.one w 5 (48 + (n : Int) % 10) (by omega) (by omega)) (hb.mono (by simp))) 28 5 Tryd.underlying28 Tryd.underlying5 9 Tryd.underlying9 1
        go_simp
        refine hK.out _ _ ?_ (fun hHeld => ?_)
        · (try dsimp only) <;> (first | exact (by repeat (first | with_reducible exact bel_refl _ | with_reducible assumption | with_reducible refine bel_set ?_ (by first | (simp; done) | (simp; omega) | omega) _ | with_reducible refine bel_alloc ?_ _ | with_reducible refine bel_drew ?_ | with_reducible refine bel_drewN ?_ _ | with_reducible refine bel_trans ?_ (by assumption))))
        clear hK K
        try simp only [Act.put, List.setIfInBounds_toArray, List.set_cons_zero, List.set_cons_succ]
        refine h_take 9 (some 27) (.string ⟨(Lib.decDigits n).toArray⟩) rfl rfl (by kernel_rfl) (by kernel_rfl) (by kernel_rfl) (fun _ _ _ h => h) (by kernel_rfl) ?_ (by assumption) ?_
        · intro w hSw; (try dsimp only at hSw); go_simp
          all_goals (rw [if_neg (by omega), cat_arr (Lib.decDigits (n / 10)) [UInt8.ofNat (48 + (n : Int) % 10).toNat], digits_big h]; congr 5)
        try simp only [Act.put, List.setIfInBounds_toArray, List.set_cons_zero, List.set_cons_succ]
        refine h_take 10 (some 2) (.string ⟨(Lib.decDigits n).toArray⟩) rfl rfl (by kernel_rfl) (by kernel_rfl) (by kernel_rfl) (fun _ _ _ h => h) (by kernel_rfl) ?_ (by assumption) ?_
        · intro w hSw; (try dsimp only at hSw); go_simp
          all_goals first | with_reducible rfl | omega | (simp; omega) | (rw [IntKind.wrap_i64]; omega) | (rw [IntKind.wrap_u8]; omega) | exact Int.tmod_eq_emod_of_nonneg (by omega) | (simp [IntKind.wrap_i64, IntKind.wrap_u8]; omega)
        try simp only [Act.put, List.setIfInBounds_toArray, List.set_cons_zero, List.set_cons_succ]
        refine wpAnyH_done (by kernel_rfl) ?_ _
        go_wp2
        go_ret
        exact ⟨rfl, by assumption⟩
      · skip
        have hcv := conv_bytes (w := (w.alloc _).drew) (P := Tryd.prog) (RdB.one w 5 (48 + (n : Int) % 10) (by omega) (by omega)) 28 5 Tryd.underlying28 Tryd.underlying5 9 Tryd.underlying9 1
        go_simp
        refine hK.out _ _ ?_ (fun hHeld => ?_)
        · (try dsimp only) <;> (first | exact (by repeat (first | with_reducible exact bel_refl _ | with_reducible assumption | with_reducible refine bel_set ?_ (by first | (simp; done) | (simp; omega) | omega) _ | with_reducible refine bel_alloc ?_ _ | with_reducible refine bel_drew ?_ | with_reducible refine bel_drewN ?_ _ | with_reducible refine bel_trans ?_ (by assumption))))
        clear hK K
        try simp only [Act.put, List.setIfInBounds_toArray, List.set_cons_zero, List.set_cons_succ]
        refine h_call 2 (by kernel_rfl) rfl (by rfl) (fun K hK => ?_)
        go_simp
        refine (IH.out (n / 10) (by omega) (by omega) _).mono ?_
        rintro e w2 ⟨rfl, hb⟩
        refine hK.out _ _ ?_ (fun hHeld => ?_)
        · (try dsimp only) <;> (first | exact (by repeat (first | with_reducible exact bel_refl _ | with_reducible assumption | with_reducible refine bel_set ?_ (by first | (simp; done) | (simp; omega) | omega) _ | with_reducible refine bel_alloc ?_ _ | with_reducible refine bel_drew ?_ | with_reducible refine bel_drewN ?_ _ | with_reducible refine bel_trans ?_ (by assumption))))
        clear hK K
        try simp only [Act.put, List.setIfInBounds_toArray, List.set_cons_zero, List.set_cons_succ]
        refine h_take 9 (some 27) (.string ⟨(Lib.decDigits n).toArray⟩) rfl rfl (by kernel_rfl) (by kernel_rfl) (by kernel_rfl) (fun _ _ _ h => h) (by kernel_rfl) ?_ (by assumption) ?_
        · intro w hSw; (try dsimp only at hSw); go_simp
          all_goals (rw [if_neg (by omega), cat_arr (Lib.decDigits (n / 10)) [UInt8.ofNat (48 + (n : Int) % 10).toNat], digits_big h]; congr 5)
        try simp only [Act.put, List.setIfInBounds_toArray, List.set_cons_zero, List.set_cons_succ]
        refine h_take 10 (some 2) (.string ⟨(Lib.decDigits n).toArray⟩) rfl rfl (by kernel_rfl) (by kernel_rfl) (by kernel_rfl) (fun _ _ _ h => h) (by kernel_rfl) ?_ (by assumption) ?_
        · intro w hSw; (try dsimp only at hSw); go_simp
          all_goals first | with_reducible rfl | omega | (simp; omega) | (rw [IntKind.wrap_i64]; omega) | (rw [IntKind.wrap_u8]; omega) | exact Int.tmod_eq_emod_of_nonneg (by omega) | (simp [IntKind.wrap_i64, IntKind.wrap_u8]; omega)
        try simp only [Act.put, List.setIfInBounds_toArray, List.set_cons_zero, List.set_cons_succ]
        refine wpAnyH_done (by kernel_rfl) ?_ _
        go_wp2
        go_ret
        exact ⟨rfl, by assumption⟩
theorem l2Num_any (n : Int) (w : World) (h0 : -1000000000 ≤ n) (h1 : n ≤ 1000000000) : Calls Tryd.prog 73 #[.int .i64 n] w fun e w' => e = .returned (.string (numT n)) ∧ Below w.heap.size w w' := by
  by_cases h : n < 0
  · obtain ⟨m, rfl⟩ : ∃ m : Nat, n = -(m : Int) := ⟨n.natAbs, by omega⟩
    have hm : 1 ≤ m := by omega
    have hlen := digits_len (n := m) (by omega)
    have hw : IntKind.i64.wrap (m : Int) = m := by rw [IntKind.wrap_i64]; omega
    go_enter Tryd.func73, Tryd.ntmps73
    go_wp2_with fail
    refine (l2Num_nat m (by omega) _).mono ?_
    rintro e w' ⟨rfl, hb⟩
    go_wp2
    go_ret
    refine ⟨ret_str ?_, (by repeat (first | with_reducible exact bel_refl _ | with_reducible assumption | with_reducible refine bel_set ?_ (by first | (simp; done) | (simp; omega) | omega) _ | with_reducible refine bel_alloc ?_ _ | with_reducible refine bel_drew ?_ | with_reducible refine bel_drewN ?_ _ | with_reducible refine bel_trans ?_ (by assumption)))⟩
    unfold numT
    rw [Lib.itoa_neg m hm]
    exact cat_arr [45] _
  · obtain ⟨m, rfl⟩ : ∃ m : Nat, n = (m : Int) := ⟨n.toNat, by omega⟩
    refine (l2Num_nat m (by omega) w).mono ?_
    rintro e w' ⟨rfl, hb⟩
    refine ⟨ret_str ?_, hb⟩
    unfold numT
    rw [Lib.itoa_nonneg]
end Go.Proofs.YtgcjhicpkmhbaaaDoor
